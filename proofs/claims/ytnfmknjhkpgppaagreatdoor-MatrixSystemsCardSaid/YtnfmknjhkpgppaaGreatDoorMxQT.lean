/- texts merged: MxQ MxT -/
import Derived.Test.YtnfmknjhkpgppaaGreatDoorMxZ
/- matrix.In: rows of the call's own; bounds of whole rows -/
namespace Go.Proofs.YtnfmknjhkpgppaaGreatDoor
open Go.RowKit
set_option linter.unusedVariables false

theorem wholeL_bd {r : List Rat} {k : Nat} (h : ∀ q ∈ r, RB k q) : ∀ z ∈ wholeL r, z.natAbs < 10 ^ (k + (1 + k * r.length)) := by
  intro z hz
  unfold wholeL at hz
  obtain ⟨q, hq, rfl⟩ := List.mem_map.1 hz
  have hf := wholeF_lt (k := k) r 1 1 (by decide) fun q hq => (h q hq).2
  rw [Int.natAbs_mul, Int.natAbs_natCast]
  exact pow_mul_lt (h q hq).1 (Nat.lt_of_le_of_lt (Nat.div_le_self _ _) hf)
theorem wholeM_bd {rows : List (List Rat)} {n m k K : Nat} (hr : Rect rows n m) (h : ∀ r ∈ rows, ∀ q ∈ r, RB k q) (hK : k + (1 + k * m) = K) : ∀ i j, i < n → (atZ (wholeM rows) i j).natAbs ≤ 10 ^ K := by
  intro i j hi
  have hl : i < rows.length := by rw [hr.len]; exact hi
  have e : (wholeM rows).getD i [] = wholeL rows[i] := by
    unfold wholeM
    rw [List.getD_eq_getElem?_getD, List.getElem?_map, List.getElem?_eq_getElem hl]; rfl
  unfold atZ
  rw [e, List.getD_eq_getElem?_getD]
  cases hj : (wholeL rows[i])[j]? with
  | none => simp
  | some z =>
    have := wholeL_bd (h _ (List.getElem_mem hl)) z (List.mem_of_getElem? hj)
    rw [hr.wide _ (List.getElem_mem hl), hK] at this
    exact Nat.le_of_lt this
theorem red_dig {n K : Nat} (hn : n ≤ 40) (hK : K ≤ 90000) : ∀ z : Int, z.natAbs ≤ (n * 10 ^ K) ^ n → (dig z.natAbs).length ≤ 100000000 := by
  intro z hz
  have h1 : n * 10 ^ K ≤ 10 ^ (2 + K) := by
    rw [Nat.pow_add]
    exact Nat.mul_le_mul_right _ (by omega)
  have h2 : (n * 10 ^ K) ^ n ≤ 10 ^ ((2 + K) * n) := by
    rw [Nat.pow_mul]
    exact Nat.pow_le_pow_left h1 n
  have h4 : (2 + K) * n ≤ 90002 * 40 := Nat.mul_le_mul (by omega) hn
  generalize (2 + K) * n = E at h2 h4
  have h3 : z.natAbs < 10 ^ (E + 1) := by
    have h5 := Nat.pow_lt_pow_succ (a := 10) (n := E) (by omega)
    exact Nat.lt_of_le_of_lt (Nat.le_trans hz h2) h5
  exact dig_le10 h3 (by omega)
theorem hx_pos {n K : Nat} (hn : 1 ≤ n) : 1 ≤ n * 10 ^ K := Nat.mul_pos hn (Nat.pow_pos (by omega))

theorem own_QsO {w : World} {B : Nat} {v : Value} {n : Nat} {ts : List TV} {qs : List Rat} (h : w.ownsRow B 60 3 v n (flatT ts)) (hc : Clean w v) (hl : qs.length = n) (ht : ts.length = n) (hq : ∀ (i : Nat) t q, ts[i]? = some t → qs[i]? = some q → QV w t.v q) : QsO w B v qs := by
  subst hl
  exact ⟨ts, h, hc, ht, hq⟩
theorem QsO.isSlice {w : World} {B : Nat} {v : Value} {qs : List Rat} (h : QsO w B v qs) : ∃ po pc, v = .slice po qs.length pc := by
  obtain ⟨ts, h1, _⟩ := h
  rcases h1.2 with ⟨h1, h2⟩ | ⟨g2, cap2, cur, e, _⟩
  · exact ⟨none, 0, by rw [h1, h2]⟩
  · exact ⟨_, _, e⟩

set_option maxHeartbeats 1600000 in
set_option maxRecDepth 100000 in
theorem ratIn_own (v : Value) (l : List ByteArray) (w : World) (hv : Strs w v l) (hok : ∀ s ∈ l, RatOk s ∧ s.size ≤ 9223372036854775806) (hl : l.length ≤ 1000000) :
    Calls Tryz.prog 25 #[v] w fun e w' => ∃ u, e = .returned u ∧ QsO w' w.heap.size u (l.map ratOf) ∧ Ext w w' := by
  obtain ⟨wo, rfl⟩ : ∃ wo : World, wo = w := ⟨_, rfl⟩
  obtain ⟨ao, c, rfl, hlen, hc⟩ := hv.open
  have HC := Lib.hid hc
  have HOK := Lib.hid hok
  clear hc hok hv
  go_enter Tryz.func25, Tryz.ntmps25
  go_wp2_with fail
  go_loopw [3, 8] (fun ov iv wr => ∃ (i : Nat) (ts : List TV), i ≤ l.length ∧ iv = .int .i64 i ∧ wr.ownsRow wo.heap.size 60 3 ov i (flatT ts) ∧ Clean wr ov ∧ Hid (ts.length = i) ∧ Hid (∀ (j : Nat) t q, ts[j]? = some t → (l.map ratOf)[j]? = some q → QV wr t.v q) ∧ Ext wo wr) (fun _ iv _ => l.length - (intOf iv).toNat)
  case atStart => exact ⟨0, [], Nat.zero_le _, rfl, World.ownsRow_nil _ _ _ _, Clean.nil _, rfl, fun j t q h => by simp at h, Ext.refl _⟩
  case round =>
    obtain ⟨i, ts, hi, rfl, HO, HCL, HTL, HQ, X⟩ := hrel
    by_cases hlt : i < l.length
    · obtain ⟨s, d1, d2, d3⟩ := get_lt hlt
      obtain ⟨b, off, rfl, hc0⟩ := (HC.out.ext X).at d1
      have hcell : wr.cell? ⟨b, off + i, none⟩ = some (.string s) := hc0
      have hki : (i : Int) < (l.length : Int) := by omega
      obtain ⟨ho1, ho2⟩ := HOK.out s (List.mem_of_getElem? d1.out)
      have HP := Lib.hid (fun W => parse_any s W ho1 ho2)
      have HEL : Hid ((l.map ratOf)[i]? = some (ratOf s)) := by show _ = _; rw [List.getElem?_map, d1.out]; rfl
      generalize ratOf s = q at *
      clear hc0 ho1 ho2 hlt
      go_wp2_with fail
      refine (HP.out _).mono ?_
      rintro e w4 ⟨u4, rfl, h4, X4⟩
      obtain ⟨s5, ao5, l5, c5, bo5, m5, c6, rfl, _, _, _⟩ := h4.opn
      have HO4 := own_ext HO X4
      have HC4 := HCL.ext X4
      have HQ4 := Lib.hid h4
      have XA := X.trans X4
      have hsz := XA.size
      clear h4 HO HCL
      go_wp2_with (at_builtin; refine wp_app3 (s := .tmp 12) (x := .tmp 15) rfl rfl ei_q zc_q HO4 HC4 rfl rfl rfl rfl rfl rfl (by intro y hy d; simp at hy; rcases hy with rfl | rfl | rfl <;> simp [encD]) (by omega) (by omega) (by omega) ?_; intro v' w' hown hgrew hclean)
      have HQ6 : Hid (∀ (j : Nat) t q, (ts ++ [((.bool s5, .slice ao5 l5 c5, .slice bo5 m5 c6) : TV)])[j]? = some t → (l.map ratOf)[j]? = some q → QV w' t.v q) := by
        intro j t q2 hj hq2
        rcases Nat.lt_or_ge j i with hji | hji
        · rw [List.getElem?_append_left (by rw [HTL.out]; exact hji)] at hj
          exact HC4.keptQ hgrew.by' ((HQ.out j t q2 hj hq2).ext X4)
        · rw [List.getElem?_append_right (by rw [HTL.out]; exact hji), HTL.out] at hj
          have hj0 : j - i = 0 := by
            have := (List.getElem?_eq_some_iff.1 hj).1
            simp at this
            omega
          rw [hj0] at hj
          simp only [List.getElem?_cons_zero, Option.some.injEq] at hj
          subst hj
          have : j = i := by omega
          subst this
          rw [HEL.out] at hq2
          cases hq2
          exact HC4.keptQ hgrew.by' HQ4.out
      go_roundw
      case rel => exact ⟨i + 1, ts ++ [(.bool s5, .slice ao5 l5 c5, .slice bo5 m5 c6)], by omega, by go_num, own_cast hown (by rw [flatT_app]) rfl, hclean, by show _ = _; rw [List.length_append, HTL.out]; rfl, HQ6, hgrew.extNew XA HO4 (Nat.le_refl _)⟩
      case measure => simp [intOf]; omega
    · have hil : l.length = i := by omega
      have HR := Lib.hid (own_QsO (qs := l.map ratOf) HO HCL (by rw [List.length_map]; exact hil) HTL.out HQ.out)
      clear hlt HCL HO
      go_wp2_with fail
      go_ret
      exact ⟨_, rfl, HR.out, X⟩

/-- rows of numbers, each of the call's own, in blocks that differ -/
structure QqR (w : World) (B : Nat) (v : Value) (us : List Value) (M : List (List Rat)) : Prop where
  own : w.ownsRow B 52 1 v M.length us
  cl : Clean w v
  len : us.length = M.length
  row : ∀ (i : Nat) u qs, us[i]? = some u → M[i]? = some qs → QsO w B u qs
  awy : ∀ (i : Nat) u, us[i]? = some u → Away w u v
  dis : ∀ (i j : Nat) u u', us[i]? = some u → us[j]? = some u' → i ≠ j → u.ownBlock = none ∨ u.ownBlock ≠ u'.ownBlock
def QqO (w : World) (B : Nat) (v : Value) (M : List (List Rat)) : Prop := ∃ us, QqR w B v us M
theorem QqO.nil (w : World) (B : Nat) : QqO w B (.slice none 0 0) [] := ⟨[], World.ownsRow_nil _ _ _ _, Clean.nil _, rfl, fun i u zs h => by simp at h, fun i u h => by simp at h, fun i j u u' h => by simp at h⟩
theorem QqO.ext {w w' : World} {B : Nat} {v : Value} {M : List (List Rat)} (h : QqO w B v M) (hx : Ext w w') : QqO w' B v M := by
  obtain ⟨us, h⟩ := h
  exact ⟨us, own_ext h.own hx, h.cl.ext hx, h.len, fun i u zs a b => (h.row i u zs a b).ext hx, fun i u a => (h.awy i u a).ext hx, h.dis⟩
theorem QqO.lt {w : World} {B : Nat} {v : Value} {M : List (List Rat)} (h : QqO w B v M) : ∀ k, v.ownBlock = some k → B ≤ k ∧ k < w.heap.size := by
  obtain ⟨us, h⟩ := h
  exact fun k hk => h.own.lt k hk
theorem QqO.grew {w0 w w' : World} {B : Nat} {v v' : Value} {M : List (List Rat)} (h : QqO w B v M) (hg : Grew w v w' v') (he : Ext w0 w) (hB : w0.heap.size ≤ B) : Ext w0 w' :=
  hg.ext he (fun k hk => Nat.le_trans hB (h.lt k hk).1)
theorem QqO.new {w w' : World} {B : Nat} {v u : Value} {M : List (List Rat)} {qs : List Rat} (h : QqO w B v M) (hx : Ext w w') (hu : QsO w' w.heap.size u qs) : ∃ us, QqR w' B v us M ∧ Away w' u v ∧ ∀ (i : Nat) u', us[i]? = some u' → u.ownBlock = none ∨ u.ownBlock ≠ u'.ownBlock := by
  obtain ⟨us, h⟩ := h
  refine ⟨us, ⟨own_ext h.own hx, h.cl.ext hx, h.len, fun i u zs a b => (h.row i u zs a b).ext hx, fun i u a => (h.awy i u a).ext hx, h.dis⟩, fun k hk => ⟨(hu.lt k hk).2, fun e => by have := (hu.lt k hk).1; have := (h.own.lt k e).2; omega⟩, fun i u' hi => ?_⟩
  cases hb : u.ownBlock with
  | none => exact .inl rfl
  | some k =>
    refine .inr fun e => ?_
    have h1 := (hu.lt k hb).1
    have h2 := (h.awy i u' hi k e.symm).1
    omega
/-- append of an own row -/
theorem wp_appQq {rest : List Oper} {oa : Array Oper} {o : Oper} {a : Act} {Q : Exit → Act → World → Prop} {W : World} {yo : Option Addr} {yl yc : Nat} (hg : o.guard = none) {sl x : Operand}
    (ho : o.op = .call { callee := .builtin .append, args := #[sl, x], argTypes := #[51, 51] }) {B : Nat} {v : Value} {M : List (List Rat)} {qs : List Rat} (hO : QqO W B v M) (hz : QsO W B (.slice yo yl yc) qs)
    (hN : ∃ us, QqR W B v us M ∧ Away W (.slice yo yl yc) v ∧ ∀ (i : Nat) u', us[i]? = some u' → (Value.slice yo yl yc).ownBlock = none ∨ (Value.slice yo yl yc).ownBlock ≠ u'.ownBlock)
    (hs : a.eval sl = v) {k : Nat} (hx : a.eval x = .slice (some ⟨k, 0, none⟩) 1 1) (hk : k = W.heap.size) (hlen : M.length ≤ 1000000) (hB : B ≤ W.heap.size)
    (h : ∀ v' w', QqO w' B v' (M ++ [qs]) → Grew W v w' v' → Clean W v → wpList Tryz.prog oa Q rest (a.put o.dst v') w') : wpList Tryz.prog oa Q (o :: rest) a (W.alloc (.cells #[.slice yo yl yc] 52)) := by
  obtain ⟨us, hR, haw, hd⟩ := hN
  refine wp_app1c hg ho ei_qs zc_qs hR.own hR.cl hs hx hk rfl (by intro d; simp [encD]) (by omega) (by omega) hB ?_
  intro v' w' hown hgrew hclean
  have hlen := hR.len
  have kp : ∀ {u : Value} {zs : List Rat}, QsO W B u zs → Away W u v → QsO w' B u zs := fun hz hn => QsO.kept hR.cl hgrew.by' hz hn.ne
  refine h v' w' ⟨us ++ [.slice yo yl yc], ?_, hclean, by simp [hR.len], fun i u z2 hi hz2 => ?_, fun i u hi => ?_, fun i j u u2 hi hj hij => ?_⟩ hgrew hR.cl
  · rw [List.length_append]; exact hown
  · rcases Nat.lt_or_ge i us.length with hlt | hge
    · rw [List.getElem?_append_left (by omega)] at hi hz2
      exact kp (hR.row i u z2 hi hz2) (hR.awy i u hi)
    · rw [List.getElem?_append_right (by omega)] at hi hz2
      have e1 : i - us.length = 0 := by have := (List.getElem?_eq_some_iff.1 hi).1; simp at this; omega
      have e2 : i - M.length = 0 := by omega
      rw [e1] at hi
      rw [e2] at hz2
      simp only [List.getElem?_cons_zero, Option.some.injEq] at hi hz2
      subst hi
      subst hz2
      exact kp hz haw
  · rcases Nat.lt_or_ge i us.length with hlt | hge
    · rw [List.getElem?_append_left (by omega)] at hi
      exact (hR.awy i u hi).grew hgrew
    · rw [List.getElem?_append_right (by omega)] at hi
      have e1 : i - us.length = 0 := by have := (List.getElem?_eq_some_iff.1 hi).1; simp at this; omega
      rw [e1] at hi
      simp only [List.getElem?_cons_zero, Option.some.injEq] at hi
      subst hi
      exact haw.grew hgrew
  · have one : ∀ {x : Nat} {y : Value}, (us ++ [Value.slice yo yl yc])[x]? = some y → (x < us.length ∧ us[x]? = some y) ∨ (x = us.length ∧ y = .slice yo yl yc) := by
      intro x y hxy
      rcases Nat.lt_or_ge x us.length with hlt | hge
      · rw [List.getElem?_append_left (by omega)] at hxy
        exact .inl ⟨hlt, hxy⟩
      · rw [List.getElem?_append_right (by omega)] at hxy
        have e1 : x - us.length = 0 := by have := (List.getElem?_eq_some_iff.1 hxy).1; simp at this; omega
        rw [e1] at hxy
        simp only [List.getElem?_cons_zero, Option.some.injEq] at hxy
        exact .inr ⟨by omega, hxy.symm⟩
    rcases one hi with ⟨a1, b1⟩ | ⟨a1, b1⟩ <;> rcases one hj with ⟨a2, b2⟩ | ⟨a2, b2⟩
    · exact hR.dis i j u u2 b1 b2 hij
    · subst b2
      rcases hd i u b1 with e | e
      · cases hu : u.ownBlock with
        | none => exact .inl rfl
        | some k => exact .inr (by rw [e]; simp)
      · exact .inr fun e2 => e e2.symm
    · subst b1
      exact hd j u2 b2
    · omega

set_option maxHeartbeats 1600000 in
set_option maxRecDepth 100000 in
theorem mIn_own (v : Value) (m : List (List ByteArray)) (w : World) (hv : Rows Value.string w v m) (hok : ∀ l ∈ m, ∀ s ∈ l, RatOk s ∧ s.size ≤ 9223372036854775806) (hl : m.length ≤ 1000000) (hll : ∀ l ∈ m, l.length ≤ 1000000) :
    Calls Tryz.prog 26 #[v] w fun e w' => ∃ u, e = .returned u ∧ QqO w' w.heap.size u (m.map (·.map ratOf)) ∧ Ext w w' := by
  obtain ⟨wo, rfl⟩ : ∃ wo : World, wo = w := ⟨_, rfl⟩
  obtain ⟨us, hr, hul, hel⟩ := hv
  obtain ⟨ao, c, rfl, _, hlen, _, hc⟩ := hr
  have HC := Lib.hid hc
  have HEL := Lib.hid hel
  have HUL := Lib.hid hul
  have HOK := Lib.hid hok
  have HLL := Lib.hid hll
  have hu1 : us.length ≤ 1000000 := by omega
  clear hc hel hok hll hul hl
  go_enter Tryz.func26, Tryz.ntmps26
  go_wp2_with fail
  go_loopw [3, 8] (fun ov iv wr => ∃ (i : Nat), i ≤ us.length ∧ iv = .int .i64 i ∧ Hid (QqO wr wo.heap.size ov ((m.take i).map (·.map ratOf))) ∧ Ext wo wr) (fun _ iv _ => us.length - (intOf iv).toNat)
  case atStart => exact ⟨0, Nat.zero_le _, rfl, QqO.nil _ _, Ext.refl _⟩
  case round =>
    obtain ⟨i, hi, rfl, HO, X⟩ := hrel
    by_cases hlt : i < us.length
    · obtain ⟨u, d1, d2, d3⟩ := get_lt hlt
      obtain ⟨l, q1, q2, q3⟩ := get_lt (xs := m) (k := i) (by rw [← HUL.out]; exact hlt)
      obtain ⟨b, off, rfl, hc0⟩ := HC.out.ext X i u d1.out
      have hcell : wr.cell? ⟨b, off + i, none⟩ = some u := hc0
      have hlm := List.mem_of_getElem? q1.out
      have HIN := Lib.hid (fun W (hx : Ext wo W) => ratIn_own u l W ((HEL.out i u l d1.out q1.out).ext hx) (HOK.out l hlm) (HLL.out l hlm))
      obtain ⟨ao2, c2, rfl, hlen2, hc2⟩ := (HEL.out i u l d1.out q1.out).open
      have hki : (i : Int) < (us.length : Int) := by omega
      have HML : Hid (((m.take i).map (·.map ratOf)).length ≤ 1000000) := by show _ ≤ _; rw [List.length_map, List.length_take]; omega
      have HTK : Hid ((m.take (i + 1)).map (·.map ratOf) = (m.take i).map (·.map ratOf) ++ [l.map ratOf]) := by show _ = _; rw [q3.out, List.map_append]; rfl
      generalize (m.take i).map (·.map ratOf) = M1 at *
      generalize l.map ratOf = qs at *
      clear hc0 hlt hc2 hlm
      go_wp2_with fail
      refine (HIN.out _ X).mono ?_
      rintro e w4 ⟨u4, rfl, h4, X4⟩
      obtain ⟨yo, yc, rfl⟩ := h4.isSlice
      have HO4 := HO.out.ext X4
      have h4' := h4.mono X.size
      have hnew := HO.out.new X4 h4
      have XA := X.trans X4
      have hsz := XA.size
      clear HO
      go_wp2_with (at_builtin; refine wp_appQq (sl := .tmp 12) (x := .tmp 15) rfl rfl HO4 h4' hnew rfl rfl rfl HML.out hsz ?_; intro v' w' hown hgrew hclean)
      have HE := Lib.hid (QqO.grew HO4 hgrew XA (Nat.le_refl _))
      rw [← HTK.out] at hown
      have HOW := Lib.hid hown
      go_roundw
      case rel => exact ⟨i + 1, by omega, by go_num, HOW, HE.out⟩
      case measure => simp [intOf] <;> omega
    · have hil : us.length = i := by omega
      have hmm : m.take i = m := by rw [← hil, HUL.out]; exact List.take_length
      have HR0 := HO.out
      rw [hmm] at HR0
      have HR := Lib.hid HR0
      clear HR0
      clear hlt hmm HO
      go_wp2_with fail
      go_ret
      exact ⟨_, rfl, HR.out, X⟩

end Go.Proofs.YtnfmknjhkpgppaaGreatDoor
/- walk: matrix.Solve -/
namespace Go.Proofs.YtnfmknjhkpgppaaGreatDoor
open Go.RowKit
set_option linter.unusedVariables false

/-- rows of which the first ones have grown by the right side -/
structure SlvQ (w : World) (B i : Nat) (v0 t : Value) (us : List Value) (M M' : List (List Rat)) : Prop where
  so : w.ownsRow B 52 1 v0 M.length us
  sl : us.length = M.length
  sr : ∀ (j : Nat) u qs, i ≤ j → us[j]? = some u → M[j]? = some qs → QsO w B u qs
  sa : ∀ (j : Nat) u, i ≤ j → us[j]? = some u → u.ownBlock = none ∨ (v0.ownBlock ≠ u.ownBlock ∧ t.ownBlock ≠ u.ownBlock)
  sd : ∀ (j k : Nat) u u', i ≤ j → us[j]? = some u → i ≤ k → us[k]? = some u' → j ≠ k → u.ownBlock = none ∨ u.ownBlock ≠ u'.ownBlock
  vt : t.ownBlock = none ∨ v0.ownBlock ≠ t.ownBlock
  sz : ∀ k, v0.ownBlock = some k → k < w.heap.size
  tt : ∃ us', w.ownsRow B 52 1 t M'.length us' ∧ Clean w t ∧ us'.length = M'.length ∧ (∀ (j : Nat) u qs, us'[j]? = some u → M'[j]? = some qs → QsV w u qs ∧ (qs = [] ∨ Away w u t)) ∧
    ∀ (j k : Nat) u u', us'[j]? = some u → i ≤ k → us[k]? = some u' → u'.ownBlock = none ∨ u.ownBlock ≠ u'.ownBlock
theorem SlvQ.ext {w w' : World} {B i : Nat} {v0 t : Value} {us : List Value} {M M' : List (List Rat)} (h : SlvQ w B i v0 t us M M') (hx : Ext w w') : SlvQ w' B i v0 t us M M' := by
  obtain ⟨us', a, b, c, d, e⟩ := h.tt
  exact ⟨own_ext h.so hx, h.sl, fun j u qs a b c => (h.sr j u qs a b c).ext hx, h.sa, h.sd, h.vt, fun k hk => Nat.lt_of_lt_of_le (h.sz k hk) hx.size,
    us', own_ext a hx, b.ext hx, c, fun j u qs x y => ⟨(d j u qs x y).1.ext hx, (d j u qs x y).2.imp id (·.ext hx)⟩, e⟩
theorem SlvQ.start {w : World} {B : Nat} {v0 : Value} {us : List Value} {M : List (List Rat)} (h : QqR w B v0 us M) : SlvQ w B 0 v0 (.slice none 0 0) us M [] :=
  ⟨h.own, h.len, fun j u qs _ a b => h.row j u qs a b, fun j u _ hj => by
    cases hb : u.ownBlock with
    | none => exact .inl rfl
    | some k => exact .inr ⟨(h.awy j u hj k hb).2, by simp [Value.ownBlock]⟩, fun j k u u' _ a _ b c => h.dis j k u u' a b c, .inl rfl, fun k hk => (h.own.lt k hk).2,
    [], World.ownsRow_nil _ _ _ _, Clean.nil _, rfl, fun j u qs h => by simp at h, fun j k u u' h => by simp at h⟩
/-- the shape of the source and the row at a place -/
theorem SlvQ.at {w : World} {B i n c : Nat} {ao : Option Addr} {t : Value} {us : List Value} {M M' : List (List Rat)} (h : SlvQ w B i (.slice ao n c) t us M M') {j : Nat} {u : Value} (hu : us[j]? = some u) : ∃ g, ao = some ⟨g, 0, none⟩ ∧ w.cell? ⟨g, j, none⟩ = some u := by
  have hlt := (List.getElem?_eq_some_iff.1 hu).1
  have hl := h.sl
  obtain ⟨g, cap, e, _⟩ := own_open h.so (by omega)
  simp only [Value.slice.injEq] at e
  obtain ⟨rfl, rfl, rfl⟩ := e
  have := h.so.cells (g := g) rfl j u hu
  rw [Addr.add_lit, Nat.zero_add] at this
  exact ⟨g, rfl, this⟩
/-- the row at the border has grown by a number -/
theorem SlvQ.step {w w' : World} {B i : Nat} {v0 t u v' : Value} {us : List Value} {M M' : List (List Rat)} {qs qs' : List Rat} (h : SlvQ w B i v0 t us M M') (hu : us[i]? = some u) (hq : M[i]? = some qs) (hg : Grew w u w' v') (hc : Clean w u) (hv : QsO w' B v' qs') (hl : qs'.length ≤ 1000000) :
    SlvQ w' B (i + 1) v0 t us M M' ∧ QsV w' v' qs' ∧ Away w' v' t ∧ (∀ (k : Nat) u', i + 1 ≤ k → us[k]? = some u' → u'.ownBlock = none ∨ v'.ownBlock ≠ u'.ownBlock) := by
  obtain ⟨us', a, b, c, d, e⟩ := h.tt
  have hsz : w.heap.size ≤ w'.heap.size := hg.by'.size
  have hself := h.sa i u (Nat.le_refl _) hu
  have hulo := h.sr i u qs (Nat.le_refl _) hu hq
  have kpT : ∀ {x : Value}, x.ownBlock = none ∨ x.ownBlock ≠ u.ownBlock → u.ownBlock = none ∨ x.ownBlock ≠ u.ownBlock := fun h => by
    rcases h with h | h
    · cases hb : u.ownBlock with
      | none => exact .inl rfl
      | some k => exact .inr (by rw [h]; simp)
    · exact .inr h
  have nev : ∀ {x : Value}, (u.ownBlock = none ∨ x.ownBlock ≠ u.ownBlock) → (∀ k, x.ownBlock = some k → k < w.heap.size) → ∀ k, v'.ownBlock = some k → x.ownBlock ≠ some k := fun {x} hx hlt k hk e2 => by
    rcases hg.blk with e3 | e3
    · rw [e3] at hk
      rcases hx with hx | hx
      · rw [hx] at hk; cases hk
      · exact hx (by rw [hk, e2])
    · have h1 := e3 k hk
      have h2 := hlt k e2
      omega
  have hvu : u.ownBlock = none ∨ v0.ownBlock ≠ u.ownBlock := hself.imp id (·.1)
  have htu : u.ownBlock = none ∨ t.ownBlock ≠ u.ownBlock := hself.imp id (·.2)
  have own1 : ∀ {x : Value}, (u.ownBlock = none ∨ x.ownBlock ≠ u.ownBlock) → x.ownBlock ≠ u.ownBlock ∨ x.ownBlock = none := fun {x} hx => by
    rcases hx with hx | hx
    · cases hb : x.ownBlock with
      | none => exact .inr rfl
      | some k => exact .inl (by rw [hx]; simp)
    · exact .inl hx
  refine ⟨⟨own_kept h.so hg.by' (own1 hvu), h.sl, fun j x qs2 hj hx hq2 => ?_, fun j x hj hx => h.sa j x (by omega) hx, fun j k x x' h1 h2 h3 h4 h5 => h.sd j k x x' (by omega) h2 (by omega) h4 h5, h.vt, fun k hk => Nat.lt_of_lt_of_le (h.sz k hk) hsz,
    us', own_kept a hg.by' (own1 htu), ?_, c, fun j x qs2 hx hq2 => ?_, fun j k x x' h1 h2 h3 => e j k x x' h1 (by omega) h3⟩, hv.toV (by omega), fun k hk => ⟨(hv.lt k hk).2, nev htu (fun k hk => (a.lt k hk).2) k hk⟩, fun k x hk hx => ?_⟩
  · refine QsO.kept hc hg.by' (h.sr j x qs2 (by omega) hx hq2) ?_
    rcases h.sd j i x u (by omega) hx (Nat.le_refl _) hu (by omega) with e2 | e2
    · exact .inl e2
    · exact .inr e2
  · exact b.keptC2 hg.by' fun k hk e2 => by
      rcases htu with h1 | h1
      · rw [h1] at e2; cases e2
      · exact h1 (by rw [hk, e2])
  · obtain ⟨d1, d2⟩ := d j x qs2 hx hq2
    have hxu : u.ownBlock = none ∨ x.ownBlock ≠ u.ownBlock := e j i x u hx (Nat.le_refl _) hu
    refine ⟨hc.keptV hg.by' d1 ((own1 hxu).symm), d2.imp id fun haw k hk => ⟨Nat.lt_of_lt_of_le (haw k hk).1 hsz, (haw k hk).2⟩⟩
  · cases hb : x.ownBlock with
    | none => exact .inl rfl
    | some k2 =>
      refine .inr fun e2 => ?_
      have hxl := h.sr k x
      have hlt := (List.getElem?_eq_some_iff.1 hx).1
      have hl2 := h.sl
      have hxo := h.sr k x _ (by omega) hx (List.getElem?_eq_getElem (by omega))
      refine nev (x := x) ?_ (fun k hk => (hxo.lt k hk).2) k2 e2 hb
      have := h.sd i k u x (Nat.le_refl _) hu (by omega) hx (by omega)
      rcases this with h1 | h1
      · exact .inl h1
      · exact .inr fun e3 => h1 e3.symm
/-- that row is appended -/
theorem wp_appSlv {rest : List Oper} {oa : Array Oper} {o : Oper} {a : Act} {Q : Exit → Act → World → Prop} {W : World} {yo : Option Addr} {yl yc : Nat} (hg : o.guard = none) {sl x : Operand}
    (ho : o.op = .call { callee := .builtin .append, args := #[sl, x], argTypes := #[51, 51] }) {B i : Nat} {v0 t : Value} {us : List Value} {M M' : List (List Rat)} {qs : List Rat} (hS : SlvQ W B i v0 t us M M')
    (hq : QsV W (.slice yo yl yc) qs) (haw : Away W (.slice yo yl yc) t) (hsp : ∀ (k : Nat) u', i ≤ k → us[k]? = some u' → u'.ownBlock = none ∨ (Value.slice yo yl yc).ownBlock ≠ u'.ownBlock)
    (hs : a.eval sl = t) {k : Nat} (hx : a.eval x = .slice (some ⟨k, 0, none⟩) 1 1) (hk : k = W.heap.size) (hlen : M'.length ≤ 1000000) (hB : B ≤ W.heap.size)
    (h : ∀ t' w', SlvQ w' B i v0 t' us M (M' ++ [qs]) → Grew W t w' t' → (∀ k, t.ownBlock = some k → B ≤ k) → (∃ po pc, t' = .slice po (M'.length + 1) pc) → wpList Tryz.prog oa Q rest (a.put o.dst t') w') : wpList Tryz.prog oa Q (o :: rest) a (W.alloc (.cells #[.slice yo yl yc] 52)) := by
  obtain ⟨us', h1, h2, h3, h4, h5⟩ := hS.tt
  refine wp_app1c hg ho ei_qs zc_qs h1 h2 hs hx hk rfl (by intro d; simp [encD]) (by omega) (by omega) hB ?_
  intro t' w' hown hgrew hclean
  have hsz := hgrew.by'.size
  have own1 : ∀ {x : Value}, (x.ownBlock = none ∨ t.ownBlock ≠ x.ownBlock) → x.ownBlock = none ∨ x.ownBlock ≠ t.ownBlock := fun {x} hx => hx.imp id fun h e => h e.symm
  have nev : ∀ {x : Value}, (x.ownBlock = none ∨ t.ownBlock ≠ x.ownBlock) → (∀ k, x.ownBlock = some k → k < W.heap.size) → x.ownBlock = none ∨ t'.ownBlock ≠ x.ownBlock := fun {x} hx hlt => by
    rcases hgrew.blk with e3 | e3
    · rw [e3]; exact hx
    · cases hb : x.ownBlock with
      | none => exact .inl rfl
      | some k => exact .inr fun e2 => by have := e3 k e2; have := hlt k hb; omega
  have hrow : ∀ (j : Nat) u, i ≤ j → us[j]? = some u → ∃ qs, M[j]? = some qs ∧ QsO W B u qs := fun j u hj hu => by
    have hlt := (List.getElem?_eq_some_iff.1 hu).1
    have hl2 := hS.sl
    exact ⟨_, List.getElem?_eq_getElem (by omega), hS.sr j u _ hj hu (List.getElem?_eq_getElem (by omega))⟩
  have hsa2 : ∀ (j : Nat) u, i ≤ j → us[j]? = some u → u.ownBlock = none ∨ t.ownBlock ≠ u.ownBlock := fun j u hj hu => (hS.sa j u hj hu).imp id (·.2)
  have hv0 : v0.ownBlock ≠ t.ownBlock ∨ v0.ownBlock = none := by
    rcases hS.vt with e | e
    · cases hb : v0.ownBlock with
      | none => exact .inr rfl
      | some k => exact .inl (by rw [e]; simp)
    · exact .inl e
  refine h t' w' ⟨own_kept hS.so hgrew.by' hv0, hS.sl, fun j u qs2 hj hu hq2 => ?_, fun j u hj hu => ?_, hS.sd, ?_, fun k hk => Nat.lt_of_lt_of_le (hS.sz k hk) hsz, us' ++ [.slice yo yl yc], ?_, hclean, by simp [h3], fun j u q2 hj hq2 => ?_, fun j k2 u u' hj hk2 hu' => ?_⟩ hgrew (fun k hk => (h1.lt k hk).1) ?_
  · exact QsO.kept h2 hgrew.by' (hS.sr j u qs2 hj hu hq2) (own1 (hsa2 j u hj hu))
  · obtain ⟨q3, _, hro⟩ := hrow j u hj hu
    rcases hS.sa j u hj hu with e | e
    · exact .inl e
    · rcases nev (hsa2 j u hj hu) (fun k hk => (hro.lt k hk).2) with e3 | e3
      · exact .inl e3
      · exact .inr ⟨e.1, e3⟩
  · cases hb : t'.ownBlock with
    | none => exact .inl rfl
    | some k =>
      refine .inr fun e => ?_
      rcases hgrew.blk with e3 | e3
      · rcases hS.vt with e4 | e4
        · rw [e3, e4] at hb; cases hb
        · exact e4 (by rw [e, ← e3, hb])
      · have := e3 k hb
        have := hS.sz k e
        omega
  · rw [List.length_append]; exact hown
  · rcases Nat.lt_or_ge j M'.length with hlt | hge
    · rw [List.getElem?_append_left (by omega)] at hj hq2
      obtain ⟨g1, g2⟩ := h4 j u q2 hj hq2
      exact ⟨h2.keptA hgrew.by' g1 g2, g2.imp id (·.grew hgrew)⟩
    · rw [List.getElem?_append_right (by omega)] at hj hq2
      have e1 : j - us'.length = 0 := by have := (List.getElem?_eq_some_iff.1 hj).1; simp at this; omega
      have e2 : j - M'.length = 0 := by omega
      rw [e1] at hj
      rw [e2] at hq2
      simp only [List.getElem?_cons_zero, Option.some.injEq] at hj hq2
      subst hj
      subst hq2
      exact ⟨h2.keptA hgrew.by' hq (.inr haw), .inr (haw.grew hgrew)⟩
  · rcases Nat.lt_or_ge j us'.length with hlt | hge
    · rw [List.getElem?_append_left (by omega)] at hj
      exact h5 j k2 u u' hj hk2 hu'
    · rw [List.getElem?_append_right (by omega)] at hj
      have e1 : j - us'.length = 0 := by have := (List.getElem?_eq_some_iff.1 hj).1; simp at this; omega
      rw [e1] at hj
      simp only [List.getElem?_cons_zero, Option.some.injEq] at hj
      subst hj
      exact hsp k2 u' hk2 hu'
  · obtain ⟨po, pc, e⟩ := own_isSlice hown
    exact ⟨po, pc, e⟩
theorem SlvQ.done {w : World} {B i : Nat} {v0 t : Value} {us : List Value} {M M' : List (List Rat)} (h : SlvQ w B i v0 t us M M') (hl : M'.length ≤ 1000000) : QssV w t M' := by
  obtain ⟨us', a, b, c, d, e⟩ := h.tt
  exact ⟨us', own_row a (by omega), c, fun j u qs x y => (d j u qs x y).1⟩

def solveE (m : List (List ByteArray)) (l : List ByteArray) : Int := if matE m ≠ 0 then matE m else if vecE l ≠ 0 then vecE l else if l.length ≠ m.length then 3 else 0
/-- the rows with the right side -/
def augQ (m : List (List ByteArray)) (l : List ByteArray) : List (List Rat) := List.zipWith (fun r b => r ++ [b]) (numM m) (l.map ratOf)
def SlvPost (m : List (List ByteArray)) (l : List ByteArray) (w : World) (e : Ending) (w' : World) : Prop := Ext w w' ∧
  ((sysL (wideL m) (augQ m l) = none ∧ ∃ q : Int, (q = 8 ∨ q = 18) ∧ e = .returned (.tuple #[.slice none 0 0, .int .i64 q])) ∨
    ∃ xs, sysL (wideL m) (augQ m l) = some xs ∧ ((outsG xs = none ∧ e = .returned (.tuple #[.slice none 0 0, .int .i64 2])) ∨ ∃ os u, outsG xs = some os ∧ e = .returned (.tuple #[u, .int .i64 0]) ∧ Strs w' u os))

set_option maxHeartbeats 3200000 in
set_option maxRecDepth 100000 in
theorem mSolve_err (v u : Value) (m : List (List ByteArray)) (l : List ByteArray) (w : World) (hv : Rows Value.string w v m) (hu : Strs w u l) (hs : ∀ l ∈ m, ∀ s ∈ l, s.size ≤ 9223372036854775806) (hs2 : ∀ s ∈ l, s.size ≤ 9223372036854775806) (he : solveE m l ≠ 0) :
    Calls Tryz.prog 6 #[v, u] w fun e w' => e = .returned (.tuple #[.slice none 0 0, .int .i64 (solveE m l)]) ∧ Ext w w' := by
  have HC1 := Lib.hid (fun q (hq : matE m = q) => mCheck_any v m w hv hs q hq)
  have HC2 := Lib.hid (fun q W (hx : Ext w W) (hq : vecE l = q) => checkVec_any u l W (hu.ext hx) hs2 q hq)
  obtain ⟨us, hr, hul, hel⟩ := hv
  obtain ⟨ao, c, rfl, _, hlen, _, hc⟩ := hr
  obtain ⟨ao2, c2, rfl, hlen2, hd⟩ := hu.open
  unfold solveE at *
  by_cases h1 : matE m = 0
  · have HC1 := Lib.hid (HC1.out _ h1)
    rw [if_neg (by simpa using h1)] at he ⊢
    by_cases h2 : vecE l = 0
    · have HC2 := Lib.hid (fun W hx => HC2.out _ W hx h2)
      rw [if_neg (by simpa using h2)] at he ⊢
      by_cases h3 : l.length = m.length
      · rw [if_neg (by simpa using h3)] at he
        exact absurd rfl he
      · rw [if_pos h3]
        have hb : ((l.length : Int) != (us.length : Int)) = true := by rw [bne_iff_ne]; omega
        clear hc hd hel hul hs hs2 he h1 h2 h3 hu
        go_enter Tryz.func6, Tryz.ntmps6
        go_wp2_with fail
        refine HC1.out.mono ?_
        rintro e w1 ⟨rfl, X1⟩
        go_wp2_with fail
        refine (HC2.out _ X1).mono ?_
        rintro e w2 ⟨rfl, X2⟩
        go_wp2_with fail
        go_ret2
        exact ⟨rfl, X1.trans X2⟩
    · rw [if_pos h2]
      have HC2 := Lib.hid (fun W hx => HC2.out _ W hx rfl)
      generalize vecE l = p at *
      have hb : (p != 0) = true := by simp [h2]
      clear hc hd hel hul hs hs2 he h1 h2 hu
      go_enter Tryz.func6, Tryz.ntmps6
      go_wp2_with fail
      refine HC1.out.mono ?_
      rintro e w1 ⟨rfl, X1⟩
      go_wp2_with fail
      refine (HC2.out _ X1).mono ?_
      rintro e w2 ⟨rfl, X2⟩
      go_wp2_with fail
      go_ret2
      exact ⟨rfl, X1.trans X2⟩
  · rw [if_pos h1]
    have HC1 := Lib.hid (HC1.out _ rfl)
    generalize matE m = p at *
    have hb : (p != 0) = true := by simp [h1]
    clear hc hd hel hul hs hs2 he h1 hu HC2
    go_enter Tryz.func6, Tryz.ntmps6
    go_wp2_with fail
    refine HC1.out.mono ?_
    rintro e w1 ⟨rfl, X1⟩
    go_wp2_with fail
    go_ret2
    exact ⟨rfl, X1⟩
end Go.Proofs.YtnfmknjhkpgppaaGreatDoor
