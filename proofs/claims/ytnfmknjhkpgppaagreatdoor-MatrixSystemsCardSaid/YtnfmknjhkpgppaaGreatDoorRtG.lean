/- texts merged: RatP RatQ RatR RatS -/
import Derived.Test.YtnfmknjhkpgppaaGreatDoorRtE
import Derived.Test.YtnfmknjhkpgppaaGreatDoorRtF
import Derived.Test.YtnfmknjhkpgppaaGreatDoorRtB
/- append of a rational number; walk of package rat: In -/
namespace Go.Proofs.YtnfmknjhkpgppaaGreatDoor
open Go.RowKit
set_option linter.unusedVariables false

/-- no cell of the slice's block is a digit -/
def NoDig (cs : Array Value) : Prop := ∀ (i d : Nat), cs[i]? ≠ some (encD d)
def Clean (w : World) (v : Value) : Prop := ∀ g, v.ownBlock = some g → ∃ cur e fr, w.heap[g]? = some (.cells cur e fr) ∧ NoDig cur
theorem cell_of_obj' {w : World} {g : Nat} {cs : Array Value} {t : TypeId} {fr : Nat × Nat} (h : w.heap[g]? = some (.cells cs t fr)) (i : Nat) : w.cell? ⟨g, i, none⟩ = cs[i]? := by
  simp [World.cell?, h]
theorem Clean.kept {w w' : World} {v u : Value} {n : Nat} (hc : Clean w v) (hg : w.grownBy w' v.ownBlock) (h : NatV w u n) : NatV w' u n := by
  refine h.kept hg ?_
  obtain ⟨ao, c, rfl, _, hcs⟩ := h.open
  by_cases h0 : dig n = []
  · exact .inl (by rw [h0]; rfl)
  · refine .inr ?_
    intro e
    obtain ⟨d, t2, ht⟩ := List.exists_cons_of_ne_nil h0
    obtain ⟨b, off, rfl, hcell⟩ := hcs 0 (encD d) (by rw [ht]; rfl)
    obtain ⟨cur, ty, fr, hb, hn⟩ := hc b (by rw [← e]; rfl)
    rw [cell_of_obj' hb] at hcell
    exact hn _ _ hcell
theorem Clean.keptQ {w w' : World} {v u : Value} {q : Rat} (hc : Clean w v) (hg : w.grownBy w' v.ownBlock) (h : QV w u q) : QV w' u q := by
  obtain ⟨s, ao, l, c, ao2, l2, c2, h1, ⟨qq, ao', l', c', g1, g2, g3, g4⟩, h3, h4⟩ := h
  exact ⟨s, ao, l, c, ao2, l2, c2, h1, ⟨qq, ao', l', c', g1, g2, g3, hc.kept hg g4⟩, h3, hc.kept hg h4⟩
theorem Clean.alloc {w : World} {v : Value} (h : Clean w v) (o : Obj) : Clean (w.alloc o) v := fun g hg => by
  obtain ⟨cur, e, fr, h1, h2⟩ := h g hg
  exact ⟨cur, e, fr, by rw [heap_alloc_old w o (Array.getElem?_eq_some_iff.1 h1).1]; exact h1, h2⟩
theorem Clean.ext {w w' : World} {v : Value} (h : Clean w v) (hx : Ext w w') : Clean w' v := fun g hg => by
  obtain ⟨cur, e, fr, h1, h2⟩ := h g hg
  exact ⟨cur, e, fr, by rw [hx.block g (Array.getElem?_eq_some_iff.1 h1).1]; exact h1, h2⟩
theorem Clean.nil (w : World) : Clean w (.slice none 0 0) := fun g hg => by simp [Value.ownBlock] at hg
theorem noDig_list {l : List Value} (h : ∀ x ∈ l, ∀ d : Nat, x ≠ encD d) : NoDig l.toArray := fun i d e => by
  rw [List.getElem?_toArray] at e
  exact h _ (List.mem_of_getElem? e) d rfl
theorem NoDig.mem {cs : Array Value} (h : NoDig cs) {x : Value} (hx : x ∈ cs.toList) (d : Nat) : x ≠ encD d := by
  intro e
  obtain ⟨i, hi⟩ := List.mem_iff_getElem?.1 hx
  exact h i d (by rw [← Array.getElem?_toList, hi, e])

/-- what an append leaves holds no digit either -/
theorem append_clean {P : Program} {w : World} {t ty e : TypeId} {i : TypeInfo} {z : Value} (ht : P.underlying t = some (.slice e)) (hi : P.info? e = some i) (hz : i.zero = some z) (hzs : z.cells.size = i.size) (hsz : 0 < i.size)
    {B : Nat} {v : Value} {n : Nat} {xs : List Value} (hown : w.ownsRow B e i.size v n xs) (hc : Clean w v) (hzc : ∀ x ∈ z.cells.toList, ∀ d : Nat, x ≠ encD d)
    {a : Addr} {m c : Nat} {news : List Value} (hl : news.length = m * i.size) (hm : 0 < m) (hnews : ∀ j u, news[j]? = some u → w.cell? (a.add j) = some u) (h1 : ∀ u ∈ news, u.oneCell' = true) (hnd : ∀ x ∈ news, ∀ d : Nat, x ≠ encD d)
    (h63 : n + m ≤ maxLen) (hbytes : (n + m) * i.bytes ≤ 140737488355328) {v' : Value} {w' : World}
    (hr : (Builtin.append_ #[t, t] ty #[v, .slice (some a) m c]).run P w = .ok v' w') : Clean w' v' := by
  have hsmall : n + m ≤ 9223372036854775807 := by simp only [maxLen] at h63; omega
  have hzero : ∀ k, ∀ x ∈ (Builtin.zeroCells z.cells k).toList, ∀ d : Nat, x ≠ encD d := by
    intro k x hx d
    unfold Builtin.zeroCells at hx
    simp at hx
    obtain ⟨j, _, rfl⟩ := hx
    have hj : j % z.cells.size < z.cells.size := Nat.mod_lt _ (by omega)
    rw [getElem!_pos z.cells _ hj]
    exact hzc _ (by rw [← Array.mem_def]; exact Array.getElem_mem hj) d
  have happ : ∀ (l : List Value) (k : Nat), (∀ x ∈ l, ∀ d : Nat, x ≠ encD d) → NoDig (l.toArray ++ Builtin.zeroCells z.cells k) := by
    intro l k hl2 j d e2
    rw [← Array.getElem?_toList, Array.toList_append] at e2
    rcases List.mem_append.1 (List.mem_of_getElem? e2) with h | h
    · exact hl2 _ (by simpa using h) d rfl
    · exact hzero k _ h d rfl
  rcases hown.2 with ⟨rfl, rfl⟩ | ⟨g, cap, cur, rfl, hbg, hg, hnc, hcm, hcs, htake⟩
  · have h2 := run_append_nil (P := P) w t ty e i z ht hi hz a m c news hl hnews hm (by omega) (by have hb := hbytes; simp only [Nat.zero_add] at hb; omega)
    rw [hr] at h2
    simp only [Result.ok.injEq] at h2
    obtain ⟨rfl, rfl⟩ := h2
    intro g hg
    simp only [Value.ownBlock, Option.some.injEq] at hg
    subst hg
    exact ⟨_, _, _, heap_alloc_new w.drew _, happ _ _ hnd⟩
  · obtain ⟨cur2, e2, fr2, hb2, hn2⟩ := hc g rfl
    rw [hg] at hb2
    simp only [Option.some.injEq, Obj.cells.injEq] at hb2
    obtain ⟨rfl, rfl, rfl⟩ := hb2
    have hxs : ∀ x ∈ xs, ∀ d : Nat, x ≠ encD d := fun x hx d => hn2.mem (List.mem_of_mem_take (by rw [htake]; exact hx)) d
    by_cases hroom : n + m ≤ cap
    · have hfit : n * i.size + news.length ≤ cur.size := by rw [hl, hcs, ← Nat.add_mul]; exact Nat.mul_le_mul_right _ hroom
      have h2 := run_append_room (P := P) w t ty e i ht hi g n cap cur hg a m c news hl hnews h1 hroom hfit
      rw [hr] at h2
      simp only [Result.ok.injEq] at h2
      obtain ⟨rfl, rfl⟩ := h2
      intro g' hg'
      simp only [Value.ownBlock, Option.some.injEq] at hg'
      subst hg'
      refine ⟨_, e, _, setRow_heap w g cur _ e _ hg, noDig_list ?_⟩
      intro x hx
      rcases List.mem_append.1 hx with hx | hx
      · rcases List.mem_append.1 hx with hx | hx
        · exact hn2.mem (List.mem_of_mem_take hx)
        · exact hnd x hx
      · exact hn2.mem (List.mem_of_mem_drop hx)
    · have holds : ∀ j u, xs[j]? = some u → w.cell? ((⟨g, 0, none⟩ : Addr).add j) = some u := hown.cells (g := g) rfl
      have h2 := run_append_grow (P := P) w t ty e i z ht hi hz ⟨g, 0, none⟩ n cap xs hown.1 holds a m c news hl hnews (by omega) (by omega) (growslice_fits (by omega) hbytes)
      rw [hr] at h2
      simp only [Result.ok.injEq] at h2
      obtain ⟨rfl, rfl⟩ := h2
      intro g' hg'
      simp only [Value.ownBlock, Option.some.injEq] at hg'
      subst hg'
      refine ⟨_, _, _, heap_alloc_new w.drew _, ?_⟩
      have := happ (xs ++ news) (grownCap w (n + m) cap e - (n + m)) (fun x hx => (List.mem_append.1 hx).elim (hxs x) (hnd x))
      simpa using this

/-- append of one element of three cells, to a slice that holds no digit -/
theorem wp_app3 {P : Program} {rest : List Oper} {oa : Array Oper} {o : Oper} {a : Act} {Q : Exit → Act → World → Prop} {W : World} {x1 x2 x3 : Value} (hg : o.guard = none) {s x : Operand} {t e : TypeId} {z : Value} {bytes : Nat}
    (ho : o.op = .call { callee := .builtin .append, args := #[s, x], argTypes := #[t, t] }) (ei : EI P t e z 3 bytes) (hzc : ∀ x ∈ z.cells.toList, ∀ d : Nat, x ≠ encD d) {B : Nat} {v : Value} {n : Nat} {xs : List Value}
    (hown : W.ownsRow B e 3 v n xs) (hcl : Clean W v) (hs : a.eval s = v) {k : Nat} (hx : a.eval x = .slice (some ⟨k, 0, none⟩) 1 1) (hk : k = W.heap.size)
    (h1 : x1.oneCell' = true) (h2 : x2.oneCell' = true) (h3 : x3.oneCell' = true) (hd : ∀ y ∈ [x1, x2, x3], ∀ d : Nat, y ≠ encD d) (hlen : n + 1 ≤ 17592186044416) (hby : (n + 1) * bytes ≤ 140737488355328) (hB : B ≤ W.heap.size)
    (h : ∀ v' w', w'.ownsRow B e 3 v' (n + 1) (xs ++ [x1, x2, x3]) → Grew W v w' v' → Clean w' v' → wpList P oa Q rest (a.put o.dst v') w') : wpList P oa Q (o :: rest) a (W.alloc (.cells #[x1, x2, x3] e)) := by
  subst hk
  have hsrc : Src (W.alloc (.cells #[x1, x2, x3] e)) (.slice (some ⟨W.heap.size, 0, none⟩) 1 1) 1 3 [x1, x2, x3] := by
    refine ⟨_, _, rfl, rfl, ?_, fun _ => ⟨_, _, rfl, fun j y hy => ?_⟩⟩
    · intro y hy
      rcases List.mem_cons.1 hy with rfl | hy
      · exact h1
      · rcases List.mem_cons.1 hy with rfl | hy
        · exact h2
        · rw [List.mem_singleton] at hy; subst hy; exact h3
    · match j, hy with
      | 0, hy => simp at hy; subst hy; simp [World.cell?_alloc_new]
      | 1, hy => simp at hy; subst hy; simp [World.cell?_alloc_new]
      | 2, hy => simp at hy; subst hy; simp [World.cell?_alloc_new]
  refine wpList_plain hg fun K hK => ?_
  have ho2 := own_ext hown ((Ext.refl W).alloc (.cells #[x1, x2, x3] e))
  obtain ⟨v', w', hr, g2, g3⟩ := run_app (P := P) (ty := o.type) ei ho2 hsrc hlen hby (by simp; omega)
  obtain ⟨i, i1, i2, i3, i4⟩ := ei.info
  subst i4
  obtain ⟨ao, c, e1, e2, e3, e4⟩ := hsrc
  have hcl2 : Clean w' v' := append_clean (B := B) ei.und i1 i2 (by rw [i3]; exact ei.zc) (by rw [i3]; omega) (by rw [i3]; exact ho2) (hcl.alloc _) hzc (m := 1) (by rw [i3]; rfl) (by omega) (a := ⟨W.heap.size, 0, none⟩) (c := 1) (news := [x1, x2, x3]) (by
    intro j u hu
    match j, hu with
    | 0, hy => simp at hy; subst hy; simp [Addr.add, World.cell?_alloc_new]
    | 1, hy => simp at hy; subst hy; simp [Addr.add, World.cell?_alloc_new]
    | 2, hy => simp at hy; subst hy; simp [Addr.add, World.cell?_alloc_new]) e3 hd (by unfold maxLen; omega) hby hr
  unfold Oper.wp execOp
  simp only [ho, resolve, invoke, builtin, Sem.run_bind, Sem.run_pure, Result.andThen_ok, List.map_toArray, List.map_cons, List.map_nil, hs, hx, hr]
  refine hK _ _ (h v' w' g2 ⟨⟨g3.by'.os, g3.by'.tape, g3.by'.output, Nat.le_trans (by simp) g3.by'.size, fun k hk hn => ?_⟩, ?_⟩ hcl2)
  · rw [g3.by'.block k (by simp; omega) hn]; exact Below.heap_alloc W _ k hk
  · rcases g3.blk with e | e
    · exact .inl e
    · exact .inr fun k hk => by have := e k hk; simp at this; omega
end Go.Proofs.YtnfmknjhkpgppaaGreatDoor
/- walks of package rat: In, OutAll -/
namespace Go.Proofs.YtnfmknjhkpgppaaGreatDoor
open Go.RowKit
set_option linter.unusedVariables false

theorem info_q : (Tryz.prog.info? 60).map (fun i => (i.zero, i.size, i.bytes)) = some (some (.agg #[.bool false, .slice none 0 0, .slice none 0 0]), 3, 56) := by kernel_rfl
theorem ei_q : EI Tryz.prog 52 60 (.agg #[.bool false, .slice none 0 0, .slice none 0 0]) 3 56 := ⟨Tryz.underlying52, info_parts info_q, by decide, by decide⟩
theorem zc_q : ∀ x ∈ (Value.agg #[.bool false, .slice none 0 0, .slice none 0 0]).cells.toList, ∀ d : Nat, x ≠ encD d := by
  intro x hx d
  simp [Value.cells] at hx
  rcases hx with rfl | rfl <;> simp [encD]

abbrev TV := Value × Value × Value
def TV.v (t : TV) : Value := .agg #[t.1, t.2.1, t.2.2]
def flatT : List TV → List Value
  | [] => []
  | t :: ts => t.1 :: t.2.1 :: t.2.2 :: flatT ts
theorem flatT_len : ∀ ts : List TV, (flatT ts).length = ts.length * 3
  | [] => rfl
  | t :: ts => by simp only [flatT, List.length_cons, flatT_len ts]; omega
theorem flatT_app : ∀ (ts : List TV) (t : TV), flatT (ts ++ [t]) = flatT ts ++ [t.1, t.2.1, t.2.2]
  | [], t => rfl
  | a :: ts, t => by simp only [List.cons_append, flatT, flatT_app ts t]
theorem flatT_get : ∀ (ts : List TV) (i : Nat) (t : TV), ts[i]? = some t → (flatT ts)[i * 3]? = some t.1 ∧ (flatT ts)[i * 3 + 1]? = some t.2.1 ∧ (flatT ts)[i * 3 + 2]? = some t.2.2
  | [], i, t, h => by simp at h
  | a :: ts, 0, t, h => by
    simp only [List.getElem?_cons_zero, Option.some.injEq] at h
    subst h
    exact ⟨rfl, rfl, rfl⟩
  | a :: ts, i + 1, t, h => by
    have := flatT_get ts i t (by simpa using h)
    have e : (i + 1) * 3 = i * 3 + 3 := by omega
    rw [e]
    exact this

/-- a slice value that reads as rational numbers -/
def QsV (w : World) (v : Value) (qs : List Rat) : Prop := ∃ (ao : Option Addr) (c : Nat) (ts : List TV), v = .slice ao qs.length c ∧ qs.length ≤ 17592186044416 ∧ ts.length = qs.length ∧
  (∀ i t, ts[i]? = some t → ∃ b, ao = some ⟨b, 0, none⟩ ∧ w.cell? ⟨b, i * 3, none⟩ = some t.1 ∧ w.cell? ⟨b, i * 3 + 1, none⟩ = some t.2.1 ∧ w.cell? ⟨b, i * 3 + 2, none⟩ = some t.2.2) ∧
  (∀ (i : Nat) t q, ts[i]? = some t → qs[i]? = some q → QV w t.v q)
theorem QsV.ext {w w' : World} {v : Value} {qs : List Rat} (h : QsV w v qs) (hx : Ext w w') : QsV w' v qs := by
  obtain ⟨ao, c, ts, h1, h2, h3, h4, h5⟩ := h
  refine ⟨ao, c, ts, h1, h2, h3, fun i t ht => ?_, fun i t q ht hq => (h5 i t q ht hq).ext hx⟩
  obtain ⟨b, e, c1, c2, c3⟩ := h4 i t ht
  exact ⟨b, e, hx.cell c1, hx.cell c2, hx.cell c3⟩
/-- a row of the call's own reads -/
theorem QsV.own {w : World} {B : Nat} {e : TypeId} {v : Value} {n : Nat} {ts : List TV} {qs : List Rat} (h : w.ownsRow B e 3 v n (flatT ts)) (hn : n ≤ 17592186044416) (hl : qs.length = n) (ht : ts.length = n) (hq : ∀ (i : Nat) t q, ts[i]? = some t → qs[i]? = some q → QV w t.v q) : QsV w v qs := by
  rcases h.2 with ⟨rfl, h0⟩ | ⟨g, cap, cur, rfl, hb, hg, hc, _, hcs, htk⟩
  · subst h0
    exact ⟨none, 0, ts, by rw [hl], by omega, by omega, fun i t hi => by rw [List.eq_nil_of_length_eq_zero ht] at hi; simp at hi, hq⟩
  · refine ⟨_, _, ts, by rw [hl], by omega, by omega, fun i t hi => ?_, hq⟩
    obtain ⟨g1, g2, g3⟩ := flatT_get ts i t hi
    have c1 := h.cells (g := g) rfl _ _ g1
    have c2 := h.cells (g := g) rfl _ _ g2
    have c3 := h.cells (g := g) rfl _ _ g3
    rw [Addr.add_lit, Nat.zero_add] at c1 c2 c3
    exact ⟨g, rfl, c1, c2, c3⟩

set_option maxHeartbeats 1600000 in
set_option maxRecDepth 100000 in
theorem ratIn_any (v : Value) (l : List ByteArray) (w : World) (hv : Strs w v l) (hok : ∀ s ∈ l, RatOk s ∧ s.size ≤ 9223372036854775806) (hl : l.length ≤ 1000000) :
    Calls Tryz.prog 25 #[v] w fun e w' => ∃ u, e = .returned u ∧ QsV w' u (l.map ratOf) ∧ (∀ k, u.ownBlock = some k → w.heap.size ≤ k) ∧ Ext w w' := by
  obtain ⟨wo, rfl⟩ : ∃ wo : World, wo = w := ⟨_, rfl⟩
  obtain ⟨ao, c, rfl, hlen, hc⟩ := hv.open
  have HC := Lib.hid hc
  have HOK := Lib.hid hok
  clear hc hok hv
  go_enter Tryz.func25, Tryz.ntmps25
  go_wp2_with fail
  go_loopw [3, 8] (fun ov iv wr => ∃ (i : Nat) (ts : List TV), i ≤ l.length ∧ iv = .int .i64 i ∧ wr.ownsRow wo.heap.size 60 3 ov i (flatT ts) ∧ Clean wr ov ∧ Hid (ts.length = i) ∧ Hid (∀ (j : Nat) t q, ts[j]? = some t → (l.map ratOf)[j]? = some q → QV wr t.v q) ∧ Ext wo wr) (fun _ iv _ => l.length - (intOf iv).toNat)
  case atStart => exact ⟨0, [], Nat.zero_le _, rfl, World.ownsRow_nil _ _ _ _, Clean.nil _, rfl, fun j t q h => by simp at h, Ext.refl _⟩
  case round =>
    obtain ⟨i, ts, hi, rfl, HO, HCL, HTL, HQ, X⟩ := hrel
    by_cases hlt : i < l.length
    · obtain ⟨s, d1, d2, d3⟩ := get_lt hlt
      obtain ⟨b, off, rfl, hc0⟩ := (HC.out.ext X).at d1
      have hcell : wr.cell? ⟨b, off + i, none⟩ = some (.string s) := hc0
      have hki : (i : Int) < (l.length : Int) := by omega
      obtain ⟨ho1, ho2⟩ := HOK.out s (List.mem_of_getElem? d1.out)
      have HP := Lib.hid (fun W => parse_any s W ho1 ho2)
      have HEL : Hid ((l.map ratOf)[i]? = some (ratOf s)) := by show _ = _; rw [List.getElem?_map, d1.out]; rfl
      generalize ratOf s = q at *
      clear hc0 ho1 ho2 hlt
      go_wp2_with fail
      refine (HP.out _).mono ?_
      rintro e w4 ⟨u4, rfl, h4, X4⟩
      obtain ⟨s5, ao5, l5, c5, bo5, m5, c6, rfl, _, _, _⟩ := h4.opn
      have HO4 := own_ext HO X4
      have HC4 := HCL.ext X4
      have HQ4 := Lib.hid h4
      have XA := X.trans X4
      have hsz := XA.size
      clear h4 HO HCL
      go_wp2_with (at_builtin; refine wp_app3 (s := .tmp 12) (x := .tmp 15) rfl rfl ei_q zc_q HO4 HC4 rfl rfl rfl rfl rfl rfl (by intro y hy d; simp at hy; rcases hy with rfl | rfl | rfl <;> simp [encD]) (by omega) (by omega) (by omega) ?_; intro v' w' hown hgrew hclean)
      have HQ6 : Hid (∀ (j : Nat) t q, (ts ++ [((.bool s5, .slice ao5 l5 c5, .slice bo5 m5 c6) : TV)])[j]? = some t → (l.map ratOf)[j]? = some q → QV w' t.v q) := by
        intro j t q2 hj hq2
        rcases Nat.lt_or_ge j i with hji | hji
        · rw [List.getElem?_append_left (by rw [HTL.out]; exact hji)] at hj
          exact HC4.keptQ hgrew.by' ((HQ.out j t q2 hj hq2).ext X4)
        · rw [List.getElem?_append_right (by rw [HTL.out]; exact hji), HTL.out] at hj
          have hj0 : j - i = 0 := by
            have := (List.getElem?_eq_some_iff.1 hj).1
            simp at this
            omega
          rw [hj0] at hj
          simp only [List.getElem?_cons_zero, Option.some.injEq] at hj
          subst hj
          have : j = i := by omega
          subst this
          rw [HEL.out] at hq2
          cases hq2
          exact HC4.keptQ hgrew.by' HQ4.out
      go_roundw
      case rel => exact ⟨i + 1, ts ++ [(.bool s5, .slice ao5 l5 c5, .slice bo5 m5 c6)], by omega, by go_num, own_cast hown (by rw [flatT_app]) rfl, hclean, by show _ = _; rw [List.length_append, HTL.out]; rfl, HQ6, hgrew.extNew XA HO4 (Nat.le_refl _)⟩
      case measure => simp [intOf]; omega
    · have hil : l.length = i := by omega
      have HFR := Lib.hid (fun k hk => (HO.lt k hk).1)
      have HR := Lib.hid (QsV.own (qs := l.map ratOf) HO (by omega) (by rw [List.length_map]; exact hil) HTL.out HQ.out)
      clear hlt HCL HO
      go_wp2_with fail
      go_ret
      exact ⟨_, rfl, HR.out, HFR.out, X⟩
end Go.Proofs.YtnfmknjhkpgppaaGreatDoor
/- walks of package rat: sum, Sum -/
namespace Go.Proofs.YtnfmknjhkpgppaaGreatDoor
open Go.RowKit
set_option linter.unusedVariables false

theorem clean_full {w : World} {B g n : Nat} {e : TypeId} {xs : List Value} (h : w.ownsRow B e 3 (.slice (some ⟨g, 0, none⟩) n n) n xs) (hx : ∀ x ∈ xs, ∀ d : Nat, x ≠ encD d) : Clean w (.slice (some ⟨g, 0, none⟩) n n) := by
  intro k hk
  simp only [Value.ownBlock, Option.some.injEq] at hk
  subst hk
  rcases h.2 with ⟨e1, _⟩ | ⟨g2, cap, cur, e1, _, hg, _, _, hcs, htk⟩
  · simp at e1
  · simp only [Value.slice.injEq, Option.some.injEq, Addr.mk.injEq, and_true, true_and] at e1
    obtain ⟨rfl, rfl⟩ := e1
    refine ⟨cur, e, _, hg, ?_⟩
    intro i d hi
    rw [← Array.getElem?_toList] at hi
    have hm := List.mem_of_getElem? hi
    have : cur.toList = xs := by rw [← htk, List.take_of_length_le (by rw [Array.length_toList]; omega)]
    rw [this] at hm
    exact hx _ hm d rfl

/-- three stores into a cell of the call's own -/
structure St3 (w : World) (B g : Nat) (ty : TypeId) (x y z : Value) : Prop where
  f0 : w.frozen? ⟨g, 0, none⟩ = false
  c0 : w.cell? ⟨g, 0, none⟩ = some x
  f1 : ∀ a, (w.setCell ⟨g, 0, none⟩ a).frozen? ⟨g, 1, none⟩ = false
  c1 : ∀ a, (w.setCell ⟨g, 0, none⟩ a).cell? ⟨g, 1, none⟩ = some y
  f2 : ∀ a b, ((w.setCell ⟨g, 0, none⟩ a).setCell ⟨g, 1, none⟩ b).frozen? ⟨g, 2, none⟩ = false
  c2 : ∀ a b, ((w.setCell ⟨g, 0, none⟩ a).setCell ⟨g, 1, none⟩ b).cell? ⟨g, 2, none⟩ = some z
  own : ∀ a b c, (((w.setCell ⟨g, 0, none⟩ a).setCell ⟨g, 1, none⟩ b).setCell ⟨g, 2, none⟩ c).ownsRow B ty 3 (.slice (some ⟨g, 0, none⟩) 1 1) 1 [a, b, c]
  by' : ∀ a b c, w.grownBy (((w.setCell ⟨g, 0, none⟩ a).setCell ⟨g, 1, none⟩ b).setCell ⟨g, 2, none⟩ c) (some g)
  k0 : w.cell? ⟨g, 0, none⟩ = some x
  k1 : w.cell? ⟨g, 1, none⟩ = some y
  k2 : w.cell? ⟨g, 2, none⟩ = some z
theorem cell3 {w : World} {B g : Nat} {ty : TypeId} {x y z : Value} (h : w.ownsRow B ty 3 (.slice (some ⟨g, 0, none⟩) 1 1) 1 [x, y, z]) {j : Nat} {u : Value} (hj : [x, y, z][j]? = some u) : w.cell? ⟨g, j, none⟩ = some u := by
  have := h.cells (g := g) rfl j u hj
  rwa [Addr.add_lit, Nat.zero_add] at this
theorem st3 {w : World} {B g : Nat} {ty : TypeId} {x y z : Value} (h : w.ownsRow B ty 3 (.slice (some ⟨g, 0, none⟩) 1 1) 1 [x, y, z]) : St3 w B g ty x y z := by
  have s1 := fun a => h.stored 0 a
  have s2 := fun a b => (s1 a).1.stored 1 b
  have s3 := fun a b c => (s2 a b).1.stored 2 c
  exact {
    f0 := h.frozenAt 0
    c0 := cell3 h (j := 0) rfl
    f1 := fun a => (s1 a).1.frozenAt 1
    c1 := fun a => cell3 (s1 a).1 (j := 1) rfl
    f2 := fun a b => (s2 a b).1.frozenAt 2
    c2 := fun a b => cell3 (s2 a b).1 (j := 2) rfl
    own := fun a b c => (s3 a b c).1
    by' := fun a b c => Lib.grownBy_trans (Lib.grownBy_trans (s1 a).2 (s2 a b).2) (s3 a b c).2
    k0 := cell3 h (j := 0) rfl
    k1 := cell3 h (j := 1) rfl
    k2 := cell3 h (j := 2) rfl }

def errsL (l : List ByteArray) : Int := firstF (l.map ratErr)
theorem errsL_zero {l : List ByteArray} (h : errsL l = 0) : ∀ s ∈ l, ratErr s = 0 := by
  unfold errsL at h
  induction l with
  | nil => intro s hs; cases hs
  | cons a t ih =>
    rw [List.map_cons, firstF] at h
    by_cases h1 : ratErr a = 0
    · rw [if_neg (by simpa using h1)] at h
      intro s hs
      rcases List.mem_cons.1 hs with rfl | hs
      · exact h1
      · exact ih h s hs
    · rw [if_pos h1] at h
      exact absurd h h1
end Go.Proofs.YtnfmknjhkpgppaaGreatDoor
/- walks of package rat: Sum, positive, Odds -/
namespace Go.Proofs.YtnfmknjhkpgppaaGreatDoor
open Go.RowKit
set_option linter.unusedVariables false

end Go.Proofs.YtnfmknjhkpgppaaGreatDoor
