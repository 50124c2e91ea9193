/- texts merged: MxS MxU MxV MxW MxX -/
import Derived.Test.YtnfmknjhkpgppaaGreatDoorMxR
import Derived.Test.YtnfmknjhkpgppaaGreatDoorMxQT
import Derived.Test.YtnfmknjhkpgppaaGreatDoorMxY
import Derived.Test.YtnfmknjhkpgppaaGreatDoorRgY
/- walk: matrix.Det -/
namespace Go.Proofs.YtnfmknjhkpgppaaGreatDoor
open Go.RowKit
set_option linter.unusedVariables false

/-- one whole number in a block of the call's own -/
structure AccI (w : World) (O : Nat) (s : Bool) (a : Option Addr) (l c : Nat) (z : Int) : Prop where
  row : w.ownsRow O 58 2 (.slice (some ⟨O, 0, none⟩) 1 1) 1 [.bool s, .slice a l c]
  val : IntV w (.agg #[.bool s, .slice a l c]) z
theorem AccI.ext {w w' : World} {O : Nat} {s : Bool} {a : Option Addr} {l c : Nat} {z : Int} (h : AccI w O s a l c z) (hx : Ext w w') : AccI w' O s a l c z := ⟨own_ext h.row hx, h.val.ext hx⟩
theorem AccI.new {w : World} {s : Bool} {a : Option Addr} {l c : Nat} {z : Int} (h : IntV w (.agg #[.bool s, .slice a l c]) z) {O : Nat} (hO : w.heap.size = O) : AccI (w.alloc (.cells #[.bool s, .slice a l c] 58)) O s a l c z := by
  subst hO
  exact ⟨World.ownsRow_lit (base := w.heap.size) (e := 58) (size := 2) w #[.bool s, .slice a l c] 1 (Nat.le_refl _) (by unfold maxLen; omega) (by simp), h.ext ((Ext.refl w).alloc _)⟩
theorem AccI.cells {w : World} {O : Nat} {s : Bool} {a : Option Addr} {l c : Nat} {z : Int} (h : AccI w O s a l c z) : w.cell? ⟨O, 0, none⟩ = some (.bool s) ∧ w.cell? ⟨O, 1, none⟩ = some (.slice a l c) := by
  have cc : ∀ {j : Nat} {u : Value}, [.bool s, .slice a l c][j]? = some u → w.cell? ⟨O, j, none⟩ = some u := by
    intro j u hj
    have := h.row.cells (g := O) rfl j u hj
    rwa [Addr.add_lit, Nat.zero_add] at this
  exact ⟨cc rfl, cc rfl⟩
theorem clean_full2 {w : World} {B g n : Nat} {e : TypeId} {xs : List Value} (h : w.ownsRow B e 2 (.slice (some ⟨g, 0, none⟩) n n) n xs) (hx : ∀ x ∈ xs, ∀ d : Nat, x ≠ encD d) : Clean w (.slice (some ⟨g, 0, none⟩) n n) := by
  intro k hk
  simp only [Value.ownBlock, Option.some.injEq] at hk
  subst hk
  rcases h.2 with ⟨e1, _⟩ | ⟨g2, cap, cur, e1, _, hg, _, _, hcs, htk⟩
  · simp at e1
  · simp only [Value.slice.injEq, Option.some.injEq, Addr.mk.injEq, and_true, true_and] at e1
    obtain ⟨rfl, rfl⟩ := e1
    refine ⟨cur, e, _, hg, ?_⟩
    intro i d hi
    rw [← Array.getElem?_toList] at hi
    have hm := List.mem_of_getElem? hi
    have : cur.toList = xs := by rw [← htk, List.take_of_length_le (by rw [Array.length_toList]; omega)]
    rw [this] at hm
    exact hx _ hm d rfl
theorem AccI.clean {w : World} {O : Nat} {s : Bool} {a : Option Addr} {l c : Nat} {z : Int} (h : AccI w O s a l c z) : Clean w (.slice (some ⟨O, 0, none⟩) 1 1) := clean_full2 h.row (by intro y hy d; simp at hy; rcases hy with rfl | rfl <;> simp [encD])
theorem AccI.put {w : World} {O : Nat} {s : Bool} {a : Option Addr} {l c : Nat} {z : Int} (h : AccI w O s a l c z) {s2 : Bool} {a2 : Option Addr} {l2 c2 : Nat} {y : Int} (hy : IntV w (.agg #[.bool s2, .slice a2 l2 c2]) y) :
    w.frozen? ⟨O, 0, none⟩ = false ∧ (w.setCell ⟨O, 0, none⟩ (.bool s2)).frozen? ⟨O, 1, none⟩ = false ∧ (w.setCell ⟨O, 0, none⟩ (.bool s2)).cell? ⟨O, 1, none⟩ = some (.slice a l c) ∧
    ∃ w7, (w.setCell ⟨O, 0, none⟩ (.bool s2)).setCell ⟨O, 1, none⟩ (.slice a2 l2 c2) = w7 ∧ w.grownBy w7 (some O) ∧ AccI w7 O s2 a2 l2 c2 y := by
  have t1 := h.row.stored 0 (.bool s2)
  have t2 := t1.1.stored 1 (.slice a2 l2 c2)
  have hgr := Lib.grownBy_trans t1.2 t2.2
  have hc1 := t1.1.cells (g := O) rfl 1 (.slice a l c) rfl
  rw [Addr.add_lit, Nat.zero_add] at hc1
  exact ⟨h.row.frozenAt 0, t1.1.frozenAt 1, hc1, _, rfl, hgr, t2.1, h.clean.keptI (v := .slice (some ⟨O, 0, none⟩) 1 1) hgr hy⟩
theorem outF_zero : outF 0 = (⟨#[48]⟩, 0) := by decide +kernel
theorem outF_one : outF 1 = (⟨#[49]⟩, 0) := by decide +kernel
def detE (m : List (List ByteArray)) : Int := if matE m ≠ 0 then matE m else if m.length ≠ wideL m then 3 else 0
/-- the product of the factors of rows -/
def facP : List (List Rat) → Nat
  | [] => 1
  | r :: t => wholeF r 1 * facP t
theorem facP_prod : ∀ (rows : List (List Rat)), ((facP rows : Nat) : Rat) = prodN (facM rows) rows.length
  | [] => rfl
  | r :: t => by
    have := facP_prod t
    show ((wholeF r 1 * facP t : Nat) : Rat) = facM (r :: t) 0 * prodN (fun i => facM (r :: t) (i + 1)) t.length
    have e1 : facM (r :: t) 0 = ((wholeF r 1 : Nat) : Rat) := rfl
    have e2 : (fun i => facM (r :: t) (i + 1)) = facM t := rfl
    rw [e1, e2, ← this, Rat.natCast_mul]
theorem facP_snoc : ∀ (rows : List (List Rat)) (r : List Rat), facP (rows ++ [r]) = facP rows * wholeF r 1
  | [], r => by show wholeF r 1 * 1 = 1 * wholeF r 1; omega
  | a :: t, r => by show wholeF a 1 * facP (t ++ [r]) = wholeF a 1 * facP t * wholeF r 1; rw [facP_snoc t r, Nat.mul_assoc]
theorem facP_pos : ∀ (rows : List (List Rat)), 0 < facP rows
  | [] => by decide
  | a :: t => Nat.mul_pos (wholeF_pos a 1 (by decide)) (facP_pos t)
theorem facP_lt {k m : Nat} : ∀ (rows : List (List Rat)), (∀ r ∈ rows, r.length ≤ m ∧ ∀ q ∈ r, RB k q) → facP rows < 10 ^ ((1 + k * m) * rows.length + 1)
  | [], _ => by show 1 < 10 ^ (0 + 1); decide
  | r :: t, h => by
    have h1 := facP_lt t fun x hx => h x (List.mem_cons_of_mem _ hx)
    obtain ⟨h2, h3⟩ := h r (List.mem_cons_self ..)
    have h4 := wholeF_lt (k := k) r 1 1 (by decide) fun q hq => (h3 q hq).2
    have h5 : wholeF r 1 < 10 ^ (1 + k * m) := pow_mono h4 (by have := Nat.mul_le_mul_left k h2; omega)
    show wholeF r 1 * facP t < _
    refine pow_mono (pow_mul_lt h5 h1) ?_
    rw [List.length_cons, Nat.mul_succ]; omega
theorem RedZ.detD {n w x : Nat} {rows : List (List Rat)} {M : List (List Int)} {c : Nat → Nat} {d : Int} {neg : Bool} {cur : Nat} (h : RedZ n w x (wholeM rows) M n c d neg cur) (hr : Rect rows n n) (hm : cur ≤ n) :
    Rat.divInt (if neg = true then - d else d) ((facP rows : Nat) : Int) = detL n rows := by
  rw [← h.det1 hr hm, Rat.divInt_eq_div]
  have := facP_prod rows
  rw [hr.len] at this
  rw [← this]
  rfl

set_option maxHeartbeats 3200000 in
set_option maxRecDepth 100000 in
theorem mDet_err (v : Value) (m : List (List ByteArray)) (w : World) (hv : Rows Value.string w v m) (hs : ∀ l ∈ m, ∀ s ∈ l, s.size ≤ 9223372036854775806) (he : detE m ≠ 0) :
    Calls Tryz.prog 7 #[v] w fun e w' => e = .returned (.tuple #[.string ⟨#[]⟩, .int .i64 (detE m)]) ∧ Ext w w' := by
  have HC1 := Lib.hid (fun q (hq : matE m = q) => mCheck_any v m w hv hs q hq)
  have HW := Lib.hid (fun W (hx : Ext w W) => mWidth_any v m W (hv.ext hx))
  obtain ⟨us, hr, hul, hel⟩ := hv
  obtain ⟨ao, c, rfl, _, hlen, _, hc⟩ := hr
  unfold detE at *
  by_cases h1 : matE m = 0
  · have HC1 := Lib.hid (HC1.out _ h1)
    rw [if_neg (by simpa using h1)] at he ⊢
    by_cases h2 : m.length = wideL m
    · rw [if_neg (by simpa using h2)] at he
      exact absurd rfl he
    · rw [if_pos h2]
      have hb : ((us.length : Int) != (wideL m : Int)) = true := by rw [bne_iff_ne]; omega
      generalize wideL m = wd at *
      clear hc hel hul hs he h1 h2
      go_enter Tryz.func7, Tryz.ntmps7
      go_wp2_with fail
      refine HC1.out.mono ?_
      rintro e w1 ⟨rfl, X1⟩
      go_wp2_with fail
      refine (HW.out _ X1).mono ?_
      rintro e w2 ⟨rfl, X2⟩
      go_wp2_with fail
      go_ret2
      exact ⟨rfl, X1.trans X2⟩
  · rw [if_pos h1]
    have HC1 := Lib.hid (HC1.out _ rfl)
    generalize matE m = p at *
    have hb : (p != 0) = true := by simp [h1]
    clear hc hel hul hs he h1 HW
    go_enter Tryz.func7, Tryz.ntmps7
    go_wp2_with fail
    refine HC1.out.mono ?_
    rintro e w1 ⟨rfl, X1⟩
    go_wp2_with fail
    go_ret2
    exact ⟨rfl, X1⟩

set_option maxHeartbeats 16000000 in
set_option maxRecDepth 100000 in
theorem mDet_go (v : Value) (m : List (List ByteArray)) (n : Nat) (w : World) (htab : TabPow w) (hv : Rows Value.string w v m) (hs : ∀ l ∈ m, ∀ s ∈ l, s.size ≤ 9223372036854775806) (h1 : matE m = 0) (hwn : wideL m = n) (hln : m.length = n) (hn : 1 ≤ n) :
    Calls Tryz.prog 7 #[v] w fun e w' => e = .returned (.tuple #[.string (outF (detL n (numM m))).1, .int .i64 (outF (detL n (numM m))).2]) ∧ Ext w w' := by
  obtain ⟨wo, rfl⟩ : ∃ wo : World, wo = w := ⟨_, rfl⟩
  obtain ⟨hm40, hok⟩ := matE_zero hs h1
  have HC1 := Lib.hid (mCheck_any v m wo hv hs 0 h1)
  have HW := Lib.hid (fun W (hx : Ext wo W) => mWidth_any v m W (hv.ext hx))
  rw [hwn] at HW
  have HI := Lib.hid (fun W (hx : Ext wo W) => mIn_any v m W (hv.ext hx) (fun l hl => (hok l hl).2.2) (by omega) (fun l hl => by have := (hok l hl).2.1; omega))
  have hrb : ∀ r ∈ numM m, ∀ q ∈ r, RB 2000 q := numM_RB fun l hl s hs => ratOf_RB2k ((hok l hl).2.2 s hs).1
  have hrect : Rect (numM m) n n := ⟨by unfold numM; rw [List.length_map, hln], fun r hr => by
    unfold numM at hr
    obtain ⟨l, hl, rfl⟩ := List.mem_map.1 hr
    rw [List.length_map, (hok l hl).1, hwn]⟩
  have HIM : Hid (∀ W, Ext wo W → Calls Tryz.prog 26 #[v] W fun e w' => ∃ u, e = .returned u ∧ QssV w' u (numM m) ∧ Ext W w') := fun W hx => HI.out W hx
  clear HI
  obtain ⟨rows, hrows⟩ : ∃ rows, numM m = rows := ⟨_, rfl⟩
  rw [hrows] at HIM hrb hrect ⊢
  have HTAB := Lib.hid htab
  have HSM := Lib.hid (fun W => small_any 1 W (by omega))
  obtain ⟨us, hr, hul, hel⟩ := hv
  obtain ⟨ao, c, rfl, _, hlen, _, hc⟩ := hr
  have hun : us.length = n := by omega
  rw [hun] at HC1 HW HIM ⊢
  have hN4 : n ≤ 40 := by omega
  clear hc hel hul hs h1 hok hm40 hlen hrows hun hwn hln htab
  obtain ⟨K, hK⟩ : ∃ K, 2000 + (1 + 2000 * n) = K := ⟨_, rfl⟩
  have HRL : Hid (rows.length = n) := hrect.len
  have HWD : Hid (∀ r ∈ rows, r.length = n) := hrect.wide
  have HQB := Lib.hid hrb
  have HRC := Lib.hid hrect
  have HBD : Hid (∀ i j, i < n → (atZ (wholeM rows) i j).natAbs ≤ 10 ^ K) := wholeM_bd hrect hrb hK
  have HRD := Lib.hid (fun (go cap : Nat) (W : World) (X : Ext wo W) (HZ : ZzO W wo.heap.size (.slice (some ⟨go, 0, none⟩) n cap) (wholeM rows)) => reduce_any wo W go n cap n n (10 ^ K) (wholeM rows) X HZ (wholeM_rect hrect) HBD.out (hx_pos hn) (by omega) (by omega) (by omega) (red_dig hN4 (by omega)))
  have HDG : Hid (∀ z : Int, z.natAbs ≤ (n * 10 ^ K) ^ n → (dig z.natAbs).length ≤ 100000000) := red_dig hN4 (by omega)
  have HWM : Hid ((wholeM rows).length = n) := (wholeM_rect hrect).len
  have HWT : Hid (∀ i r, rows[i]? = some r → (wholeM rows).take (i + 1) = (wholeM rows).take i ++ [wholeL r] ∧ facP (rows.take (i + 1)) = facP (rows.take i) * wholeF r 1) := fun i r h => by
    have h2 : (wholeM rows)[i]? = some (wholeL r) := by unfold wholeM; rw [List.getElem?_map, h]; rfl
    obtain ⟨h3, h4⟩ := List.getElem?_eq_some_iff.1 h2
    obtain ⟨h5, h6⟩ := List.getElem?_eq_some_iff.1 h
    rw [List.take_succ_eq_append_getElem h3, h4, List.take_succ_eq_append_getElem h5, h6, facP_snoc]
    exact ⟨rfl, rfl⟩
  have HFB : Hid (∀ i, (dig (facP (rows.take i))).length ≤ 100000000) := fun i => by
    have h2 := facP_lt (k := 2000) (m := n) (rows.take i) fun r hr => ⟨Nat.le_of_eq (hrect.wide r (List.mem_of_mem_take hr)), hrb r (List.mem_of_mem_take hr)⟩
    have h3 : (rows.take i).length ≤ 40 := by rw [List.length_take, hrect.len]; omega
    have h4 : (1 + 2000 * n) * (rows.take i).length ≤ 80001 * 40 := Nat.mul_le_mul (by omega) h3
    generalize (1 + 2000 * n) * (rows.take i).length = E at h2 h4
    exact dig_le10 h2 (by omega)
  have HWB : Hid (∀ r ∈ rows, (dig (wholeF r 1)).length ≤ 100000000) := fun r hr => by
    have h4 := wholeF_lt (k := 2000) r 1 1 (by decide) fun q hq => (hrb r hr q hq).2
    rw [hrect.wide r hr] at h4
    have : 1 + 2000 * n ≤ 80001 := by omega
    generalize 1 + 2000 * n = E at *
    exact dig_le10 h4 (by omega)
  have HD0 := Lib.hid (fun (M : List (List Int)) k cf d neg cur (h : RedZ n n (10 ^ K) (wholeM rows) M k cf d neg cur) (hc : cur ≤ n) (hck : cur = n ∨ k = n) (hk : k < n) => h.det0 hrect (Nat.le_refl _) hc hck hk)
  have HD1 := Lib.hid (fun (M : List (List Int)) cf d neg cur (h : RedZ n n (10 ^ K) (wholeM rows) M n cf d neg cur) (hc : cur ≤ n) => h.detD hrect hc)
  obtain ⟨x, hx⟩ : ∃ x, 10 ^ K = x := ⟨_, rfl⟩
  rw [hx] at HRD HDG HD0 HD1
  obtain ⟨DT, hDT⟩ : ∃ DT, detL n rows = DT := ⟨_, rfl⟩
  rw [hDT] at HD0 HD1 ⊢
  have hni : (n : Int) ≤ 40 := by omega
  have hbw : ((n : Int) != (n : Int)) = false := by simp
  clear hrb hrect HBD hx hK hDT
  go_enter Tryz.func7, Tryz.ntmps7
  go_wp2_with fail
  refine HC1.out.mono ?_
  rintro e w1 ⟨rfl, X1⟩
  go_wp2_with fail
  refine (HW.out _ X1).mono ?_
  rintro e w2 ⟨rfl, X2⟩
  have E2 := X1.trans X2
  clear X1 X2
  go_wp2_with fail
  refine (HSM.out _).mono ?_
  rintro e w3 ⟨fv, rfl, hfv, X3⟩
  have E3 := E2.trans X3
  have HF3 := Lib.hid hfv
  clear X3 E2 hfv
  go_wp2_with fail
  refine (HIM.out _ E3).mono ?_
  rintro e w4 ⟨rv, rfl, hrv, X4⟩
  have E4 := E3.trans X4
  have HF4 := Lib.hid (HF3.out.ext X4)
  obtain ⟨us2, hr2, hul2, hel2⟩ := hrv
  obtain ⟨ao2, c2, rfl, _, hlen2, _, hc2⟩ := hr2
  have HUL : Hid (us2.length = n) := by show _ = _; rw [hul2, HRL.out]
  rw [HUL.out]
  have HC : Hid (CellsOf id w4 ao2 us2) := by
    show Cells _ _ _
    rw [List.map_id]; exact hc2
  have HEL := Lib.hid hel2
  clear hc2 hel2 hul2 hlen2 X4 E3 HF3
  go_wp2_with fail
  go_loopw [5, 6, 27] (fun fv ov iv wr => ∃ (i : Nat), i ≤ n ∧ iv = .int .i64 i ∧ Hid (NatV wr fv (facP (rows.take i))) ∧ Hid (ZzO wr w4.heap.size ov ((wholeM rows).take i)) ∧ Ext w4 wr) (fun _ _ iv _ => n - (intOf iv).toNat)
  case atStart => exact ⟨0, Nat.zero_le _, rfl, by show NatV _ _ _; rw [List.take_zero]; exact HF4.out, by show ZzO _ _ _ _; rw [List.take_zero]; exact ZzO.nil _ _, Ext.refl _⟩
  case round =>
    clear HF4
    obtain ⟨i, hi, rfl, HF, HO, X⟩ := hrel
    by_cases hlt : i < n
    · obtain ⟨u, d1, _, _⟩ := get_lt (xs := us2) (k := i) (by rw [HUL.out]; exact hlt)
      obtain ⟨r, q1, _, _⟩ := get_lt (xs := rows) (k := i) (by rw [HRL.out]; exact hlt)
      obtain ⟨b, off, rfl, hc0⟩ := (HC.out.ext X).at d1
      have hcell : wr.cell? ⟨b, off + i, none⟩ = some u := hc0
      have hrm := List.mem_of_getElem? q1.out
      have hqv := HEL.out i u r d1.out q1.out
      have hrw := HWD.out r hrm
      have HWR := Lib.hid (fun W (hx : Ext w4 W) => whole_row u r W (hqv.ext hx) (by omega) (HQB.out r hrm))
      have HWLL : Hid ((wholeL r).length = n) := by show _ = _; rw [wholeL_len, hrw]
      obtain ⟨ao3, c3, rfl, _, _⟩ := hqv.opn
      obtain ⟨hT1, hT2⟩ := HWT.out i r q1.out
      have HTK := Lib.hid hT1
      have HTF := Lib.hid hT2
      have hfb := HFB.out i
      have hwb := HWB.out r hrm
      have HML : Hid (((wholeM rows).take i).length ≤ 1000000) := by show _ ≤ _; rw [List.length_take]; omega
      have hki : (i : Int) < (n : Int) := by omega
      obtain ⟨fo, fl, fc, rfl, _, HFV⟩ := HF.out.opn
      generalize (wholeM rows).take i = M1 at *
      generalize wholeL r = zs at *
      generalize facP (rows.take i) = f0 at *
      generalize wholeF r 1 = f1 at *
      have HMU := Lib.hid (fun (b a : Value) W (hb : NatV W b f0) (ha : NatV W a f1) => mul_any b a f0 f1 W hb ha (by omega) (by omega))
      clear hc0 hlt hrm hrw d1 q1 hT1 hT2 hfb hwb HF
      go_wp2_with fail
      refine (HWR.out _ X).mono ?_
      rintro e w5 ⟨u5, f5, rfl, h5, hf5, X5⟩
      obtain ⟨g5, cg5, rfl⟩ := h5.nn (by rw [HWLL.out]; omega)
      obtain ⟨qo, ql, qc, rfl, _, _⟩ := hf5.opn
      have HF5 := Lib.hid hf5
      have HO5 := Lib.hid (HO.out.ext X5)
      have hN5 := HO.out.new X5 h5
      have XA := X.trans X5
      have h5' := h5.mono (show w4.heap.size ≤ wr.heap.size from X.size)
      have hsz := XA.size
      clear h5 hf5 HO
      go_wp2_with (at_builtin; refine wp_appZs (sl := .tmp 36) (x := .tmp 38) rfl rfl hN5 h5' rfl rfl rfl HML.out hsz ?_; intro v' w' hown hgrew hclean; have HBL := Lib.hid hgrew; have HCL := Lib.hid hclean)
      have HE := Lib.hid (HO5.out.grew hgrew XA (Nat.le_refl _))
      rw [← HTK.out] at hown
      have HOW := Lib.hid hown
      have HFa := Lib.hid (hclean.kept hgrew.by' (HFV.out.ext X5))
      have HFb := Lib.hid (hclean.kept hgrew.by' HF5.out)
      clear hown hgrew hclean
      refine (HMU.out _ _ _ HFa.out HFb.out).mono ?_
      rintro e w7 ⟨f7, rfl, hf7, X7⟩
      rw [← HTF.out] at hf7
      have HF7 := Lib.hid hf7
      have HO7 := Lib.hid (HOW.out.ext X7)
      have XN := HE.out.trans X7
      clear hf7
      go_wp2_with fail
      go_roundw
      case rel => exact ⟨i + 1, by omega, by go_num, HF7, HO7, XN⟩
      case measure => simp [intOf] <;> omega
    · have hin : n = i := by omega
      have hz := HO.out
      rw [← hin, ← HWM.out, List.take_length] at hz
      obtain ⟨go, cap, rfl, hcap⟩ := hz.nn (by rw [HWM.out]; omega)
      rw [HWM.out] at hz hcap ⊢
      have hf := HF.out
      rw [← hin, ← HRL.out, List.take_length] at hf
      obtain ⟨fo, fl, fc, rfl, hfl, HFV⟩ := hf.opn
      have hfb := HFB.out n
      rw [← HRL.out, List.take_length] at hfb
      have hfp := facP_pos rows
      have EX := E4.trans X
      have HRQ := Lib.hid (HRD.out go cap wr EX (hz.mono E4.size))
      have HFV := HFV.out
      obtain ⟨FP, hFP⟩ : ∃ FP, facP rows = FP := ⟨_, rfl⟩
      rw [hFP] at hf hfb hfp HFV HD1 hfl
      clear hin HO hi HF hFP HFB HWB HWT
      go_wp2_with fail
      refine HRQ.out.mono ?_
      rintro e w5 ⟨g, rfl, hp⟩
      obtain ⟨M, k, cf, cur, d, neg, po, pc, s, a, l, lc, hRZ, hcw, hck, hZ, q1, q2, q3, hd, q4, X5⟩ := hp
      have hkn := hRZ.kn
      have hki : (k : Int) ≤ (n : Int) := by omega
      by_cases hk : k < n
      · have hD := HD0.out _ _ _ _ _ _ hRZ hcw hck hk
        have hkl : (k : Int) < (n : Int) := by omega
        clear hRZ hck hZ q2 q3 hd q4 HRD HD0 HD1
        go_wp2_with fail
        go_ret2
        exact ⟨by rw [hD, outF_zero]; rfl, X5.ext⟩
      · have hkn2 : k = n := by omega
        subst hkn2
        have hkl : ¬ ((k : Int) < (k : Int)) := by omega
        have hDD := HD1.out _ _ _ _ _ hRZ hcw
        have hdd := HDG.out _ hRZ.dnum
        have HFI5 := Lib.hid (intV_nat (X5.nat _ _ HFV) hfl.out)
        have HFR := Lib.hid (fun (u v2 : Value) z W (hu : IntV W u z) (hv : IntV W v2 ((FP : Nat) : Int)) (hz : (dig z.natAbs).length ≤ 100000000) => frac_any u v2 z (FP : Int) W hu hv (by omega) (by omega) (by rw [Int.natAbs_natCast]; omega))
        have HOU := Lib.hid (fun (u : Value) (q : Rat) W (hx : Ext wo W) (hu : QV W u q) => out_any u q W hu (tabPow_ext HTAB.out hx))
        have HD := Lib.hid hd
        obtain ⟨O, hO⟩ : ∃ O, w5.heap.size = O := ⟨_, rfl⟩
        obtain ⟨wb, hwb⟩ : ∃ wb, w5.alloc (.cells #[.bool s, .slice a l lc] 58) = wb := ⟨_, rfl⟩
        have XB : Ext w5 wb := by rw [← hwb]; exact (Ext.refl w5).alloc _
        have HA : Hid (AccI wb O s a l lc d) := by rw [← hwb]; exact AccI.new hd hO
        have q4' := XB.cell q4
        have XW := X5.ext.trans XB
        have HFB := Lib.hid (HFI5.out.ext XB)
        have HDD := Lib.hid hDD
        have HDL := Lib.hid hdd
        have hOw : wo.heap.size ≤ O := by rw [← hO]; exact X5.ext.size
        clear hRZ hck hZ hd HRD HD0 HD1 hDD hdd HFI5 HDG hfb hfp HRQ hfl
        obtain ⟨b0, b1⟩ := HA.out.cells
        cases neg with
        | false =>
          rw [if_neg (by simp)] at HDD
          go_wp2_with fail
          clear hwb hO
          refine (HFR.out _ _ _ _ HA.out.val HFB.out HDL.out).mono ?_
          rintro e w7 ⟨qv, rfl, hq, X7⟩
          rw [HDD.out] at hq
          obtain ⟨s8, ao8, l8, c8, bo8, m8, d8, rfl, _, _, _⟩ := hq.opn
          have HQ := Lib.hid hq
          have E7 := XW.trans X7
          clear hq b0 b1 q1 q2 q3 q4 q4'
          go_wp2_with fail
          refine (HOU.out _ _ _ E7 HQ.out).mono ?_
          rintro e w8 ⟨rfl, X8⟩
          have E8 := E7.trans X8
          go_wp2_with fail
          go_ret2
          exact ⟨rfl, E8⟩
        | true =>
          rw [if_pos rfl] at HDD
          have HOP := Lib.hid (intOpp_any (.agg #[.bool s, .slice a l lc]) d wb HA.out.val)
          go_wp2_with fail
          clear hwb hO
          refine HOP.out.mono ?_
          rintro e w6 ⟨ov, rfl, hov, X6⟩
          obtain ⟨s6, a6, l6, c6, rfl, _, _, _⟩ := hov.opn
          have HA6 := Lib.hid (HA.out.ext X6)
          obtain ⟨p1, p2, p3, w7, hw7, hgr, hA7⟩ := HA6.out.put hov
          obtain ⟨b0, b1⟩ := HA6.out.cells
          have HFB7 := Lib.hid (HA6.out.clean.keptI (v := .slice (some ⟨O, 0, none⟩) 1 1) hgr (HFB.out.ext X6))
          have E7 := (XW.trans X6).grown hgr hOw
          have HA7 := Lib.hid hA7
          obtain ⟨t0, t1⟩ := HA7.out.cells
          have HDL2 : Hid ((dig (-d).natAbs).length ≤ 100000000) := by show _ ≤ _; rw [Int.natAbs_neg]; exact HDL.out
          generalize -d = dn at *
          clear hov hgr hA7 q1 q2 q3 q4 q4'
          go_wp2_with fail
          refine (HFR.out _ _ _ _ HA7.out.val HFB7.out HDL2.out).mono ?_
          rintro e w8 ⟨qv, rfl, hq, X8⟩
          rw [HDD.out] at hq
          obtain ⟨s8, ao8, l8, c8, bo8, m8, d8, rfl, _, _, _⟩ := hq.opn
          have HQ := Lib.hid hq
          have E8 := E7.trans X8
          clear hq b0 b1 t0 t1 p1 p2 p3
          go_wp2_with fail
          refine (HOU.out _ _ _ E8 HQ.out).mono ?_
          rintro e w9 ⟨rfl, X9⟩
          have E9 := E8.trans X9
          go_wp2_with fail
          go_ret2
          exact ⟨rfl, E9⟩
end Go.Proofs.YtnfmknjhkpgppaaGreatDoor
/- walk: matrix.Solve of valid systems -/
namespace Go.Proofs.YtnfmknjhkpgppaaGreatDoor
open Go.RowKit
set_option linter.unusedVariables false

theorem QsO.shape {w : World} {B : Nat} {v : Value} {qs : List Rat} (h : QsO w B v qs) : ∃ po n pc, v = .slice po n pc := by
  obtain ⟨po, pc, e⟩ := h.isSlice
  exact ⟨po, _, pc, e⟩
theorem solveE_zero {m : List (List ByteArray)} {l : List ByteArray} (h : solveE m l = 0) : matE m = 0 ∧ vecE l = 0 ∧ l.length = m.length := by
  unfold solveE at h
  by_cases h1 : matE m = 0
  · rw [if_neg (by simpa using h1)] at h
    by_cases h2 : vecE l = 0
    · rw [if_neg (by simpa using h2)] at h
      by_cases h3 : l.length = m.length
      · exact ⟨h1, h2, h3⟩
      · rw [if_pos h3] at h; cases h
    · rw [if_pos h2] at h; exact absurd h h2
  · rw [if_pos h1] at h; exact absurd h h1
theorem augQ_get {m : List (List ByteArray)} {l : List ByteArray} {i : Nat} {r : List Rat} {b : Rat} (h1 : (numM m)[i]? = some r) (h2 : (l.map ratOf)[i]? = some b) : (augQ m l)[i]? = some (r ++ [b]) := by
  unfold augQ
  rw [List.getElem?_zipWith, h1, h2]
theorem augQ_len {m : List (List ByteArray)} {l : List ByteArray} (h : l.length = m.length) : (augQ m l).length = m.length := by
  unfold augQ numM
  rw [List.length_zipWith, List.length_map, List.length_map]; omega

set_option maxHeartbeats 16000000 in
set_option maxRecDepth 100000 in
theorem mSolve_go (v u : Value) (m : List (List ByteArray)) (l : List ByteArray) (n : Nat) (w : World) (htab : TabPow w) (hv : Rows Value.string w v m) (hu : Strs w u l) (hs : ∀ l ∈ m, ∀ s ∈ l, s.size ≤ 9223372036854775806) (hs2 : ∀ s ∈ l, s.size ≤ 9223372036854775806) (he : solveE m l = 0) (hln : m.length = n) (hn : 1 ≤ n) :
    Calls Tryz.prog 6 #[v, u] w (SlvPost m l w) := by
  obtain ⟨wo, rfl⟩ : ∃ wo : World, wo = w := ⟨_, rfl⟩
  obtain ⟨h1, h2, h3⟩ := solveE_zero he
  obtain ⟨hm40, hok⟩ := matE_zero hs h1
  obtain ⟨hb40, hok2⟩ := vecE_ok hs2 h2
  have HC1 := Lib.hid (mCheck_any v m wo hv hs 0 h1)
  have HC2 := Lib.hid (fun W (hx : Ext wo W) => checkVec_any u l W (hu.ext hx) hs2 0 h2)
  have HW := Lib.hid (fun W (hx : Ext wo W) => mWidth_any v m W (hv.ext hx))
  have HI1 := Lib.hid (fun W (hx : Ext wo W) => ratIn_any u l W (hu.ext hx) hok2 (by omega))
  have HI2 := Lib.hid (fun W (hx : Ext wo W) => mIn_own v m W (hv.ext hx) (fun l hl => (hok l hl).2.2) (by omega) (fun l hl => by have := (hok l hl).2.1; omega))
  have hw40 : wideL m ≤ 40 := by
    cases m with
    | nil => show ([] : List ByteArray).length ≤ 40; decide
    | cons a t => have := (hok a (List.mem_cons_self ..)).2.1; exact this
  have hrb : ∀ r ∈ numM m, ∀ q ∈ r, RB 2000 q := numM_RB fun l hl s hs => ratOf_RB2k ((hok l hl).2.2 s hs).1
  have hrb2 : ∀ q ∈ l.map ratOf, RB 2000 q := fun q hq => by
    obtain ⟨s, hm, rfl⟩ := List.mem_map.1 hq
    exact ratOf_RB2k (hok2 s hm).1
  have HIM : Hid (∀ W, Ext wo W → Calls Tryz.prog 26 #[v] W fun e w' => ∃ u, e = .returned u ∧ QqO w' W.heap.size u (numM m) ∧ Ext W w') := fun W hx => HI2.out W hx
  have hal := augQ_len h3
  have haw : ∀ r ∈ augQ m l, r.length = wideL m + 1 ∧ ∀ q ∈ r, RB 2000 q := fun r hr => by
    obtain ⟨i, hi⟩ := List.mem_iff_getElem?.1 hr
    have hlt := (List.getElem?_eq_some_iff.1 hi).1
    have e1 : (numM m)[i]? = some ((numM m)[i]'(by unfold numM; rw [List.length_map]; omega)) := List.getElem?_eq_getElem _
    have e2 : (l.map ratOf)[i]? = some ((l.map ratOf)[i]'(by rw [List.length_map]; omega)) := List.getElem?_eq_getElem _
    rw [augQ_get e1 e2] at hi
    cases hi
    have hr1 := List.mem_of_getElem? e1
    have hb1 := List.mem_of_getElem? e2
    refine ⟨?_, fun q hq => ?_⟩
    · rw [List.length_append, List.length_singleton]
      congr 1
      generalize (numM m)[i]'_ = r0 at hr1
      unfold numM at hr1
      obtain ⟨x, hx, rfl⟩ := List.mem_map.1 hr1
      rw [List.length_map, (hok x hx).1]
    · rcases List.mem_append.1 hq with h | h
      · exact hrb _ hr1 q h
      · rw [List.mem_singleton] at h
        rw [h]; exact hrb2 _ hb1
  have hrc : Rect (augQ m l) n (wideL m + 1) := ⟨by rw [hal, hln], fun r hr => (haw r hr).1⟩
  have HSO := Lib.hid (fun (x : Value) W (hx : QssV W x (augQ m l)) => solveOf_any x (augQ m l) n (wideL m) W hx hrc hn (by omega) hw40 (fun r hr => (haw r hr).2))
  have HTAB := Lib.hid htab
  have HOA := Lib.hid (fun (x : Value) (qs : List Rat) W (hx : Ext wo W) (h : QsV W x qs) (hl : qs.length ≤ 1000000) => outAll_any x qs W (tabPow_ext HTAB.out hx) h hl)
  have HAL : Hid ((augQ m l).length = n) := hrc.len
  have HAT : Hid (∀ (i : Nat) r b, (numM m)[i]? = some r → (l.map ratOf)[i]? = some b → (augQ m l).take (i + 1) = (augQ m l).take i ++ [r ++ [b]]) := fun i r b e1 e2 => by
    obtain ⟨h3, h4⟩ := List.getElem?_eq_some_iff.1 (augQ_get e1 e2)
    rw [List.take_succ_eq_append_getElem h3, h4]
  have HNL : Hid ((numM m).length = n) := by show _ = _; unfold numM; rw [List.length_map, hln]
  have HLL : Hid ((l.map ratOf).length = n) := by show _ = _; rw [List.length_map, h3, hln]
  have HNW : Hid (∀ r ∈ numM m, r.length ≤ 40) := fun r hr => by
    unfold numM at hr
    obtain ⟨x, hx, rfl⟩ := List.mem_map.1 hr
    rw [List.length_map]
    exact (hok x hx).2.1
  unfold SlvPost
  obtain ⟨us, hr, hul, hel⟩ := hv
  obtain ⟨ao, c, rfl, _, hlen, _, hc⟩ := hr
  obtain ⟨ao2, c2, rfl, hlen2, hd⟩ := hu.open
  have hun : us.length = n := by omega
  have hll : l.length = n := by omega
  rw [hun] at HC1 HW HIM ⊢
  rw [hll] at HC2 HI1 ⊢
  have hN4 : n ≤ 40 := by omega
  have hbw : ((n : Int) != (n : Int)) = false := by simp
  clear hc hd hel hul hs hs2 he h1 h2 h3 hok hok2 hm40 hb40 hlen hlen2 hrb hrb2 hal haw hrc hu HI2 htab hun hll hln
  generalize wideL m = wd at *
  generalize augQ m l = AQ at *
  generalize numM m = NM at *
  generalize l.map ratOf = bs at *
  have hni : (n : Int) ≤ 40 := by omega
  have hwi : (wd : Int) ≤ 40 := by omega
  go_enter Tryz.func6, Tryz.ntmps6
  go_wp2_with fail
  refine HC1.out.mono ?_
  rintro e w1 ⟨rfl, X1⟩
  go_wp2_with fail
  refine (HC2.out _ X1).mono ?_
  rintro e w2 ⟨rfl, X2⟩
  have E2 := X1.trans X2
  clear X1 X2
  go_wp2_with fail
  refine (HI1.out _ E2).mono ?_
  rintro e w3 ⟨bv, rfl, hbv, _, X3⟩
  have E3 := E2.trans X3
  obtain ⟨bo, bc, rfl, hbl, hBC⟩ := hbv.opn
  have HBC := Lib.hid hBC
  rw [HLL.out] at hbl ⊢
  clear E2 X3 hBC hbv
  go_wp2_with fail
  refine (HIM.out _ E3).mono ?_
  rintro e w4 ⟨rv, rfl, hrv, X4⟩
  obtain ⟨us2, hqr⟩ := hrv
  have hus : us2.length = NM.length := hqr.len
  obtain ⟨po, pc, rfl⟩ := own_isSlice hqr.own
  obtain ⟨B, hB⟩ : ∃ B, w3.heap.size = B := ⟨_, rfl⟩
  rw [hB] at hqr
  rw [HNL.out]
  have HS0 := Lib.hid (SlvQ.start hqr)
  rw [HNL.out] at hus
  have HUS := Lib.hid hus
  have HBB := Lib.hid hB
  clear hqr hB hus
  go_wp2_with fail
  go_loopw [8, 34] (fun tv iv wr => ∃ (i : Nat), i ≤ n ∧ iv = .int .i64 i ∧ Hid (SlvQ wr B i (.slice po NM.length pc) tv us2 NM (AQ.take i)) ∧ Ext w3 wr) (fun _ iv _ => n - (intOf iv).toNat)
  case atStart => exact ⟨0, Nat.zero_le _, rfl, by show SlvQ _ _ _ _ _ _ _ _; rw [List.take_zero]; exact HS0.out, X4⟩
  case round =>
    clear HS0 X4
    obtain ⟨i, hi, rfl, HS, X⟩ := hrel
    have HQC := Lib.hid (HBC.out.ext X)
    by_cases hlt : i < n
    · obtain ⟨x, d1, _, _⟩ := get_lt (xs := us2) (k := i) (by rw [HUS.out]; exact hlt)
      obtain ⟨r, q1, _, _⟩ := get_lt (xs := NM) (k := i) (by rw [HNL.out]; exact hlt)
      obtain ⟨b, q2, _, _⟩ := get_lt (xs := bs) (k := i) (by rw [HLL.out]; exact hlt)
      obtain ⟨g1, rfl, hcell⟩ := HS.out.at d1.out
      obtain ⟨g2, s5, a5, l5, c5, b5, m5, d5, rfl, e0, e1, e2, hq5⟩ := HQC.out i b q2.out
      have hro := HS.out.sr i x r (Nat.le_refl _) d1.out q1.out
      obtain ⟨xo, xc, rfl⟩ := hro.isSlice
      have hrw := HNW.out r (List.mem_of_getElem? q1.out)
      have HTK := Lib.hid (HAT.out i r b q1.out q2.out)
      have HML : Hid ((AQ.take i).length ≤ 1000000) := by show _ ≤ _; rw [List.length_take]; omega
      have HRO := Lib.hid hro
      have HQ5 := Lib.hid hq5
      have hki : (i : Int) < (n : Int) := by omega
      have hsz := X.size
      have hszB : B ≤ wr.heap.size := by rw [← HBB.out]; exact hsz
      have HRR : Hid ((r ++ [b]).length ≤ 1000000) := by show _ ≤ _; rw [List.length_append, List.length_singleton]; omega
      have HRW := Lib.hid hrw
      generalize AQ.take i = A1 at *
      clear hro hq5 hlt hrw HQC
      go_wp2_with (first
        | (at_builtin; refine wp_appQ (sl := .tmp 40) (x := .tmp 45) rfl rfl HRO.out HQ5.out rfl rfl rfl (by have := HRW.out; omega) hszB ?_; intro v' w' hown hgrew hclean; obtain ⟨yo, yl, yc, rfl⟩ := hown.shape; obtain ⟨S1, S2, S3, S4⟩ := HS.out.step d1.out q1.out hgrew hclean hown HRR.out; have E5 := HRO.out.grew hgrew X (Nat.le_of_eq HBB.out); have hsz5 : B ≤ w'.heap.size := Nat.le_trans (Nat.le_of_eq HBB.out.symm) E5.size; have HS1 := Lib.hid S1; have HS2 := Lib.hid S2; have HS4 := Lib.hid S4; clear S1 S2 S4 hown hgrew hclean)
        | (at_builtin; refine wp_appSlv (sl := .tmp 39) (x := .tmp 47) rfl rfl HS1.out HS2.out S3 HS4.out rfl rfl rfl HML.out hsz5 ?_; intro t' w'' hS hgrew2 hBk _; have E6 := hgrew2.ext E5 (fun k hk => Nat.le_trans (Nat.le_of_eq HBB.out) (hBk k hk)); have HS6 := Lib.hid hS; clear hS hgrew2 hBk))
      rw [← HTK.out] at HS6
      clear HS1 HS2 S3 HS4 HRO HQ5 hcell e0 e1 e2 E5
      go_roundw
      case rel => exact ⟨i + 1, by omega, by go_num, HS6, E6⟩
      case measure => simp [intOf] <;> omega
    · have hin : n = i := by omega
      have hs := HS.out
      rw [← hin, ← HAL.out, List.take_length] at hs
      have hdn := hs.done (by rw [HAL.out]; omega)
      obtain ⟨us', hto, _⟩ := hs.tt
      obtain ⟨to', tc, rfl⟩ := own_isSlice hto
      rw [HAL.out] at hdn ⊢
      have HDN := Lib.hid hdn
      have EX := E3.trans X
      have HWQ := Lib.hid (HW.out _ EX)
      clear hin hs hdn hto HS HQC hi
      go_wp2_with fail
      refine HWQ.out.mono ?_
      rintro e w6 ⟨rfl, X6⟩
      have E6 := EX.trans X6
      have HDN6 := Lib.hid (HDN.out.ext X6)
      clear HDN HWQ
      go_wp2_with fail
      refine (HSO.out _ _ HDN6.out).mono ?_
      intro e w7 hp
      unfold SolvePost at hp
      obtain ⟨X7, hp⟩ := hp
      have E7 := E6.trans X7
      rcases hp with ⟨hno, q, hq, rfl⟩ | ⟨xs, x, hso, rfl, hxv, hxl⟩
      · have hb : (q != 0) = true := by rcases hq with rfl | rfl <;> rfl
        have HNO := Lib.hid hno
        have HQ := Lib.hid hq
        clear hno hq
        go_wp2_with fail
        go_ret2
        exact ⟨E7, .inl ⟨HNO.out, q, HQ.out, rfl⟩⟩
      · have HXS := Lib.hid hso
        have hxl2 : xs.length ≤ 1000000 := by omega
        have HOB := Lib.hid (HOA.out x xs w7 E7 hxv hxl2)
        obtain ⟨xo, xc, rfl, _, _⟩ := hxv.opn
        clear hso hxl hxl2 hxv
        go_wp2_with fail
        refine HOB.out.mono ?_
        rintro e w8 ⟨X8, h8⟩
        have E8 := E7.trans X8
        rcases h8 with ⟨h8, rfl⟩ | ⟨os, x2, h8, rfl, hst⟩
        · have H8 := Lib.hid h8
          clear h8
          go_wp2_with fail
          go_ret2
          exact ⟨E8, .inr ⟨xs, HXS.out, .inl ⟨H8.out, rfl⟩⟩⟩
        · have H8 := Lib.hid h8
          have HST := Lib.hid hst
          clear h8 hst
          go_wp2_with fail
          go_ret2
          exact ⟨E8, .inr ⟨xs, HXS.out, .inr ⟨os, x2, H8.out, rfl, HST.out⟩⟩⟩
end Go.Proofs.YtnfmknjhkpgppaaGreatDoor
/- walks: matrix.Solve, matrix.Det without rows; contracts for all -/
namespace Go.Proofs.YtnfmknjhkpgppaaGreatDoor
open Go.RowKit
set_option linter.unusedVariables false

set_option maxHeartbeats 1600000 in
set_option maxRecDepth 100000 in
theorem reduce_nil (w : World) : Calls Tryz.prog 33 #[.slice none 0 0, .int .i64 0] w fun e w' => ∃ g s a l c, e = .returned (.pointer (some ⟨g, 0, none⟩)) ∧
    w'.cell? ⟨g, 1, none⟩ = some (.slice none 0 0) ∧ w'.cell? ⟨g, 2, none⟩ = some (.bool s) ∧ w'.cell? ⟨g, 3, none⟩ = some (.slice a l c) ∧ w'.cell? ⟨g, 4, none⟩ = some (.bool false) ∧ IntV w' (.agg #[.bool s, .slice a l c]) 1 ∧ Ext w w' := by
  have HW1 := Lib.hid (fun W => whole_any 1 W (by omega) (by omega))
  go_enter Tryz.func33, Tryz.ntmps33
  go_wp2_with fail
  refine (HW1.out _).mono ?_
  rintro e w1 ⟨v1, rfl, hv1, X1⟩
  obtain ⟨s1, a1, l1, c1, rfl, _, _, _⟩ := hv1.opn
  have HV := Lib.hid hv1
  obtain ⟨g, hg⟩ : ∃ g, w1.heap.size = g := ⟨_, rfl⟩
  obtain ⟨w2, hw2⟩ : ∃ w2, w1.alloc (.cells #[.slice none 0 0, .slice none 0 0, .bool s1, .slice a1 l1 c1, .bool false] 76) = w2 := ⟨_, rfl⟩
  have X12 : Ext w1 w2 := by rw [← hw2]; exact (Ext.refl w1).alloc _
  have k1 : w2.cell? ⟨g, 1, none⟩ = some (.slice none 0 0) := by rw [← hw2, ← hg]; simp [go_sem]
  have k2 : w2.cell? ⟨g, 2, none⟩ = some (.bool s1) := by rw [← hw2, ← hg]; simp [go_sem]
  have k3 : w2.cell? ⟨g, 3, none⟩ = some (.slice a1 l1 c1) := by rw [← hw2, ← hg]; simp [go_sem]
  have k4 : w2.cell? ⟨g, 4, none⟩ = some (.bool false) := by rw [← hw2, ← hg]; simp [go_sem]
  have HK := Lib.hid (And.intro k1 (And.intro k2 (And.intro k3 (And.intro k4 (And.intro (hv1.ext X12) (X1.trans X12))))))
  clear hv1 k1 k2 k3 k4 HV X1 X12
  go_wp2_with fail
  clear hg hw2
  refine wp_loop_rounds 1 ?_
  rw [rounds_succ]
  go_wp2_with fail
  go_ret
  exact ⟨g, s1, a1, l1, c1, rfl, HK.out⟩

set_option maxHeartbeats 1600000 in
set_option maxRecDepth 100000 in
theorem solveOf_nil (w : World) : Calls Tryz.prog 27 #[.slice none 0 0, .int .i64 0] w fun e w' => e = .returned (.tuple #[.slice none 0 0, .int .i64 0]) ∧ Ext w w' := by
  have HR := Lib.hid (fun W => reduce_nil W)
  go_enter Tryz.func27, Tryz.ntmps27
  go_wp2_with fail
  refine wp_loop_rounds 1 ?_
  rw [rounds_succ]
  go_wp2_with fail
  refine (HR.out _).mono ?_
  rintro e w1 ⟨g, s, a, l, c, rfl, k1, k2, k3, k4, _, X1⟩
  go_wp2_with fail
  refine wp_loop_rounds 1 ?_
  rw [rounds_succ]
  go_wp2_with fail
  refine wp_loop_rounds 1 ?_
  rw [rounds_succ]
  go_wp2_with fail
  go_ret2
  exact ⟨rfl, X1⟩
end Go.Proofs.YtnfmknjhkpgppaaGreatDoor
/- walks: matrix.Solve, matrix.Det without rows; contracts for all -/
namespace Go.Proofs.YtnfmknjhkpgppaaGreatDoor
open Go.RowKit
set_option linter.unusedVariables false

theorem one_dig : (dig 1).length ≤ 1 := dig_le10 (k := 1) (by decide) (by decide)
set_option maxHeartbeats 1600000 in
set_option maxRecDepth 100000 in
theorem mDet_nil (v : Value) (w : World) (htab : TabPow w) (hv : Rows Value.string w v []) :
    Calls Tryz.prog 7 #[v] w fun e w' => e = .returned (.tuple #[.string ⟨#[49]⟩, .int .i64 0]) ∧ Ext w w' := by
  have HC1 := Lib.hid (mCheck_any v [] w hv (fun l hl => by cases hl) 0 rfl)
  have HW := Lib.hid (fun W (hx : Ext w W) => mWidth_any v [] W (hv.ext hx))
  rw [show ((wideL [] : Nat) : Int) = 0 from rfl] at HW
  have HI := Lib.hid (fun W (hx : Ext w W) => mIn_any v [] W (hv.ext hx) (fun l hl => by cases hl) (by decide) (fun l hl => by cases hl))
  have HSM := Lib.hid (fun W => small_any 1 W (by omega))
  have HR := Lib.hid (fun W => reduce_nil W)
  have HFR := Lib.hid (fun (u v2 : Value) z W (hu : IntV W u z) (hv : IntV W v2 ((1 : Nat) : Int)) (hz : (dig z.natAbs).length ≤ 100000000) => frac_any u v2 z ((1 : Nat) : Int) W hu hv (by omega) (by omega) (Nat.le_trans (show (dig 1).length ≤ 1 from one_dig) (by decide)))
  have HOU := Lib.hid (fun (u : Value) (q : Rat) W (hx : Ext w W) (hu : QV W u q) => out_any u q W hu (tabPow_ext htab hx))
  obtain ⟨us, hr, hul, hel⟩ := hv
  obtain rfl : us = [] := List.eq_nil_of_length_eq_zero hul
  obtain ⟨ao, c, rfl, _, _, _, _⟩ := hr
  simp only [List.length_nil] at HC1 HW HI ⊢
  clear hul hel htab
  have hb0 : ((0 : Int) != (0 : Int)) = false := by decide
  go_enter Tryz.func7, Tryz.ntmps7
  go_wp2_with fail
  refine HC1.out.mono ?_
  rintro e w1 ⟨rfl, X1⟩
  go_wp2_with fail
  refine (HW.out _ X1).mono ?_
  rintro e w2 ⟨rfl, X2⟩
  have E2 := X1.trans X2
  clear X1 X2
  go_wp2_with fail
  refine (HSM.out _).mono ?_
  rintro e w3 ⟨fv, rfl, hfv, X3⟩
  have E3 := E2.trans X3
  obtain ⟨fo, fl, fc, rfl, hfl, HF3⟩ := hfv.opn
  clear X3 E2 hfv
  go_wp2_with fail
  refine (HI.out _ E3).mono ?_
  rintro e w4 ⟨rv, rfl, hrv, X4⟩
  have E4 := E3.trans X4
  have HF4 := Lib.hid (HF3.out.ext X4)
  obtain ⟨us2, hr2, hul2, hel2⟩ := hrv
  obtain rfl : us2 = [] := List.eq_nil_of_length_eq_zero hul2
  obtain ⟨ao2, c2, rfl, _, _, _, _⟩ := hr2
  simp only [List.length_nil]
  clear hul2 hel2 X4 E3 HF3
  go_wp2_with fail
  refine wp_loop_rounds 1 ?_
  rw [rounds_succ]
  go_wp2_with fail
  refine (HR.out _).mono ?_
  rintro e w5 ⟨g, s, a, l, lc, rfl, q1, q2, q3, q4, hd, X5⟩
  have E5 := E4.trans X5
  have HFI5 := Lib.hid (intV_nat (HF4.out.ext X5) hfl.out)
  obtain ⟨O, hO⟩ : ∃ O, w5.heap.size = O := ⟨_, rfl⟩
  obtain ⟨wb, hwb⟩ : ∃ wb, w5.alloc (.cells #[.bool s, .slice a l lc] 58) = wb := ⟨_, rfl⟩
  have XB : Ext w5 wb := by rw [← hwb]; exact (Ext.refl w5).alloc _
  have HA : Hid (AccI wb O s a l lc 1) := by rw [← hwb]; exact AccI.new hd hO
  have q4' := XB.cell q4
  have XW := E5.trans XB
  have HFB := Lib.hid (HFI5.out.ext XB)
  obtain ⟨b0, b1⟩ := HA.out.cells
  clear hd HFI5 HF4 E4 X5
  go_wp2_with fail
  clear hwb hO
  refine (HFR.out _ _ _ _ HA.out.val HFB.out (Nat.le_trans (show (dig 1).length ≤ 1 from one_dig) (by decide))).mono ?_
  rintro e w7 ⟨qv, rfl, hq, X7⟩
  rw [show Rat.divInt 1 ((1 : Nat) : Int) = 1 by decide +kernel] at hq
  obtain ⟨s8, ao8, l8, c8, bo8, m8, d8, rfl, _, _, _⟩ := hq.opn
  have HQ := Lib.hid hq
  have E7 := XW.trans X7
  clear hq b0 b1 q1 q2 q3 q4 q4'
  go_wp2_with fail
  refine (HOU.out _ _ _ E7 HQ.out).mono ?_
  rintro e w8 ⟨rfl, X8⟩
  have E8 := E7.trans X8
  rw [outF_one]
  go_wp2_with fail
  go_ret2
  exact ⟨rfl, E8⟩

set_option maxHeartbeats 1600000 in
set_option maxRecDepth 100000 in
theorem mSolve_nil (v u : Value) (w : World) (htab : TabPow w) (hv : Rows Value.string w v []) (hu : Strs w u []) :
    Calls Tryz.prog 6 #[v, u] w fun e w' => ∃ x, e = .returned (.tuple #[x, .int .i64 0]) ∧ Strs w' x [] ∧ Ext w w' := by
  have HC1 := Lib.hid (mCheck_any v [] w hv (fun l hl => by cases hl) 0 rfl)
  have HC2 := Lib.hid (fun W (hx : Ext w W) => checkVec_any u [] W (hu.ext hx) (fun s hs => by cases hs) 0 rfl)
  have HW := Lib.hid (fun W (hx : Ext w W) => mWidth_any v [] W (hv.ext hx))
  rw [show ((wideL [] : Nat) : Int) = 0 from rfl] at HW
  have HI1 := Lib.hid (fun W (hx : Ext w W) => ratIn_any u [] W (hu.ext hx) (fun s hs => by cases hs) (by decide))
  have HI := Lib.hid (fun W (hx : Ext w W) => mIn_any v [] W (hv.ext hx) (fun l hl => by cases hl) (by decide) (fun l hl => by cases hl))
  have HSO := Lib.hid (fun W => solveOf_nil W)
  have HOA := Lib.hid (fun W (hx : Ext w W) => outAll_any (.slice none 0 0) [] W (tabPow_ext htab hx) (QsO.toV (QsO.nil W 0) (by decide)) (by decide))
  obtain ⟨us, hr, hul, hel⟩ := hv
  obtain rfl : us = [] := List.eq_nil_of_length_eq_zero hul
  obtain ⟨ao, c, rfl, _, _, _, _⟩ := hr
  obtain ⟨bo, d, rfl, _, _⟩ := hu.open
  simp only [List.length_nil] at HC1 HC2 HW HI HI1 ⊢
  clear hul hel htab
  have hb0 : ((0 : Int) != (0 : Int)) = false := by decide
  go_enter Tryz.func6, Tryz.ntmps6
  go_wp2_with fail
  refine HC1.out.mono ?_
  rintro e w1 ⟨rfl, X1⟩
  go_wp2_with fail
  refine (HC2.out _ X1).mono ?_
  rintro e w2 ⟨rfl, X2⟩
  have E2 := X1.trans X2
  clear X1 X2
  go_wp2_with fail
  refine (HI1.out _ E2).mono ?_
  rintro e w3 ⟨bv, rfl, hbv, _, X3⟩
  have E3 := E2.trans X3
  obtain ⟨bo2, bc, rfl, _, _⟩ := hbv.opn
  clear X3 E2 hbv
  go_wp2_with fail
  refine (HI.out _ E3).mono ?_
  rintro e w4 ⟨rv, rfl, hrv, X4⟩
  have E4 := E3.trans X4
  obtain ⟨us2, hr2, hul2, hel2⟩ := hrv
  obtain rfl : us2 = [] := List.eq_nil_of_length_eq_zero hul2
  obtain ⟨ao2, c2, rfl, _, _, _, _⟩ := hr2
  simp only [List.length_nil]
  clear hul2 hel2 X4 E3
  go_wp2_with fail
  refine wp_loop_rounds 1 ?_
  rw [rounds_succ]
  go_wp2_with fail
  refine (HW.out _ E4).mono ?_
  rintro e w5 ⟨rfl, X5⟩
  have E5 := E4.trans X5
  go_wp2_with fail
  refine (HSO.out _).mono ?_
  rintro e w6 ⟨rfl, X6⟩
  have E6 := E5.trans X6
  go_wp2_with fail
  refine (HOA.out _ E6).mono ?_
  rintro e w7 ⟨X7, h7⟩
  have E7 := E6.trans X7
  rcases h7 with ⟨h7, _⟩ | ⟨os, x, h7, rfl, hst⟩
  · cases h7
  · cases h7
    have HST := Lib.hid hst
    clear hst
    go_wp2_with fail
    go_ret2
    exact ⟨x, rfl, HST.out, E7⟩

theorem detE_zero {m : List (List ByteArray)} (h : detE m = 0) : matE m = 0 ∧ m.length = wideL m := by
  unfold detE at h
  by_cases h1 : matE m = 0
  · rw [if_neg (by simpa using h1)] at h
    by_cases h3 : m.length = wideL m
    · exact ⟨h1, h3⟩
    · rw [if_pos h3] at h; cases h
  · rw [if_pos h1] at h; exact absurd h h1
theorem mDet_ok (v : Value) (m : List (List ByteArray)) (w : World) (htab : TabPow w) (hv : Rows Value.string w v m) (hs : ∀ l ∈ m, ∀ s ∈ l, s.size ≤ 9223372036854775806) (he : detE m = 0) :
    Calls Tryz.prog 7 #[v] w fun e w' => e = .returned (.tuple #[.string (outF (detL m.length (numM m))).1, .int .i64 (outF (detL m.length (numM m))).2]) ∧ Ext w w' := by
  obtain ⟨h1, h2⟩ := detE_zero he
  cases m with
  | nil =>
    have e : outF (detL ([] : List (List ByteArray)).length (numM [])) = (⟨#[49]⟩, 0) := outF_one
    rw [e]
    exact mDet_nil v w htab hv
  | cons a t => exact mDet_go v (a :: t) _ w htab hv hs h1 h2.symm rfl (by rw [List.length_cons]; omega)
theorem mSolve_ok (v u : Value) (m : List (List ByteArray)) (l : List ByteArray) (w : World) (htab : TabPow w) (hv : Rows Value.string w v m) (hu : Strs w u l) (hs : ∀ l ∈ m, ∀ s ∈ l, s.size ≤ 9223372036854775806) (hs2 : ∀ s ∈ l, s.size ≤ 9223372036854775806) (he : solveE m l = 0) :
    Calls Tryz.prog 6 #[v, u] w (SlvPost m l w) := by
  obtain ⟨h1, h2, h3⟩ := solveE_zero he
  cases m with
  | nil =>
    obtain rfl : l = [] := List.eq_nil_of_length_eq_zero h3
    refine (mSolve_nil v u w htab hv hu).mono ?_
    rintro e w' ⟨x, rfl, hx, X⟩
    exact ⟨X, .inr ⟨[], rfl, .inr ⟨[], x, rfl, rfl, hx⟩⟩⟩
  | cons a t => exact mSolve_go v u (a :: t) l _ w htab hv hu hs hs2 he rfl (by rw [List.length_cons]; omega)
end Go.Proofs.YtnfmknjhkpgppaaGreatDoor
/- walk: matrixFact -/
namespace Go.Proofs.YtnfmknjhkpgppaaGreatDoor
open Go.RowKit
set_option linter.unusedVariables false

def fourM : List (List ByteArray) := ([([(⟨#[49]⟩ : ByteArray), (⟨#[50]⟩ : ByteArray)] : List ByteArray), ([(⟨#[51]⟩ : ByteArray), (⟨#[52]⟩ : ByteArray)] : List ByteArray)] : List (List ByteArray))
def prodM : List (List ByteArray) := ([([(⟨#[55]⟩ : ByteArray), (⟨#[49, 48]⟩ : ByteArray)] : List ByteArray), ([(⟨#[49, 53]⟩ : ByteArray), (⟨#[50, 50]⟩ : ByteArray)] : List ByteArray)] : List (List ByteArray))
def traM : List (List ByteArray) := ([([(⟨#[49]⟩ : ByteArray), (⟨#[51]⟩ : ByteArray)] : List ByteArray), ([(⟨#[50]⟩ : ByteArray), (⟨#[52]⟩ : ByteArray)] : List ByteArray)] : List (List ByteArray))
def sysM : List (List ByteArray) := ([([(⟨#[49]⟩ : ByteArray), (⟨#[49]⟩ : ByteArray)] : List ByteArray), ([(⟨#[49]⟩ : ByteArray), (⟨#[45, 49]⟩ : ByteArray)] : List ByteArray)] : List (List ByteArray))
theorem mf1 (u v : Value) (w : World) (htab : TabPow w) (hu : Strs w u ([(⟨#[49]⟩ : ByteArray), (⟨#[50]⟩ : ByteArray)] : List ByteArray)) (hv : Strs w v ([(⟨#[51]⟩ : ByteArray), (⟨#[52]⟩ : ByteArray)] : List ByteArray)) : Calls Tryz.prog 16 #[u, v] w fun e w' => ∃ D, e = .returned (.tuple #[.string D, .int .i64 0]) ∧ D.toList = [49, 49] ∧ Ext w w' := by
  refine (mDot_ok u v _ _ w htab hu hv (small_row (by decide)) (small_row (by decide)) (by decide +kernel)).mono ?_
  rintro e w' ⟨rfl, X⟩
  rw [show outF (dotQ (([(⟨#[49]⟩ : ByteArray), (⟨#[50]⟩ : ByteArray)] : List ByteArray).map ratOf) (([(⟨#[51]⟩ : ByteArray), (⟨#[52]⟩ : ByteArray)] : List ByteArray).map ratOf)) = (⟨#[49, 49]⟩, 0) by decide +kernel]
  exact ⟨_, rfl, by decide +kernel, X⟩

theorem mf2 (v u : Value) (w : World) (htab : TabPow w) (hv : Rows Value.string w v fourM) (hu : Strs w u ([(⟨#[49]⟩ : ByteArray), (⟨#[49]⟩ : ByteArray)] : List ByteArray)) : Calls Tryz.prog 17 #[v, u] w fun e w' => ∃ a, e = .returned (.tuple #[a, .int .i64 0]) ∧ Strs w' a ([(⟨#[51]⟩ : ByteArray), (⟨#[55]⟩ : ByteArray)] : List ByteArray) ∧ Ext w w' := by
  refine (apply_ok v u fourM _ w htab hv hu (small_rows (by decide)) (small_row (by decide)) (by decide +kernel)).mono ?_
  rintro e w' ⟨X, h⟩
  rw [show outsG (applyQ fourM ([(⟨#[49]⟩ : ByteArray), (⟨#[49]⟩ : ByteArray)] : List ByteArray)) = some ([(⟨#[51]⟩ : ByteArray), (⟨#[55]⟩ : ByteArray)] : List ByteArray) by decide +kernel] at h
  rcases h with ⟨hn, _⟩ | ⟨os, x, h1, rfl, s1⟩
  · cases hn
  · cases h1
    exact ⟨_, rfl, s1, X⟩

theorem mf3 (v u : Value) (w : World) (htab : TabPow w) (hv : Rows Value.string w v fourM) (hu : Rows Value.string w u fourM) : Calls Tryz.prog 19 #[v, u] w fun e w' => ∃ a, e = .returned (.tuple #[a, .int .i64 0]) ∧ Rows Value.string w' a prodM ∧ Ext w w' := by
  refine (mul_ok v u fourM fourM w htab hv hu (small_rows (by decide)) (small_rows (by decide)) (by decide +kernel)).mono ?_
  rintro e w' ⟨X, h⟩
  rw [show outsM (mulQ fourM fourM) = some prodM by decide +kernel] at h
  rcases h with ⟨hn, _⟩ | ⟨os, x, h1, rfl, s1⟩
  · cases hn
  · cases h1
    exact ⟨_, rfl, s1, X⟩

theorem mf4 (v : Value) (w : World) (hv : Rows Value.string w v fourM) : Calls Tryz.prog 20 #[v] w fun e w' => ∃ a, e = .returned (.tuple #[a, .int .i64 0]) ∧ Rows Value.string w' a traM ∧ Ext w w' := by
  have h := trans_ok v fourM w hv (small_rows (by decide)) (by decide +kernel)
  rw [show transS fourM = traM by decide +kernel] at h
  exact h

theorem mf5 (v u : Value) (w : World) (htab : TabPow w) (hv : Rows Value.string w v sysM) (hu : Strs w u ([(⟨#[51]⟩ : ByteArray), (⟨#[49]⟩ : ByteArray)] : List ByteArray)) : Calls Tryz.prog 6 #[v, u] w fun e w' => ∃ a, e = .returned (.tuple #[a, .int .i64 0]) ∧ Strs w' a ([(⟨#[50]⟩ : ByteArray), (⟨#[49]⟩ : ByteArray)] : List ByteArray) ∧ Ext w w' := by
  refine (mSolve_ok v u sysM _ w htab hv hu (small_rows (by decide)) (small_row (by decide)) (by decide +kernel)).mono ?_
  rintro e w' ⟨X, h⟩
  rw [show sysL (wideL sysM) (augQ sysM ([(⟨#[51]⟩ : ByteArray), (⟨#[49]⟩ : ByteArray)] : List ByteArray)) = some ([2, 1] : List Rat) by decide +kernel] at h
  rcases h with ⟨hn, _⟩ | ⟨xs, h0, h⟩
  · cases hn
  · cases h0
    rw [show outsG ([2, 1] : List Rat) = some ([(⟨#[50]⟩ : ByteArray), (⟨#[49]⟩ : ByteArray)] : List ByteArray) by decide +kernel] at h
    rcases h with ⟨hn, _⟩ | ⟨os, x, h1, rfl, s1⟩
    · cases hn
    · cases h1
      exact ⟨_, rfl, s1, X⟩

theorem mf6 (v : Value) (w : World) (htab : TabPow w) (hv : Rows Value.string w v fourM) : Calls Tryz.prog 7 #[v] w fun e w' => ∃ D, e = .returned (.tuple #[.string D, .int .i64 0]) ∧ D.toList = [45, 50] ∧ Ext w w' := by
  refine (mDet_ok v fourM w htab hv (small_rows (by decide)) (by decide +kernel)).mono ?_
  rintro e w' ⟨rfl, X⟩
  rw [show outF (detL fourM.length (numM fourM)) = (⟨#[45, 50]⟩, 0) by decide +kernel]
  exact ⟨_, rfl, by decide +kernel, X⟩

theorem mf7 (v : Value) (w : World) (hv : Rows Value.string w v ([([(⟨#[49]⟩ : ByteArray)] : List ByteArray), ([] : List ByteArray)] : List (List ByteArray))) : Calls Tryz.prog 23 #[v] w fun e w' => e = .returned (.int .i64 3) ∧ Ext w w' := by
  exact mCheck_any v _ w hv (small_rows (by decide)) 3 (by decide +kernel)

theorem mf8 (v : Value) (w : World) (hv : Strs w v ([(⟨#[]⟩ : ByteArray)] : List ByteArray)) : Calls Tryz.prog 24 #[v] w fun e w' => e = .returned (.int .i64 5) ∧ Ext w w' := by
  exact checkVec_any v _ w hv (small_row (by decide)) 5 (by decide +kernel)

theorem mf9 (u v : Value) (w : World) (hu : Rows Value.string w u prodM) (hv : Rows Value.string w v fourM) : Calls Tryz.prog 22 #[u, v] w fun e w' => e = .returned (.bool false) ∧ Ext w w' := by
  exact same_ne u v _ _ _ _ _ _ w hu hv rfl rfl (by decide +kernel)


set_option maxHeartbeats 1600000 in
set_option maxRecDepth 100000 in
theorem four_any (w : World) : Calls Tryz.prog 18 #[] w fun e w' => ∃ v, e = .returned v ∧ Rows Value.string w' v fourM ∧ Ext w w' := by
  go_enter Tryz.func18, Tryz.ntmps18
  go_wp2_with fail
  go_ret
  refine ⟨_, rfl, ?_, (((Ext.refl w).alloc _).alloc _).alloc _⟩
  exact lit_rows2 _ _ ((lit_strs_at w _ ([(⟨#[49]⟩ : ByteArray), (⟨#[50]⟩ : ByteArray)] : List ByteArray) (by simp) _ rfl).ext ((Ext.refl _).alloc _)) (lit_strs_at _ _ ([(⟨#[51]⟩ : ByteArray), (⟨#[52]⟩ : ByteArray)] : List ByteArray) (by simp) _ (by simp)) _ (by simp)

set_option maxHeartbeats 16000000 in
set_option maxRecDepth 100000 in
theorem matrixFact_any (w : World) (htab : TabPow w) : Calls Tryz.prog 4 #[] w fun e w' => e = .returned (.bool true) ∧ Ext w w' := by
  have K1 := Lib.hid (fun u v W (hx : Ext w W) hu hv => mf1 u v W (tabPow_ext htab hx) hu hv)
  have K2 := Lib.hid (fun v u W (hx : Ext w W) hv hu => mf2 v u W (tabPow_ext htab hx) hv hu)
  have K3 := Lib.hid (fun v u W (hx : Ext w W) hv hu => mf3 v u W (tabPow_ext htab hx) hv hu)
  have K4 := Lib.hid mf4
  have K5 := Lib.hid (fun v u W (hx : Ext w W) hv hu => mf5 v u W (tabPow_ext htab hx) hv hu)
  have K6 := Lib.hid (fun v W (hx : Ext w W) hv => mf6 v W (tabPow_ext htab hx) hv)
  have K7 := Lib.hid mf7
  have K8 := Lib.hid mf8
  have K9 := Lib.hid mf9
  have KP := Lib.hid four_any
  clear htab
  have E0 := Ext.refl w
  go_enter Tryz.func4, Tryz.ntmps4
  go_wp2_with fail
  refine (K1.out _ _ _ (by repeat' (first | with_reducible exact E0 | with_reducible apply Ext.alloc)) (by exact (lit_strs_at _ _ ([(⟨#[49]⟩ : ByteArray), (⟨#[50]⟩ : ByteArray)] : List ByteArray) (by simp) _ (by first | rfl | simp)).ext ((Ext.refl _).alloc _)) (by exact lit_strs_at _ _ ([(⟨#[51]⟩ : ByteArray), (⟨#[52]⟩ : ByteArray)] : List ByteArray) (by simp) _ (by first | rfl | simp))).mono ?_
  rintro e w1 ⟨D1, rfl, d1, Y1⟩
  have X1 : Ext w w1 := Ext.trans (by repeat' (first | with_reducible exact Ext.refl _ | with_reducible apply Ext.alloc)) Y1
  clear Y1
  have E1 := E0.trans X1
  clear E0 X1
  go_wp2_with fail
  refine (KP.out _).mono ?_
  rintro e w2 ⟨vpa, rfl, hpa, Y2⟩
  have X2 : Ext w1 w2 := Ext.trans (by repeat' (first | with_reducible exact Ext.refl _ | with_reducible apply Ext.alloc)) Y2
  clear Y2
  have E2 := E1.trans X2
  clear E1 X2
  have HPa := Lib.hid hpa
  obtain ⟨usPa, hrPa, hulPa, helPa⟩ := hpa
  obtain ⟨aoPa, cPa, rfl, hxPa⟩ := hrPa
  clear hulPa helPa hxPa
  go_wp2_with fail
  refine (K2.out _ _ _ (by repeat' (first | with_reducible exact E2 | with_reducible apply Ext.alloc)) (by exact HPa.out.ext (by repeat' (first | with_reducible exact Ext.refl _ | with_reducible apply Ext.alloc))) (by exact lit_strs_at _ _ ([(⟨#[49]⟩ : ByteArray), (⟨#[49]⟩ : ByteArray)] : List ByteArray) (by simp) _ (by first | rfl | simp))).mono ?_
  rintro e w3 ⟨va, rfl, ha, Y3⟩
  have X3 : Ext w2 w3 := Ext.trans (by repeat' (first | with_reducible exact Ext.refl _ | with_reducible apply Ext.alloc)) Y3
  clear Y3
  have E3 := E2.trans X3
  have HPa := Lib.hid (HPa.out.ext X3)
  clear E2 X3
  obtain ⟨aoa, ca, rfl, _, _⟩ := ha.open
  have Ha := Lib.hid ha
  clear ha
  clear HPa
  go_wp2_with fail
  refine (KP.out _).mono ?_
  rintro e w4 ⟨vpb, rfl, hpb, Y4⟩
  have X4 : Ext w3 w4 := Ext.trans (by repeat' (first | with_reducible exact Ext.refl _ | with_reducible apply Ext.alloc)) Y4
  clear Y4
  have E4 := E3.trans X4
  have Ha := Lib.hid (Ha.out.ext X4)
  clear E3 X4
  have HPb := Lib.hid hpb
  obtain ⟨usPb, hrPb, hulPb, helPb⟩ := hpb
  obtain ⟨aoPb, cPb, rfl, hxPb⟩ := hrPb
  clear hulPb helPb hxPb
  go_wp2_with fail
  refine (KP.out _).mono ?_
  rintro e w5 ⟨vpc, rfl, hpc, Y5⟩
  have X5 : Ext w4 w5 := Ext.trans (by repeat' (first | with_reducible exact Ext.refl _ | with_reducible apply Ext.alloc)) Y5
  clear Y5
  have E5 := E4.trans X5
  have Ha := Lib.hid (Ha.out.ext X5)
  have HPb := Lib.hid (HPb.out.ext X5)
  clear E4 X5
  have HPc := Lib.hid hpc
  obtain ⟨usPc, hrPc, hulPc, helPc⟩ := hpc
  obtain ⟨aoPc, cPc, rfl, hxPc⟩ := hrPc
  clear hulPc helPc hxPc
  go_wp2_with fail
  refine (K3.out _ _ _ (by repeat' (first | with_reducible exact E5 | with_reducible apply Ext.alloc)) HPb.out HPc.out).mono ?_
  rintro e w6 ⟨vm, rfl, hm, Y6⟩
  have X6 : Ext w5 w6 := Ext.trans (by repeat' (first | with_reducible exact Ext.refl _ | with_reducible apply Ext.alloc)) Y6
  clear Y6
  have E6 := E5.trans X6
  have Ha := Lib.hid (Ha.out.ext X6)
  have HPb := Lib.hid (HPb.out.ext X6)
  have HPc := Lib.hid (HPc.out.ext X6)
  clear E5 X6
  have HM := Lib.hid hm
  obtain ⟨usM, hrM, hulM, helM⟩ := hm
  obtain ⟨aoM, cM, rfl, hxM⟩ := hrM
  clear hulM helM hxM
  clear HPb
  clear HPc
  go_wp2_with fail
  refine (KP.out _).mono ?_
  rintro e w7 ⟨vpd, rfl, hpd, Y7⟩
  have X7 : Ext w6 w7 := Ext.trans (by repeat' (first | with_reducible exact Ext.refl _ | with_reducible apply Ext.alloc)) Y7
  clear Y7
  have E7 := E6.trans X7
  have Ha := Lib.hid (Ha.out.ext X7)
  have HM := Lib.hid (HM.out.ext X7)
  clear E6 X7
  have HPd := Lib.hid hpd
  obtain ⟨usPd, hrPd, hulPd, helPd⟩ := hpd
  obtain ⟨aoPd, cPd, rfl, hxPd⟩ := hrPd
  clear hulPd helPd hxPd
  go_wp2_with fail
  refine (K4.out _ _ HPd.out).mono ?_
  rintro e w8 ⟨vt, rfl, ht, Y8⟩
  have X8 : Ext w7 w8 := Ext.trans (by repeat' (first | with_reducible exact Ext.refl _ | with_reducible apply Ext.alloc)) Y8
  clear Y8
  have E8 := E7.trans X8
  have Ha := Lib.hid (Ha.out.ext X8)
  have HM := Lib.hid (HM.out.ext X8)
  have HPd := Lib.hid (HPd.out.ext X8)
  clear E7 X8
  have HT := Lib.hid ht
  obtain ⟨usT, hrT, hulT, helT⟩ := ht
  obtain ⟨aoT, cT, rfl, hxT⟩ := hrT
  clear hulT helT hxT
  clear HPd
  go_wp2_with fail
  refine (K5.out _ _ _ (by repeat' (first | with_reducible exact E8 | with_reducible apply Ext.alloc)) (by exact (lit_rows2 _ _ ((lit_strs_at _ _ ([(⟨#[49]⟩ : ByteArray), (⟨#[49]⟩ : ByteArray)] : List ByteArray) (by simp) _ (by first | rfl | simp)).ext ((Ext.refl _).alloc _)) (lit_strs_at _ _ ([(⟨#[49]⟩ : ByteArray), (⟨#[45, 49]⟩ : ByteArray)] : List ByteArray) (by simp) _ (by first | rfl | simp)) _ (by first | rfl | simp)).ext ((Ext.refl _).alloc _)) (by exact lit_strs_at _ _ ([(⟨#[51]⟩ : ByteArray), (⟨#[49]⟩ : ByteArray)] : List ByteArray) (by simp) _ (by first | rfl | simp))).mono ?_
  rintro e w9 ⟨vx, rfl, hx, Y9⟩
  have X9 : Ext w8 w9 := Ext.trans (by repeat' (first | with_reducible exact Ext.refl _ | with_reducible apply Ext.alloc)) Y9
  clear Y9
  have E9 := E8.trans X9
  have Ha := Lib.hid (Ha.out.ext X9)
  have HM := Lib.hid (HM.out.ext X9)
  have HT := Lib.hid (HT.out.ext X9)
  clear E8 X9
  obtain ⟨aox, cx, rfl, _, _⟩ := hx.open
  have Hx := Lib.hid hx
  clear hx
  go_wp2_with fail
  refine (KP.out _).mono ?_
  rintro e w10 ⟨vpe, rfl, hpe, Y10⟩
  have X10 : Ext w9 w10 := Ext.trans (by repeat' (first | with_reducible exact Ext.refl _ | with_reducible apply Ext.alloc)) Y10
  clear Y10
  have E10 := E9.trans X10
  have Ha := Lib.hid (Ha.out.ext X10)
  have HM := Lib.hid (HM.out.ext X10)
  have HT := Lib.hid (HT.out.ext X10)
  have Hx := Lib.hid (Hx.out.ext X10)
  clear E9 X10
  have HPe := Lib.hid hpe
  obtain ⟨usPe, hrPe, hulPe, helPe⟩ := hpe
  obtain ⟨aoPe, cPe, rfl, hxPe⟩ := hrPe
  clear hulPe helPe hxPe
  go_wp2_with fail
  refine (K6.out _ _ (by repeat' (first | with_reducible exact E10 | with_reducible apply Ext.alloc)) HPe.out).mono ?_
  rintro e w11 ⟨D2, rfl, d2, Y11⟩
  have X11 : Ext w10 w11 := Ext.trans (by repeat' (first | with_reducible exact Ext.refl _ | with_reducible apply Ext.alloc)) Y11
  clear Y11
  have E11 := E10.trans X11
  have Ha := Lib.hid (Ha.out.ext X11)
  have HM := Lib.hid (HM.out.ext X11)
  have HT := Lib.hid (HT.out.ext X11)
  have Hx := Lib.hid (Hx.out.ext X11)
  have HPe := Lib.hid (HPe.out.ext X11)
  clear E10 X11
  clear HPe
  go_wp2_with fail
  refine (fine_any _ [0, 0, 0, 0, 0, 0] _ (by exact lit_ints_at _ _ ([0, 0, 0, 0, 0, 0] : List Int) (by decide) _ (by first | rfl | simp)) true rfl).mono ?_
  rintro e w12 ⟨rfl, Y12⟩
  have X12 : Ext w11 w12 := Ext.trans (by repeat' (first | with_reducible exact Ext.refl _ | with_reducible apply Ext.alloc)) Y12
  clear Y12
  have E12 := E11.trans X12
  have Ha := Lib.hid (Ha.out.ext X12)
  have HM := Lib.hid (HM.out.ext X12)
  have HT := Lib.hid (HT.out.ext X12)
  have Hx := Lib.hid (Hx.out.ext X12)
  clear E11 X12
  go_wp2_with fail
  refine (equal_vec _ _ ([(⟨#[51]⟩ : ByteArray), (⟨#[55]⟩ : ByteArray)] : List ByteArray) _ (by exact Ha.out.ext (by repeat' (first | with_reducible exact Ext.refl _ | with_reducible apply Ext.alloc))) (by exact lit_strs_at _ _ ([(⟨#[51]⟩ : ByteArray), (⟨#[55]⟩ : ByteArray)] : List ByteArray) (by simp) _ (by first | rfl | simp))).mono ?_
  rintro e w13 ⟨rfl, Y13⟩
  have X13 : Ext w12 w13 := Ext.trans (by repeat' (first | with_reducible exact Ext.refl _ | with_reducible apply Ext.alloc)) Y13
  clear Y13
  have E13 := E12.trans X13
  have Ha := Lib.hid (Ha.out.ext X13)
  have HM := Lib.hid (HM.out.ext X13)
  have HT := Lib.hid (HT.out.ext X13)
  have Hx := Lib.hid (Hx.out.ext X13)
  clear E12 X13
  go_wp2_with fail
  refine (same_any _ _ prodM _ (by exact HM.out.ext (by repeat' (first | with_reducible exact Ext.refl _ | with_reducible apply Ext.alloc))) (by exact lit_rows2 _ _ ((lit_strs_at _ _ ([(⟨#[55]⟩ : ByteArray), (⟨#[49, 48]⟩ : ByteArray)] : List ByteArray) (by simp) _ (by first | rfl | simp)).ext ((Ext.refl _).alloc _)) (lit_strs_at _ _ ([(⟨#[49, 53]⟩ : ByteArray), (⟨#[50, 50]⟩ : ByteArray)] : List ByteArray) (by simp) _ (by first | rfl | simp)) _ (by first | rfl | simp))).mono ?_
  rintro e w14 ⟨rfl, Y14⟩
  have X14 : Ext w13 w14 := Ext.trans (by repeat' (first | with_reducible exact Ext.refl _ | with_reducible apply Ext.alloc)) Y14
  clear Y14
  have E14 := E13.trans X14
  have Ha := Lib.hid (Ha.out.ext X14)
  have HM := Lib.hid (HM.out.ext X14)
  have HT := Lib.hid (HT.out.ext X14)
  have Hx := Lib.hid (Hx.out.ext X14)
  clear E13 X14
  go_wp2_with fail
  refine (same_any _ _ traM _ (by exact HT.out.ext (by repeat' (first | with_reducible exact Ext.refl _ | with_reducible apply Ext.alloc))) (by exact lit_rows2 _ _ ((lit_strs_at _ _ ([(⟨#[49]⟩ : ByteArray), (⟨#[51]⟩ : ByteArray)] : List ByteArray) (by simp) _ (by first | rfl | simp)).ext ((Ext.refl _).alloc _)) (lit_strs_at _ _ ([(⟨#[50]⟩ : ByteArray), (⟨#[52]⟩ : ByteArray)] : List ByteArray) (by simp) _ (by first | rfl | simp)) _ (by first | rfl | simp))).mono ?_
  rintro e w15 ⟨rfl, Y15⟩
  have X15 : Ext w14 w15 := Ext.trans (by repeat' (first | with_reducible exact Ext.refl _ | with_reducible apply Ext.alloc)) Y15
  clear Y15
  have E15 := E14.trans X15
  have Ha := Lib.hid (Ha.out.ext X15)
  have HM := Lib.hid (HM.out.ext X15)
  have HT := Lib.hid (HT.out.ext X15)
  have Hx := Lib.hid (Hx.out.ext X15)
  clear E14 X15
  go_wp2_with fail
  refine (equal_vec _ _ ([(⟨#[50]⟩ : ByteArray), (⟨#[49]⟩ : ByteArray)] : List ByteArray) _ (by exact Hx.out.ext (by repeat' (first | with_reducible exact Ext.refl _ | with_reducible apply Ext.alloc))) (by exact lit_strs_at _ _ ([(⟨#[50]⟩ : ByteArray), (⟨#[49]⟩ : ByteArray)] : List ByteArray) (by simp) _ (by first | rfl | simp))).mono ?_
  rintro e w16 ⟨rfl, Y16⟩
  have X16 : Ext w15 w16 := Ext.trans (by repeat' (first | with_reducible exact Ext.refl _ | with_reducible apply Ext.alloc)) Y16
  clear Y16
  have E16 := E15.trans X16
  have Ha := Lib.hid (Ha.out.ext X16)
  have HM := Lib.hid (HM.out.ext X16)
  have HT := Lib.hid (HT.out.ext X16)
  have Hx := Lib.hid (Hx.out.ext X16)
  clear E15 X16
  go_wp2_with fail
  refine (KP.out _).mono ?_
  rintro e w17 ⟨vpf, rfl, hpf, Y17⟩
  have X17 : Ext w16 w17 := Ext.trans (by repeat' (first | with_reducible exact Ext.refl _ | with_reducible apply Ext.alloc)) Y17
  clear Y17
  have E17 := E16.trans X17
  have Ha := Lib.hid (Ha.out.ext X17)
  have HM := Lib.hid (HM.out.ext X17)
  have HT := Lib.hid (HT.out.ext X17)
  have Hx := Lib.hid (Hx.out.ext X17)
  clear E16 X17
  have HPf := Lib.hid hpf
  obtain ⟨usPf, hrPf, hulPf, helPf⟩ := hpf
  obtain ⟨aoPf, cPf, rfl, hxPf⟩ := hrPf
  clear hulPf helPf hxPf
  go_wp2_with fail
  refine (K9.out _ _ _ HM.out HPf.out).mono ?_
  rintro e w18 ⟨rfl, Y18⟩
  have X18 : Ext w17 w18 := Ext.trans (by repeat' (first | with_reducible exact Ext.refl _ | with_reducible apply Ext.alloc)) Y18
  clear Y18
  have E18 := E17.trans X18
  have Ha := Lib.hid (Ha.out.ext X18)
  have HM := Lib.hid (HM.out.ext X18)
  have HT := Lib.hid (HT.out.ext X18)
  have Hx := Lib.hid (Hx.out.ext X18)
  have HPf := Lib.hid (HPf.out.ext X18)
  clear E17 X18
  go_wp2_with fail
  refine (K7.out _ _ (by exact lit_rows2 _ _ ((lit_strs_at _ _ ([(⟨#[49]⟩ : ByteArray)] : List ByteArray) (by simp) _ (by first | rfl | simp)).ext ((Ext.refl _).alloc _)) (lit_strs_at _ _ ([] : List ByteArray) (by simp) _ (by first | rfl | simp)) _ (by first | rfl | simp))).mono ?_
  rintro e w19 ⟨rfl, Y19⟩
  have X19 : Ext w18 w19 := Ext.trans (by repeat' (first | with_reducible exact Ext.refl _ | with_reducible apply Ext.alloc)) Y19
  clear Y19
  have E19 := E18.trans X19
  have Ha := Lib.hid (Ha.out.ext X19)
  have HM := Lib.hid (HM.out.ext X19)
  have HT := Lib.hid (HT.out.ext X19)
  have Hx := Lib.hid (Hx.out.ext X19)
  have HPf := Lib.hid (HPf.out.ext X19)
  clear E18 X19
  go_wp2_with fail
  refine (K8.out _ _ (by exact lit_strs_at _ _ ([(⟨#[]⟩ : ByteArray)] : List ByteArray) (by simp) _ (by first | rfl | simp))).mono ?_
  rintro e w20 ⟨rfl, Y20⟩
  have X20 : Ext w19 w20 := Ext.trans (by repeat' (first | with_reducible exact Ext.refl _ | with_reducible apply Ext.alloc)) Y20
  clear Y20
  have E20 := E19.trans X20
  have Ha := Lib.hid (Ha.out.ext X20)
  have HM := Lib.hid (HM.out.ext X20)
  have HT := Lib.hid (HT.out.ext X20)
  have Hx := Lib.hid (Hx.out.ext X20)
  have HPf := Lib.hid (HPf.out.ext X20)
  clear E19 X20
  go_wp2_with fail
  go_ret
  exact ⟨by first | rfl | simp, E20⟩
end Go.Proofs.YtnfmknjhkpgppaaGreatDoor
