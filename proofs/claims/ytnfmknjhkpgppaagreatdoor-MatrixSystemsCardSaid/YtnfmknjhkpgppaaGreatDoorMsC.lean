/- walk: the reference's System of equations -/
import Derived.Test.YtnfmknjhkpgppaaGreatDoorMsX
import Derived.Deep.DeepMust
import Derived.Deep.CutBlock
namespace Go.Proofs.YtnfmknjhkpgppaaGreatDoor
open Go.RowKit
set_option linter.unusedVariables false

/-- the rows with the right side behind each -/
def augL (M : List (List Rat)) (V : List Rat) : List (List Rat) := List.zipWith (fun r v => r ++ [v]) M V
theorem augL_len {M : List (List Rat)} {V : List Rat} (h : M.length = V.length) : (augL M V).length = M.length := by
  unfold augL; rw [List.length_zipWith]; omega
theorem augL_get {M : List (List Rat)} {V : List Rat} {i : Nat} {r : List Rat} {q : Rat} (h : M[i]? = some r) (hq : V[i]? = some q) : (augL M V)[i]? = some (r ++ [q]) := by
  unfold augL; rw [List.getElem?_zipWith, h, hq]
theorem augL_wide {M : List (List Rat)} {V : List Rat} {n : Nat} (h : ∀ r ∈ M, r.length = n) : ∀ r ∈ augL M V, r.length = n + 1 := by
  intro r hr
  unfold augL at hr
  obtain ⟨i, hi⟩ := List.mem_iff_getElem?.1 hr
  rw [List.getElem?_zipWith] at hi
  split at hi
  · rename_i a b ha hb
    cases hi
    rw [List.length_append, h a (List.mem_of_getElem? ha)]; rfl
  · cases hi
theorem augL_mem {M : List (List Rat)} {V : List Rat} {P : Rat → Prop} (h : ∀ r ∈ M, ∀ q ∈ r, P q) (hV : ∀ q ∈ V, P q) : ∀ r ∈ augL M V, ∀ q ∈ r, P q := by
  intro r hr q hq
  unfold augL at hr
  obtain ⟨i, hi⟩ := List.mem_iff_getElem?.1 hr
  rw [List.getElem?_zipWith] at hi
  split at hi
  · rename_i a b ha hb
    cases hi
    rcases List.mem_append.1 hq with hq | hq
    · exact h a (List.mem_of_getElem? ha) q hq
    · rw [List.mem_singleton.1 hq]; exact hV b (List.mem_of_getElem? hb)
  · cases hi
/-- bound of a solution -/
def XB : Nat → Nat → Nat
  | 0, _ => 0
  | n + 1, k => k + n * (k + XB n (4 * k + 1) + 1) + k

theorem ei_vv : EI Tryz.prog 22 25 (.slice none 0 0) 1 24 := ⟨Tryz.underlying22, info_parts info_vec, rfl, by decide⟩
def SysPost (o : Option (List Rat)) (w : World) (e : Ending) (w' : World) : Prop := Ext w w' ∧
  ((o = none ∧ ∃ u, e = .returned (.tuple #[u, .bool false])) ∨ ∃ x u, o = some x ∧ e = .returned (.tuple #[u, .bool true]) ∧ Strs w' u (x.map ratT) ∧ Fr w.heap.size u ((x.map ratT).map Value.string))
def SysC (n k : Nat) : Prop := ∀ (M : List (List Rat)) (V : List Rat) (v1 v2 : Value) (w : World), Rows Value.string w v1 (textM M) → Strs w v2 (V.map ratT) → M.length = V.length → M.length ≤ 1000 →
  (∀ r ∈ M, r.length = n) → (∀ r ∈ M, ∀ q ∈ r, RB k q) → (∀ q ∈ V, RB k q) → Calls Tryz.prog 14 #[v1, v2, .int .i64 (n : Int)] w (SysPost (sysL n (augL M V)) w)


/-! ### plain -/
theorem takeS {α : Type} {l : List α} {i : Nat} {x : α} (h : l[i]? = some x) : l.take (i + 1) = l.take i ++ [x] := by
  obtain ⟨h1, h2⟩ := List.getElem?_eq_some_iff.1 h
  rw [List.take_succ_eq_append_getElem h1, h2]
theorem atS_snoc (n : Nat) (l : List (List Rat)) (r : List Rat) : atS n (l ++ [r]) = match atS n l with
    | some j => some j
    | none => if r.getD n 0 ≠ 0 then some l.length else none := by
  unfold atS
  rw [List.findIdx?_append]
  cases h : l.findIdx? (fun r => decide (r.getD n 0 ≠ 0)) with
  | some j => rfl
  | none =>
    rw [List.findIdx?_singleton]
    show Option.map _ (if decide (r.getD n 0 ≠ 0) = true then some 0 else none) = if r.getD n 0 ≠ 0 then some l.length else none
    by_cases h0 : r.getD n 0 ≠ 0
    · rw [if_pos h0, if_pos (decide_eq_true h0)]
      show some (0 + l.length) = _
      rw [Nat.zero_add]
    · rw [if_neg h0, if_neg (fun e => h0 (of_decide_eq_true e))]
      rfl
/-- a number of a row less so many times another one -/
def lessE (n : Nat) (a r : List Rat) (j : Nat) : Rat := r.getD j 0 - r.getD n 0 / a.getD n 0 * a.getD j 0
theorem lessR_take (n : Nat) (a r : List Rat) : (lessR n a r).take n = (List.range n).map (lessE n a r) := by
  unfold lessR
  rw [List.take_append_of_le_length (by simp), List.take_of_length_le (by simp)]
  rfl
theorem lessR_len (n : Nat) (a r : List Rat) : (lessR n a r).length = n + 1 := by unfold lessR; simp
theorem lessE_RB {n k : Nat} {a r : List Rat} (hz : a.getD n 0 ≠ 0) (ha : ∀ j, RB k (a.getD j 0)) (hr : ∀ j, RB k (r.getD j 0)) (j : Nat) : RB (4 * k + 1) (lessE n a r j) := by
  unfold lessE
  refine (RB_sub (hr j) (RB_mul (RB_div ?_ (hr n) (ha n)) (ha j))).mono (by omega)
  exact fun e => hz (Rat.num_eq_zero.1 e)
theorem lessR_mem {n : Nat} {a r : List Rat} {P : Rat → Prop} (h : ∀ j, P (lessE n a r j)) : ∀ q ∈ lessR n a r, P q := by
  intro q hq
  unfold lessR at hq
  rcases List.mem_append.1 hq with hq | hq
  · obtain ⟨j, _, rfl⟩ := List.mem_map.1 hq
    exact h j
  · rw [List.mem_singleton.1 hq]
    exact h (n + 1)
theorem getD_RB {k : Nat} {r : List Rat} (h : ∀ q ∈ r, RB k q) (hk : 1 ≤ k) (j : Nat) : RB k (r.getD j 0) := by
  rw [List.getD_eq_getElem?_getD]
  cases hj : r[j]? with
  | none => exact RB_zero.mono hk
  | some x => exact h x (List.mem_of_getElem? hj)
theorem aug_split {n : Nat} : ∀ (l : List (List Rat)), (∀ r ∈ l, r.length = n + 1) → augL (l.map (·.take n)) (l.map (·.getD n 0)) = l
  | [], _ => rfl
  | r :: t, h => by
    have h1 := h r (List.mem_cons_self ..)
    have e : r.take n ++ [r.getD n 0] = r := by
      rw [List.getD_eq_getElem?_getD, List.getElem?_eq_getElem (by omega)]
      show r.take n ++ [r[n]'(by omega)] = r
      rw [← List.take_succ_eq_append_getElem, List.take_of_length_le (by omega)]
    have h2 := aug_split t fun x hx => h x (List.mem_cons_of_mem _ hx)
    unfold augL at h2 ⊢
    rw [List.map_cons, List.map_cons, List.zipWith_cons_cons, h2, e]
/-- the rows but one, each less so many times that one -/
def lessB (n i0 : Nat) (a : List Rat) (A : List (List Rat)) (i : Nat) : List (List Rat) := ((A.take i).eraseIdx i0).map (lessR n a)
theorem lessB_at {n i0 i : Nat} {a : List Rat} {A : List (List Rat)} {r : List Rat} (h : A[i]? = some r) (hi : i = i0) : lessB n i0 a A (i + 1) = lessB n i0 a A i := by
  subst hi
  have hl := (List.getElem?_eq_some_iff.1 h).1
  unfold lessB
  have e1 : (A.take i).length = i := by rw [List.length_take]; omega
  have e2 : (A.take i).eraseIdx i = A.take i := List.eraseIdx_of_length_le (by omega)
  rw [takeS h, List.eraseIdx_append_of_length_le (by omega), e1, e2, Nat.sub_self]
  simp
theorem lessB_ne {n i0 i : Nat} {a : List Rat} {A : List (List Rat)} {r : List Rat} (h : A[i]? = some r) (hi : i ≠ i0) : lessB n i0 a A (i + 1) = lessB n i0 a A i ++ [lessR n a r] := by
  have hl := (List.getElem?_eq_some_iff.1 h).1
  unfold lessB
  rw [takeS h]
  by_cases h2 : i < i0
  · rw [List.eraseIdx_of_length_le (by rw [List.length_append, List.length_take, List.length_singleton]; omega), List.eraseIdx_of_length_le (by rw [List.length_take]; omega), List.map_append]; rfl
  · rw [List.eraseIdx_append_of_lt_length (by rw [List.length_take]; omega), List.map_append]; rfl
theorem lessB_len (n i0 : Nat) (a : List Rat) (A : List (List Rat)) (i : Nat) : (lessB n i0 a A i).length ≤ i := by
  unfold lessB
  rw [List.length_map]
  have := List.length_eraseIdx_le (A.take i) i0
  rw [List.length_take] at this
  omega
theorem cells_at {w : World} {b off i : Nat} {vs : List Value} {x : Value} (h : Cells w (some ⟨b, off, none⟩) vs) (hx : Hid (vs[i]? = some x)) : w.cell? ⟨b, off + i, none⟩ = some x := by
  obtain ⟨b2, off2, e, hc⟩ := h i x hx.out
  simp only [Option.some.injEq, Addr.mk.injEq, and_true] at e
  obtain ⟨rfl, rfl⟩ := e
  exact hc
def atI : Option Nat → Int
  | none => -1
  | some j => j
theorem sumN_snoc (f : Nat → Rat) (n : Nat) : sumN f (n + 1) = sumN f n + f n := rfl
theorem rest_RB {k m : Nat} {f : Nat → Rat} {c : Rat} (hc : RB k c) {n : Nat} (hf : ∀ j, j < n → RB (k + m) (f j)) : ∀ i, i ≤ n → RB (k + i * (k + m + 1)) (c - sumN f i)
  | 0, _ => by
    have e : c - sumN f 0 = c := by show c - 0 = c; grind
    rw [e]; exact hc.mono (by omega)
  | i + 1, h => by
    have e : c - sumN f (i + 1) = (c - sumN f i) - f i := by rw [sumN_snoc]; grind
    rw [e, Nat.succ_mul]
    exact (RB_sub (rest_RB hc hf i (by omega)) (hf i (by omega))).mono (by omega)
theorem sysL_RB : ∀ (n k : Nat) (rows : List (List Rat)) (x : List Rat), 1 ≤ k → (∀ r ∈ rows, ∀ q ∈ r, RB k q) → sysL n rows = some x → ∀ q ∈ x, RB (XB n k) q
  | 0, k, rows, x, _, _, h => by
    rw [sysL] at h
    split at h
    · cases h
    · cases h; intro q hq; cases hq
  | n + 1, k, rows, x, hk, hr, h => by
    rw [sysL] at h
    split at h
    · cases h
    · rename_i i hi
      obtain ⟨a, ha, hg, h0⟩ := atS_some hi
      rw [hg] at h
      have hra := fun j => getD_RB (hr a (List.mem_of_getElem? ha)) hk j
      split at h
      · cases h
      · rename_i z hz
        have hzl := sysL_len n _ z hz
        have ih := sysL_RB n (4 * k + 1) _ z (by omega) (fun r hm q hq => by
          obtain ⟨s, hs, rfl⟩ := List.mem_map.1 hm
          exact lessR_mem (fun j => lessE_RB h0 hra (fun j => getD_RB (hr s (List.mem_of_mem_eraseIdx hs)) hk j) j) q hq) hz
        cases h
        intro q hq
        have hXB : XB (n + 1) k = k + n * (k + XB n (4 * k + 1) + 1) + k := rfl
        rcases List.mem_append.1 hq with hq | hq
        · refine (ih q hq).mono ?_
          have : 1 ≤ n := by rw [← hzl]; exact List.length_pos_iff.2 (List.ne_nil_of_mem hq)
          have := Nat.mul_le_mul_right (k + XB n (4 * k + 1) + 1) this
          omega
        · rw [List.mem_singleton.1 hq, hXB]
          refine RB_div (fun e => h0 (Rat.num_eq_zero.1 e)) (rest_RB (hra (n + 1)) (n := n) (fun j hj => RB_mul (hra j) ?_) n (Nat.le_refl _)) (hra n)
          rw [List.getD_eq_getElem?_getD, List.getElem?_eq_getElem (by omega)]
          exact ih _ (List.getElem_mem _)

set_option maxHeartbeats 64000000 in
set_option maxRecDepth 100000 in
theorem rSys_step (n k : Nat) (hn : n ≤ 40) (hk1 : 1 ≤ k) (hk : 4 * k + 1 ≤ 390000) (hB : XB n k ≤ 390000) (IH : ∀ n', n = n' + 1 → Hid (SysC n' (4 * k + 1))) : SysC n k := by
  intro M V v1 v2 w hv1 hv2 hMV hM hw hq hqv
  unfold SysPost
  obtain ⟨us, hr, hul, hel⟩ := hv1
  obtain ⟨ao, c, rfl, _, hlen, _, hc⟩ := hr
  have hus : us.length = M.length := by rw [hul]; unfold textM; rw [List.length_map]
  have HC := Lib.hid hc
  have HEL := Lib.hid hel
  have HUS := Lib.hid hus
  have HWD := Lib.hid hw
  have HMV := Lib.hid hMV
  have HBB := Lib.hid hB
  have HIH := Lib.hid IH
  have hu1 : us.length ≤ 1000 := by omega
  obtain ⟨vo, vc, rfl, hvl, hvC⟩ := hv2.open
  have HVC := Lib.hid hvC
  obtain ⟨wo, rfl⟩ : ∃ wo : World, wo = w := ⟨_, rfl⟩
  have HQ := Lib.hid hq
  have HQV := Lib.hid hqv
  have HVL : Hid ((V.map ratT).length = us.length) := by show _ = _; rw [List.length_map, ← hMV, hus]
  obtain ⟨A, hA⟩ : ∃ A, augL M V = A := ⟨_, rfl⟩
  have HAL : Hid (A.length = us.length) := by show _ = _; rw [← hA, augL_len hMV, hus]
  have HAG : Hid (∀ i r q, M[i]? = some r → V[i]? = some q → A[i]? = some (r ++ [q])) := fun i r q h1 h2 => by rw [← hA]; exact augL_get h1 h2
  have HAW : Hid (∀ r ∈ A, r.length = n + 1) := by rw [← hA]; exact augL_wide hw
  have HAQ : Hid (∀ r ∈ A, ∀ q ∈ r, RB k q) := by rw [← hA]; exact augL_mem hq hqv
  rw [hA]
  rw [HVL.out] at hvl ⊢
  obtain ⟨o, ho⟩ : ∃ o, sysL n A = o := ⟨_, rfl⟩
  have HO9 := Lib.hid ho
  rw [ho]
  clear hc hel hul hw hM hus hlen hMV hB hq hqv hA hv2 hvC ho IH
  go_enter Tryz.func14, Tryz.ntmps14
  go_wp2_with fail
  go_loopw [8, 31] (fun ov iv wr => ∃ (i : Nat) (xs : List Value), i ≤ us.length ∧ iv = .int .i64 i ∧ Hid (wr.ownsRow wo.heap.size 25 1 ov i xs) ∧ Hid (RowsX wo.heap.size ov.ownBlock wr xs (((textM A).take i).map (·.map Value.string))) ∧ Ext wo wr) (fun _ iv _ => us.length - (intOf iv).toNat)
  case atStart => exact ⟨0, [], Nat.zero_le _, rfl, World.ownsRow_nil _ _ _ _, RowsX.nil _ _ _, Ext.refl _⟩
  case round =>
    obtain ⟨i, xs, hi, rfl, HO, HRX, X⟩ := hrel
    by_cases hlt : i < us.length
    · obtain ⟨u, d1, d2, d3⟩ := get_lt hlt
      obtain ⟨r, q1, q2, q3⟩ := get_lt (xs := M) (k := i) (by rw [← HUS.out]; exact hlt)
      obtain ⟨q, p1, p2, p3⟩ := get_lt (xs := V) (k := i) (by rw [← HMV.out, ← HUS.out]; exact hlt)
      obtain ⟨b, off, rfl, hc0⟩ := HC.out.ext X i u d1.out
      have hcell : wr.cell? ⟨b, off + i, none⟩ = some u := hc0
      have hpq : Hid ((V.map ratT)[i]? = some (ratT q)) := by show _ = _; rw [List.getElem?_map, p1.out]; rfl
      obtain ⟨vb, voff, rfl, hcq0⟩ := HVC.out.at hpq
      have hcq := X.cell hcq0
      have hAi := HAG.out i r q q1.out p1.out
      have HTA : Hid ((textM A).take (i + 1) = (textM A).take i ++ [r.map ratT ++ [ratT q]]) := by
        show _ = _
        refine takeS ?_
        unfold textM
        rw [List.getElem?_map, hAi, Option.map_some, List.map_append]; rfl
      have hrow := (HEL.out i u (r.map ratT) d1.out (by unfold textM; rw [List.getElem?_map, q1.out]; rfl)).ext X
      have hrl : (r.map ratT).length = n := by rw [List.length_map]; exact HWD.out r (List.mem_of_getElem? q1.out)
      have HSR := Lib.hid (RowOf.src hrow (fun _ => rfl))
      obtain ⟨ro, rc, rfl, _, _⟩ := hrow.open
      rw [hrl] at HSR hcell
      generalize ratT q = T at *
      have hii : (i : Int) < (us.length : Int) := by omega
      have hA1 : n ≤ 17592186044416 := by omega
      have hA2 : n * 16 ≤ 140737488355328 := by omega
      have hA3 : n + 1 ≤ 17592186044416 := by omega
      have hA4 : (n + 1) * 16 ≤ 140737488355328 := by omega
      have hA5 : i + 1 ≤ 17592186044416 := by omega
      have hA6 : (i + 1) * 24 ≤ 140737488355328 := by omega
      have HXS := Lib.hid X.size
      have HCQ := Lib.hid hcq
      have HCQ0 := Lib.hid hcq0
      clear hc0 d1 d2 d3 q1 q2 q3 p1 p2 p3 hpq hAi hrow hlt hrl hcq0
      go_wp2_with fail
      go_region_held3 (fun W9 => W9.cell? ⟨vb, voff + i, none⟩ = some (.string T)) (first | exact Y3.cell HCQ0.out | exact Y2.cell HCQ.out | exact Y1.cell HCQ.out | exact HCQ.out | go_keep) (first
        | (refine step_app0 (s := .tmp 37) (x := .tmp 38) rfl rfl ei_vecs rfl rfl wr.heap.size (by simp only [drew_heap]; first | exact heap_new _ _ | exact heap_old2 _ _ _ | exact heap_new2 _ _ _) (by simp) (HSR.out.ext (by repeat' (first | with_reducible exact Ext.refl _ | with_reducible apply Ext.alloc | with_reducible apply Ext.drew))) hA1 hA2 ?_; intro v1 w1 hown1 hgrew1; have Y1 : Ext wr w1 := hgrew1.ext (by repeat' (first | with_reducible exact Ext.refl _ | with_reducible apply Ext.alloc | with_reducible apply Ext.drew)) (fun k hk => by simp [Value.ownBlock] at hk; omega); (first | have HB : Hid (w1.cell? ⟨wr.heap.size + 1, 0, none⟩ = some (.string T)) := hgrew1.by'.cell (by simp only [drew_cell]; first | exact cell_new _ _ _ | exact cell_new2 _ _ _ _ | exact cell_old2 _ _ _ _) (by simp [Value.ownBlock]) | have HB : Hid (w1.cell? ⟨wr.heap.size, 0, none⟩ = some (.string T)) := hgrew1.by'.cell (by simp only [drew_cell]; first | exact cell_new _ _ _ | exact cell_new2 _ _ _ _ | exact cell_old2 _ _ _ _) (by simp [Value.ownBlock]) | skip); have HW1 := Lib.hid hown1; have HZ1 := Lib.hid Y1.size; clear hown1 hgrew1)
        | (refine step_app1 (s := .tmp 39) (x := .tmp 44) rfl rfl ei_vecs rfl rfl (y := .string T) rfl (B := wr.heap.size) (n := n) (by first | exact HW1.out | exact own_ext HW1.out ((Ext.refl _).alloc _)) (by first | exact HB.out | exact cell_new _ _ _) hA3 hA4 (by have h := HZ1.out; first | exact h | (simp; omega)) ?_; intro v2 w2 hown2 hgrew2; have Y2 : Ext wr w2 := hgrew2.ext (by first | exact Y1 | exact Y1.alloc _) (fun k hk => (HW1.out.lt k hk).1); obtain ⟨so, sl, sc, rfl⟩ := own_any hown2; have HW2 := Lib.hid hown2; have Z2 := X.trans Y2; have HS2 := Lib.hid Z2.size; clear hown2 hgrew2)
        | (refine step_app1 (s := .tmp 36) (x := .tmp 46) rfl rfl ei_vv rfl rfl (y := .slice so sl sc) rfl (B := wo.heap.size) (n := i) (xs := xs) (by exact own_ext HO.out (Y2.alloc _)) (by exact cell_new _ _ _) hA5 hA6 (by have h := HS2.out; simp; omega) ?_; intro v3 w3 hown3 hgrew3; have Y3 : Ext wo w3 := hgrew3.extNew (Z2.alloc _) (own_ext HO.out (Y2.alloc _)) (Nat.le_refl _)))
      all_goals
        have hrw := own_row HW2.out (by omega)
        have hls : List.map Value.string (List.map ratT r) ++ [Value.string T] = (r.map ratT ++ [T]).map Value.string := by simp
        rw [hls] at hrw
        have hfr : Fr wr.heap.size (.slice so sl sc) ((r.map ratT ++ [T]).map Value.string) := own_fr HW2.out (fun _ => by omega)
        have HLT := Lib.hid (fun x (hx : _ = some x) => (HO.out.lt x hx).2)
        have HRX3 := (HRX.out.ext Y2).snoc ⟨hrw, hfr.away HLT.out⟩ (hfr.mono HXS.out)
        have HRX4 := (HRX3.ext ((Ext.refl w2).alloc _)).grew ⟨hgrew3.by', hgrew3.blk⟩
        have HRY : Hid (RowsX wo.heap.size v3.ownBlock w3 (xs ++ [.slice so sl sc]) (((textM A).take (i + 1)).map (·.map Value.string))) := by
          show RowsX _ _ _ _ _
          rw [HTA.out, List.map_append]
          exact HRX4
        have HOW := Lib.hid hown3
        have HE := Lib.hid Y3
        clear hrw hls hfr HLT HRX3 HRX4 hown3 hgrew3 hcq
        go_wp2_with fail
        go_roundw
        case rel => exact ⟨i + 1, _, by omega, by go_num, HOW, HRY, HE.out⟩
        case measure => simp [intOf] <;> omega
    · have hil : us.length = i := by omega
      have hmm : (textM A).take i = textM A := by rw [← hil, ← HAL.out]; unfold textM; rw [List.take_of_length_le (by rw [List.length_map]; omega)]
      have HR0 := HRX.out
      rw [hmm] at HR0
      have HR1 := own_row HO.out (by omega)
      have hR := rowsX_rows HR0 HR1
      have hxl : xs.length = us.length := by rw [hil]; have := HO.out.1; rw [Nat.mul_one] at this; exact this
      obtain ⟨po, pc, hov⟩ := own_isSlice HO.out
      rw [← hil] at hov
      obtain ⟨asl, hra, hal, hae⟩ := hR
      have hasl : asl.length = us.length := by rw [hal]; unfold textM; rw [List.length_map, HAL.out]
      obtain ⟨po2, pc2, hov2, hz1, hz2, hz3, hac⟩ := hra
      rw [hov] at hov2
      simp only [Value.slice.injEq] at hov2
      obtain ⟨rfl, hz4, rfl⟩ := hov2
      clear hz1 hz2 hz3 hz4
      have HAC := Lib.hid hac
      have HAE := Lib.hid hae
      have HASL := Lib.hid hasl
      subst hov
      obtain ⟨wa, rfl⟩ : ∃ wa : World, wa = wr := ⟨_, rfl⟩
      clear hmm HR0 HR1 HO HRX hxl hal hac hae hasl hil hi
      have hge : (us.length : Int) ≤ (i : Int) := by omega
      clear hlt
      generalize us.length = N at *
      have hAN : A.length = N := HAL.out
      by_cases hn0 : n = 0
      · have hb : ((n : Int) == 0) = true := by simp [hn0]
        have HN0 := Lib.hid hn0
        clear hn0 hAN
        go_wp2_with (first | (at_make; go_must (refine wp_make1 rfl rfl ei_vecs rfl rfl rfl n rfl rfl (by omega) (by omega) ?_); intro w2 hO2 hX2))
        have HO2 := Lib.hid hO2
        clear hO2
        go_loopw [55] (fun iv wr => ∃ (i : Nat), i ≤ N ∧ iv = .int .i64 i ∧ Hid (∀ r ∈ A.take i, r.getD 0 0 = 0) ∧ Ext w2 wr) (fun iv _ => N - (intOf iv).toNat)
        case atStart => exact ⟨0, Nat.zero_le _, rfl, fun r hr => by simp at hr, Ext.refl _⟩
        case round =>
          obtain ⟨i, hi, rfl, HZ, Y⟩ := hrel
          by_cases hlt : i < N
          · obtain ⟨u, d1, d2, d3⟩ := get_lt (xs := asl) (k := i) (by rw [HASL.out]; exact hlt)
            obtain ⟨r, q1, q2, q3⟩ := get_lt (xs := A) (k := i) (by rw [HAL.out]; exact hlt)
            obtain ⟨b, off, rfl, hc0⟩ := HAC.out.ext (hX2.trans Y) i u d1.out
            have hcell : wr.cell? ⟨b, off + i, none⟩ = some u := hc0
            have hrow := (HAE.out i u (r.map ratT) d1.out (by unfold textM; rw [List.getElem?_map, q1.out]; rfl)).ext (hX2.trans Y)
            have hrl : r.length = 1 := by rw [HAW.out r (List.mem_of_getElem? q1.out), HN0.out]
            obtain ⟨ro, rc, rfl, _, hrc⟩ := hrow.open
            obtain ⟨q, p1, p2, p3⟩ := get_lt (xs := r) (k := 0) (by omega)
            have hpq : Hid ((r.map ratT)[0]? = some (ratT q)) := by show _ = _; rw [List.getElem?_map, p1.out]; rfl
            obtain ⟨rb, roff, rfl, hcq⟩ := hrc.at hpq
            rw [Nat.add_zero] at hcq
            have hgq : r.getD 0 0 = q := by rw [List.getD_eq_getElem?_getD, p1.out]; rfl
            have hrl2 : (r.map ratT).length = 1 := by rw [List.length_map]; exact hrl
            rw [hrl2] at hcell
            have hii : (i : Int) < (N : Int) := by omega
            by_cases hq0 : q = 0
            · have ht := ratT_0 hq0
              have HZ2 : Hid (∀ r ∈ A.take (i + 1), r.getD 0 0 = 0) := by
                show ∀ r ∈ A.take (i + 1), r.getD 0 0 = 0
                intro r2 h2
                rw [q3.out] at h2
                rcases List.mem_append.1 h2 with h2 | h2
                · exact HZ.out r2 h2
                · rw [List.mem_singleton.1 h2, hgq]; exact hq0
              generalize ratT q = T at *
              clear hc0 d1 d2 d3 q1 q2 q3 hrow hrl hrc p1 p2 p3 hpq hgq hrl2 hq0 hlt HZ
              go_wp2_with fail
              go_roundw
              case rel => exact ⟨i + 1, by omega, by go_num, HZ2, Y⟩
              case measure => simp [intOf] <;> omega
            · have ht := ratT_nb hq0
              have ht2 : ((ratT q).toList != [48]) = true := by rw [bne, ht]; rfl
              have hx : o = none := by
                rw [← HO9.out, HN0.out, sysL, if_pos]
                rw [List.any_eq_true]
                exact ⟨r, List.mem_of_getElem? q1.out, decide_eq_true (by rw [hgq]; exact hq0)⟩
              have HX0 := Lib.hid hx
              have hXX := (X.trans hX2).trans Y
              generalize ratT q = T at *
              clear hc0 d1 d2 d3 q1 q2 q3 hrow hrl hrc p1 p2 p3 hpq hgq hrl2 hq0 hlt HZ hx
              go_wp2_with fail
              go_ret2
              exact ⟨hXX, .inl ⟨HX0.out, _, rfl⟩⟩
          · have hx : o = some [] := by
              rw [← HO9.out, HN0.out, sysL, if_neg]
              rw [List.any_eq_true]
              rintro ⟨r, h1, h2⟩
              exact absurd (HZ.out r (by rw [List.take_of_length_le (by rw [HAL.out]; omega)]; exact h1)) (of_decide_eq_true h2)
            have HX0 := Lib.hid hx
            have hge2 : (N : Int) ≤ (i : Int) := by omega
            have hXX := (X.trans hX2).trans Y
            have HST : Hid (Strs wr (.slice (some ⟨wa.heap.size, 0, none⟩) n n) []) := by
              have h1 := own_row (own_ext HO2.out Y) (by omega)
              have h2 := HN0.out
              subst h2
              exact h1
            clear hlt hi HZ hx
            go_wp2_with fail
            go_ret2
            exact ⟨hXX, .inr ⟨[], _, HX0.out, rfl, HST.out, .inl rfl⟩⟩
      · obtain ⟨n', rfl⟩ : ∃ n', n = n' + 1 := ⟨n - 1, by omega⟩
        have HSY := HIH.out n' rfl
        have hXB : k + n' * (k + XB n' (4 * k + 1) + 1) + k ≤ 390000 := HBB.out
        have HXB := Lib.hid hXB
        have HGQ : Hid (∀ (i : Nat) (r : List Rat), A[i]? = some r → ∀ j, RB k (r.getD j 0)) := fun i r h j => getD_RB (HAQ.out r (List.mem_of_getElem? h)) hk1 j
        clear hn0 hAN HIH hXB
        go_wp2_with (first | (at_make; go_must (refine wp_make1 rfl rfl ei_vecs rfl rfl rfl (n' + 1) rfl rfl (by omega) (by omega) ?_); intro w2 hO2 hX2))
        have HO2 := Lib.hid hO2
        clear hO2
        go_loopw [14, 67] (fun av iv wr => ∃ (i : Nat) (o3 : Option Nat), i ≤ N ∧ iv = .int .i64 i ∧ av = .int .i64 (atI o3) ∧ Hid (atS n' (A.take i) = o3) ∧ Ext w2 wr) (fun _ iv _ => N - (intOf iv).toNat)
        case atStart => exact ⟨0, none, Nat.zero_le _, rfl, rfl, rfl, Ext.refl _⟩
        case round =>
          obtain ⟨i, o3, hi, rfl, rfl, HAT, Y⟩ := hrel
          by_cases hlt : i < N
          · obtain ⟨u, d1, d2, d3⟩ := get_lt (xs := asl) (k := i) (by rw [HASL.out]; exact hlt)
            obtain ⟨r, q1, q2, q3⟩ := get_lt (xs := A) (k := i) (by rw [HAL.out]; exact hlt)
            obtain ⟨b, off, rfl, hc0⟩ := HAC.out.ext (hX2.trans Y) i u d1.out
            have hcell : wr.cell? ⟨b, off + i, none⟩ = some u := hc0
            have hrow := (HAE.out i u (r.map ratT) d1.out (by unfold textM; rw [List.getElem?_map, q1.out]; rfl)).ext (hX2.trans Y)
            have hrl : r.length = n' + 1 + 1 := HAW.out r (List.mem_of_getElem? q1.out)
            obtain ⟨ro, rc, rfl, _, hrc⟩ := hrow.open
            obtain ⟨q, p1, p2, p3⟩ := get_lt (xs := r) (k := n') (by omega)
            have hpq : Hid ((r.map ratT)[n']? = some (ratT q)) := by show _ = _; rw [List.getElem?_map, p1.out]; rfl
            obtain ⟨rb, roff, rfl, hcq⟩ := hrc.at hpq
            have hgq : r.getD n' 0 = q := by rw [List.getD_eq_getElem?_getD, p1.out]; rfl
            have hrl2 : (r.map ratT).length = n' + 1 + 1 := by rw [List.length_map]; exact hrl
            rw [hrl2] at hcell
            have hii : (i : Int) < (N : Int) := by omega
            have hn1 : (n' : Int) < (n' : Int) + 1 + 1 := by omega
            have hsn := atS_snoc n' (A.take i) r
            rw [HAT.out, hgq, ← q3.out] at hsn
            have htl : (A.take i).length = i := by rw [List.length_take, HAL.out]; omega
            rw [htl] at hsn
            by_cases hq0 : q = 0
            · have ht := ratT_0 hq0
              rw [if_neg (by simpa using hq0)] at hsn
              have hsn2 : atS n' (A.take (i + 1)) = o3 := by rw [hsn]; cases o3 <;> rfl
              have HSN := Lib.hid hsn2
              generalize ratT q = T at *
              clear hc0 d1 d2 d3 q1 q2 q3 hrow hrl hrc p1 p2 p3 hpq hgq hrl2 hq0 hlt HAT hsn hsn2 htl
              go_wp2_with fail
              go_roundw
              case rel => exact ⟨i + 1, o3, by omega, by go_num, rfl, HSN, Y⟩
              case measure => simp [intOf] <;> omega
            · have ht := ratT_nb hq0
              have ht2 : ((ratT q).toList != [48]) = true := by rw [bne, ht]; rfl
              rw [if_pos hq0] at hsn
              cases o3 with
              | none =>
                have HSN := Lib.hid hsn
                have hneg : atI none < 0 := by decide
                generalize atI none = av at *
                generalize ratT q = T at *
                clear hc0 d1 d2 d3 q1 q2 q3 hrow hrl hrc p1 p2 p3 hpq hgq hrl2 hq0 hlt HAT hsn htl
                go_wp2_with fail
                go_roundw
                case rel => exact ⟨i + 1, some i, by omega, by go_num, rfl, HSN, Y⟩
                case measure => simp [intOf] <;> omega
              | some j =>
                have HSN := Lib.hid hsn
                have hneg : ¬ (j : Int) < 0 := by omega
                generalize ratT q = T at *
                clear hc0 d1 d2 d3 q1 q2 q3 hrow hrl hrc p1 p2 p3 hpq hgq hrl2 hq0 hlt HAT hsn htl
                have hav : atI (some j) = (j : Int) := rfl
                rw [hav]
                go_wp2_with fail
                go_roundw
                case rel => exact ⟨i + 1, some j, by omega, by go_num, rfl, HSN, Y⟩
                case measure => simp [intOf] <;> omega
          · have hat : atS n' A = o3 := by rw [← HAT.out, List.take_of_length_le (by rw [HAL.out]; omega)]
            have hso := HO9.out
            rw [sysL, hat] at hso
            have hge2 : (N : Int) ≤ (i : Int) := by omega
            have hXX := (X.trans hX2).trans Y
            obtain ⟨w3, rfl⟩ : ∃ w3 : World, w3 = wr := ⟨_, rfl⟩
            cases o3 with
            | none =>
              have HX0 : Hid (o = none) := hso.symm
              have hneg : atI none < 0 := by decide
              generalize atI none = av at *
              clear hat hso hlt hi HAT
              go_wp2_with fail
              go_ret2
              exact ⟨hXX, .inl ⟨HX0.out, _, rfl⟩⟩
            | some i0 =>
              have hav : atI (some i0) = (i0 : Int) := rfl
              rw [hav]
              obtain ⟨a, ha, hga, haz⟩ := atS_some hat
              dsimp only at hso
              rw [hga] at hso
              have hi0 : i0 < N := by rw [← HAL.out]; exact (List.getElem?_eq_some_iff.1 ha).1
              have hi0i : (i0 : Int) < (N : Int) := by omega
              have hneg : ¬ (i0 : Int) < 0 := by omega
              obtain ⟨u, d1, d2, d3⟩ := get_lt (xs := asl) (k := i0) (by rw [HASL.out]; exact hi0)
              obtain ⟨Ab, Aoff, rfl, hc0⟩ := HAC.out.ext (hX2.trans Y) i0 u d1.out
              have hcA : w3.cell? ⟨Ab, Aoff + i0, none⟩ = some u := hc0
              have hlt1 := World.block_lt_of_cell? wa _ (cells_at HAC.out d1)
              have HLA : Hid (Ab < wa.heap.size) := hlt1
              have hrow0 := HAE.out i0 u (a.map ratT) d1.out (by unfold textM; rw [List.getElem?_map, ha]; rfl)
              have hrow := (HAE.out i0 u (a.map ratT) d1.out (by unfold textM; rw [List.getElem?_map, ha]; rfl)).ext (hX2.trans Y)
              have hal : a.length = n' + 1 + 1 := HAW.out a (List.mem_of_getElem? ha)
              obtain ⟨pb0, pc0, rfl, _, hpc⟩ := hrow.open
              have hal2 : (a.map ratT).length = n' + 1 + 1 := by rw [List.length_map]; exact hal
              rw [hal2] at hcA
              have HGA := Lib.hid (HGQ.out i0 a ha)
              have hpd := fun j (hj : j < n' + 1 + 1) => (show Hid ((a.map ratT)[j]? = some (ratT (a.getD j 0))) from by
                show _ = _
                rw [List.getElem?_map, List.getD_eq_getElem?_getD, List.getElem?_eq_getElem (by omega)]; rfl)
              obtain ⟨pb, poff, rfl, _⟩ := hpc.at (hpd n' (by omega))
              have HLP : Hid (pb < wa.heap.size) := by
                obtain ⟨po9, pc9, e9, _, hp9⟩ := hrow0.open
                simp only [Value.slice.injEq] at e9
                rw [← e9.1] at hp9
                exact World.block_lt_of_cell? wa _ (hp9.at' (hpd n' (by omega)))
              have HPC : Hid (∀ j, j < n' + 1 + 1 → w3.cell? ⟨pb, poff + j, none⟩ = some (.string (ratT (a.getD j 0)))) := fun j hj => hpc.at' (hpd j hj)
              have HCA := Lib.hid hcA
              have HAZ := Lib.hid haz
              have HHA := Lib.hid ha
              have HSO := Lib.hid hso
              have HXX := Lib.hid hXX
              have HX3 := Lib.hid (hX2.trans Y)
              have HXZ := Lib.hid X.size
              have HY3 := Lib.hid Y
              clear hlt1 hrow0 hat hso hlt hi HAT hav hga hc0 d1 d2 d3 hrow hal hal2 hpc hpd hcA haz ha hXX Y X hX2 HGQ HBB
              have HXR := HX3
              go_wp2_with fail
              go_loopw [17, 18, 88] (fun lv rv iv wr => ∃ (i : Nat) (xs : List Value), i ≤ N ∧ iv = .int .i64 i ∧ Hid (LR w3.heap.size 25 31 wr lv rv (lessB n' i0 a A i).length (lessB n' i0 a A i).length xs ((lessB n' i0 a A i).map fun r : List Rat => (r.take n').map fun q => Value.string (ratT q)) ((lessB n' i0 a A i).map fun r : List Rat => Value.string (ratT (r.getD n' 0))) (.slice none 0 0) []) ∧ Ext w3 wr) (fun _ _ iv _ => N - (intOf iv).toNat)
              case atStart =>
                have e0 : lessB n' i0 a A 0 = [] := by unfold lessB; simp
                exact ⟨0, [], Nat.zero_le _, rfl, by show LR _ _ _ _ _ _ _ _ _ _ _ _ _; rw [e0]; exact LR.start _ _ _ _, Ext.refl _⟩
              case round =>
                obtain ⟨i, xs, hi, rfl, HLR, Y⟩ := hrel
                obtain ⟨wq, rfl⟩ : ∃ wq : World, wq = wr := ⟨_, rfl⟩
                by_cases hlt : i < N
                · have hiN : (i : Int) < (N : Int) := by omega
                  go_upto_block 7 with fail
                  go_cut [17, 18, 88] from 88 to 154 (fun lv rv iv wr => iv = .int .i64 i ∧ (∃ xs : List Value, Hid (LR w3.heap.size 25 31 wr lv rv (lessB n' i0 a A (i + 1)).length (lessB n' i0 a A (i + 1)).length xs ((lessB n' i0 a A (i + 1)).map fun r : List Rat => (r.take n').map fun q => Value.string (ratT q)) ((lessB n' i0 a A (i + 1)).map fun r : List Rat => Value.string (ratT (r.getD n' 0))) (.slice none 0 0) [])) ∧ Ext w3 wr)
                  case first =>
                    obtain ⟨u, d1, d2, d3⟩ := get_lt (xs := asl) (k := i) (by rw [HASL.out]; exact hlt)
                    obtain ⟨r, q1, q2, q3⟩ := get_lt (xs := A) (k := i) (by rw [HAL.out]; exact hlt)
                    have hc0 := cells_at (HAC.out.ext HX3.out) d1
                    have hcell : wq.cell? ⟨Ab, Aoff + i, none⟩ = some u := Y.cell hc0
                    have hrow := (HAE.out i u (r.map ratT) d1.out (by unfold textM; rw [List.getElem?_map, q1.out]; rfl)).ext HX3.out
                    have hrl : r.length = n' + 1 + 1 := HAW.out r (List.mem_of_getElem? q1.out)
                    obtain ⟨rb0, rc, rfl, _, hrc⟩ := hrow.open
                    have hrl2 : (r.map ratT).length = n' + 1 + 1 := by rw [List.length_map]; exact hrl
                    rw [hrl2] at hcell hc0
                    have hpd := fun j (hj : j < n' + 1 + 1) => (show Hid ((r.map ratT)[j]? = some (ratT (r.getD j 0))) from by
                      show _ = _
                      rw [List.getElem?_map, List.getD_eq_getElem?_getD, List.getElem?_eq_getElem (by omega)]; rfl)
                    obtain ⟨rb, roff, rfl, _⟩ := hrc.at (hpd n' (by omega))
                    have HRC : Hid (∀ j, j < n' + 1 + 1 → w3.cell? ⟨rb, roff + j, none⟩ = some (.string (ratT (r.getD j 0)))) := fun j hj => hrc.at' (hpd j hj)
                    have hii : (i : Int) < (N : Int) := by omega
                    have hn1 : (n' : Int) < (n' : Int) + 1 + 1 := by omega
                    have HGR : Hid (∀ j, RB k (r.getD j 0)) := fun j => getD_RB (HAQ.out r (List.mem_of_getElem? q1.out)) hk1 j
                    by_cases hat : i = i0
                    · have hb : ((i : Int) == (i0 : Int)) = true := by simp [hat]
                      have hLB := lessB_at (n := n') (i0 := i0) (a := a) q1.out hat
                      have HLS := HLR.out
                      rw [← hLB] at HLS
                      have HLT := Lib.hid HLS
                      clear hc0 d1 d2 d3 q1 q2 q3 hrow hrl hrc hpd hrl2 hlt hat hLB HLS HLR HRC HGR
                      go_wp2_with fail
                      go_meet
                      exact ⟨rfl, ⟨xs, HLT⟩, Y⟩
                    · have hb : ((i : Int) == (i0 : Int)) = false := by rw [beq_eq_false_iff_ne]; omega
                      have hLB := lessB_ne (n := n') (i0 := i0) (a := a) q1.out hat
                      have HLB := Lib.hid hLB
                      have HBL := Lib.hid (lessB_len n' i0 a A i)
                      obtain ⟨Bl, hBl⟩ : ∃ Bl, lessB n' i0 a A i = Bl := ⟨_, rfl⟩
                      rw [hBl] at HLR HLB HBL
                      have HHB := Lib.hid hBl
                      have hq1 : wq.cell? ⟨rb, roff + n', none⟩ = some (.string (ratT (r.getD n' 0))) := Y.cell (HRC.out n' (by omega))
                      have hq2 := Y.cell HCA.out
                      have hq3 : wq.cell? ⟨pb, poff + n', none⟩ = some (.string (ratT (a.getD n' 0))) := Y.cell (HPC.out n' (by omega))
                      have HDV := Lib.hid (fun W => rDiv_any (k := k) (m := k) (by omega) (HGR.out n') (HGA.out n') (fun e => HAZ.out (Rat.num_eq_zero.1 e)) W)
                      have HMU := Lib.hid (fun j W => rMul_any (k := k + k) (m := k) (by omega) (RB_div (fun e => HAZ.out (Rat.num_eq_zero.1 e)) (HGR.out n') (HGA.out n')) (HGA.out j) W)
                      have HSU := Lib.hid (fun j W => rSub_any (k := k) (m := k + k + k) (by omega) (HGR.out j) (RB_mul (RB_div (fun e => HAZ.out (Rat.num_eq_zero.1 e)) (HGR.out n') (HGA.out n')) (HGA.out j)) W)
                      have HEE : Hid (∀ j, r.getD j 0 - r.getD n' 0 / a.getD n' 0 * a.getD j 0 = lessE n' a r j) := fun j => rfl
                      generalize r.getD n' 0 / a.getD n' 0 = by' at *
                      generalize ratT by' = TB at *
                      obtain ⟨TR, hTR⟩ : ∃ TR, ratT (r.getD n' 0) = TR := ⟨_, rfl⟩
                      obtain ⟨TA, hTA⟩ : ∃ TA, ratT (a.getD n' 0) = TA := ⟨_, rfl⟩
                      have hw1 : IntKind.i64.wrap ((n' : Int) + 1 - 1) = (n' : Int) := by rw [show (n' : Int) + 1 - 1 = (n' : Int) from by omega]; exact IntWalk.i64_in _ (by omega)
                      have hw2 : IntKind.i64.wrap (n' : Int) = (n' : Int) := IntWalk.i64_in _ (by omega)
                      rw [hTR] at hq1 HDV
                      rw [hTA] at hq3 HDV
                      clear hc0 d1 d2 d3 q1 q2 q3 hrow hrl hrc hpd hrl2 hlt hat hLB hBl hTR hTA
                      go_wp2_with fail
                      go_region_held3 (fun W9 => W9.cell? ⟨rb, roff + n', none⟩ = some (.string TR) ∧ W9.cell? ⟨Ab, Aoff + i0, none⟩ = some (.slice (some ⟨pb, poff, none⟩) (n' + 1 + 1) pc0) ∧ W9.cell? ⟨pb, poff + n', none⟩ = some (.string TA))
                        (first | exact ⟨XD.cell hq1, XD.cell hq2, XD.cell hq3⟩ | exact ⟨hq1, hq2, hq3⟩ | go_keep)
                        (first | (go_at_call 44; refine (HDV.out _).mono ?_; rintro e w5 ⟨rfl, X5⟩; have XD : Ext wq w5 := Ext.trans (by repeat' (first | with_reducible exact Ext.refl _ | with_reducible apply Ext.alloc | with_reducible apply Ext.drew)) X5))
                      all_goals
                        clear hq1 hq2 hq3 HDV hcell
                        have Y5 := Lib.hid (Y.trans XD)
                        have HYQ := Lib.hid XD
                        have HQ5 := Lib.hid XD.size
                        obtain ⟨HL0, hHL0⟩ : ∃ l : List Value, l = (List.range n').map fun j => Value.string (ratT (lessE n' a r j)) := ⟨_, rfl⟩
                        have HLD := Lib.hid hHL0
                        have HLL : Hid (HL0.length = n') := by show _ = _; rw [hHL0]; simp
                        have HLG : Hid (∀ j, j < n' → HL0[j]? = some (.string (ratT (lessE n' a r j)))) := fun j hj => by rw [hHL0, List.getElem?_map, List.getElem?_range hj]; rfl
                        clear hHL0 XD
                        go_wp2_with fail
                        go_loopw [22, 112] (fun vv kv wr => ∃ (j : Nat), j ≤ n' ∧ kv = .int .i64 j ∧ Hid (wr.ownsRow w5.heap.size 31 1 vv j (HL0.take j)) ∧ Ext w5 wr) (fun _ kv _ => n' - (intOf kv).toNat)
                        case atStart => exact ⟨0, Nat.zero_le _, rfl, World.ownsRow_nil _ _ _ _, Ext.refl _⟩
                        case round =>
                          obtain ⟨j, hj, rfl, HOV, ZV⟩ := hrel
                          by_cases hjlt : j < n'
                          · have hv1 : w5.cell? ⟨rb, roff + j, none⟩ = some (.string (ratT (r.getD j 0))) := Y5.out.cell (HRC.out j (by omega))
                            have hv2 := Y5.out.cell HCA.out
                            have hv3 : w5.cell? ⟨pb, poff + j, none⟩ = some (.string (ratT (a.getD j 0))) := Y5.out.cell (HPC.out j (by omega))
                            have hm1 := HMU.out j
                            have hm2 := HSU.out j
                            rw [HEE.out j] at hm2
                            have hlg := HLG.out j hjlt
                            have HTK : Hid (HL0.take (j + 1) = HL0.take j ++ [.string (ratT (lessE n' a r j))]) := takeS hlg
                            obtain ⟨T1, hT1⟩ : ∃ T1, ratT (r.getD j 0) = T1 := ⟨_, rfl⟩
                            obtain ⟨T2, hT2⟩ : ∃ T2, ratT (a.getD j 0) = T2 := ⟨_, rfl⟩
                            obtain ⟨T3, hT3⟩ : ∃ T3, ratT (by' * a.getD j 0) = T3 := ⟨_, rfl⟩
                            obtain ⟨T4, hT4⟩ : ∃ T4, ratT (lessE n' a r j) = T4 := ⟨_, rfl⟩
                            rw [hT1, hT3, hT4] at hm2
                            rw [hT2, hT3] at hm1
                            rw [hT1] at hv1
                            rw [hT2] at hv3
                            have hs1 := ZV.cell hv1
                            have hs2 := ZV.cell hv2
                            have hs3 := ZV.cell hv3
                            have HV1 := Lib.hid hv1
                            have HV2 := Lib.hid hv2
                            have HV3 := Lib.hid hv3
                            rw [hT4] at HTK
                            have HM1 := Lib.hid hm1
                            have HM2 := Lib.hid hm2
                            have hjj : (j : Int) < (n' : Int) := by omega
                            have hj2 : (j : Int) < (n' : Int) + 1 + 1 := by omega
                            have hA1 : j + 1 ≤ 17592186044416 := by omega
                            have hA2 : (j + 1) * 16 ≤ 140737488355328 := by omega
                            have HZS := Lib.hid ZV.size
                            have HZV := Lib.hid ZV
                            clear hm1 hm2 hlg hT1 hT2 hT3 hT4 hjlt hv1 hv2 hv3
                            go_wp2_with fail
                            go_region_held3 (fun W9 => W9.cell? ⟨rb, roff + j, none⟩ = some (.string T1) ∧ W9.cell? ⟨Ab, Aoff + i0, none⟩ = some (.slice (some ⟨pb, poff, none⟩) (n' + 1 + 1) pc0) ∧ W9.cell? ⟨pb, poff + j, none⟩ = some (.string T2))
                              (first | exact ⟨XG.cell HV1.out, XG.cell HV2.out, XG.cell HV3.out⟩ | exact ⟨XF.cell hs1, XF.cell hs2, XF.cell hs3⟩ | exact ⟨XE.cell hs1, XE.cell hs2, XE.cell hs3⟩ | exact ⟨hs1, hs2, hs3⟩ | go_keep)
                              (first
                                | (go_at_call 40; refine (HM1.out _).mono ?_; rintro e w6 ⟨rfl, X6⟩; have XE : Ext wr w6 := Ext.trans (by repeat' (first | with_reducible exact Ext.refl _ | with_reducible apply Ext.alloc | with_reducible apply Ext.drew)) X6)
                                | (go_at_call 45; refine (HM2.out _).mono ?_; rintro e w7 ⟨rfl, X7⟩; have XF : Ext wr w7 := XE.trans (Ext.trans (by repeat' (first | with_reducible exact Ext.refl _ | with_reducible apply Ext.alloc | with_reducible apply Ext.drew)) X7))
                                | (refine step_app (s := .tmp 115) (x := .tmp 130) rfl rfl ei_vecs rfl (own_ext HOV.out (XF.alloc _)) rfl (src_new w7 _ _ rfl) hA1 hA2 (Nat.le_trans (HZV.out.trans XF).size (by simp)) ?_; intro v8 w8 hown8 hgrew8; have XG : Ext w5 w8 := hgrew8.extNew ((HZV.out.trans XF).alloc _) (own_ext HOV.out (XF.alloc _)) (Nat.le_refl _)))
                            all_goals
                              have HE8 := Lib.hid (hgrew8.extNew ((HZV.out.trans XF).alloc _) (own_ext HOV.out (XF.alloc _)) (Nat.le_refl _))
                              have HO8 : Hid (w8.ownsRow w5.heap.size 31 1 v8 (j + 1) (HL0.take (j + 1))) := by show World.ownsRow _ _ _ _ _ _ _; rw [HTK.out]; exact hown8
                              clear hs1 hs2 hs3 hown8 hgrew8 XE XF
                              go_wp2_with fail
                              go_roundw
                              case rel => exact ⟨j + 1, by omega, by go_num, HO8, HE8.out⟩
                              case measure => simp [intOf] <;> omega
                          · have hjn : n' = j := by omega
                            subst hjn
                            have hown := HOV.out
                            rw [List.take_of_length_le (by rw [HLL.out]; exact Nat.le_refl _)] at hown
                            have hr9 := own_row hown (by omega)
                            have hf9 : Fr w5.heap.size _ HL0 := own_fr hown (fun hne => by have := List.length_pos_iff.2 hne; rw [HLL.out] at this; exact this)
                            have hz5 := (Y5.out).size
                            have hzq : wq.heap.size ≤ w5.heap.size := HQ5.out
                            have HLR2 := Lib.hid (LR.wait (HLR.out.ext (HYQ.out.trans ZV)) hr9 hf9 hz5 (fun k hk => by have := (HLR.out.lo.lt k hk).2; omega) (fun k hk => by have := (HLR.out.ro.lt k hk).2; omega))
                            have HLR := HLR2
                            have Z := Lib.hid (Y5.out.trans ZV)
                            have hb1 := HRC.out (n' + 1) (by omega)
                            have hb2 := HCA.out
                            have hb3 := HPC.out (n' + 1) (by omega)
                            have hm1 := HMU.out (n' + 1)
                            have hm2 := HSU.out (n' + 1)
                            rw [HEE.out (n' + 1)] at hm2
                            obtain ⟨U1, hU1⟩ : ∃ U1, ratT (r.getD (n' + 1) 0) = U1 := ⟨_, rfl⟩
                            obtain ⟨U2, hU2⟩ : ∃ U2, ratT (a.getD (n' + 1) 0) = U2 := ⟨_, rfl⟩
                            obtain ⟨U3, hU3⟩ : ∃ U3, ratT (by' * a.getD (n' + 1) 0) = U3 := ⟨_, rfl⟩
                            obtain ⟨U4, hU4⟩ : ∃ U4, ratT (lessE n' a r (n' + 1)) = U4 := ⟨_, rfl⟩
                            rw [hU1, hU3, hU4] at hm2
                            rw [hU2, hU3] at hm1
                            rw [hU1] at hb1
                            rw [hU2] at hb3
                            have HM1 := Lib.hid hm1
                            have HM2 := Lib.hid hm2
                            have HU4 := Lib.hid hU4
                            have hn2 : (n' : Int) + 1 < (n' : Int) + 1 + 1 := by omega
                            have hn20 : (0 : Int) ≤ (n' : Int) + 1 := by omega
                            have hbl := HBL.out
                            obtain ⟨mm, hmm⟩ : ∃ mm, Bl.length = mm := ⟨_, rfl⟩
                            rw [hmm] at HLR hbl
                            have HMM := Lib.hid hmm
                            have hL1 : mm + 1 ≤ 17592186044416 := by omega
                            have hL2 : (mm + 1) * 24 ≤ 140737488355328 := by omega
                            have hL3 : (mm + 1) * 16 ≤ 140737488355328 := by omega
                            obtain ⟨vpo, vpc, rfl⟩ := own_isSlice hown
                            clear hm1 hm2 hU1 hU2 hU3 hU4 hmm hbl hown hr9 hf9 hz5 hzq HLR2 HOV ZV Y hj hjlt HMU HSU
                            have HLX : Hid (∀ W v8 v9, LR w3.heap.size 25 31 W v8 v9 (mm + 1) (mm + 1) (xs ++ [(.slice vpo n' vpc)]) ((Bl.map fun r : List Rat => (r.take n').map fun q => Value.string (ratT q)) ++ [HL0]) ((Bl.map fun r : List Rat => Value.string (ratT (r.getD n' 0))) ++ [.string U4]) (.slice vpo n' vpc) HL0 → LR w3.heap.size 25 31 W v8 v9 (lessB n' i0 a A (i + 1)).length (lessB n' i0 a A (i + 1)).length (xs ++ [(.slice vpo n' vpc)]) ((lessB n' i0 a A (i + 1)).map fun r : List Rat => (r.take n').map fun q => Value.string (ratT q)) ((lessB n' i0 a A (i + 1)).map fun r : List Rat => Value.string (ratT (r.getD n' 0))) (.slice none 0 0) []) := fun W v8 v9 h => by
                              have e1 : ((lessR n' a r).take n').map (fun q => Value.string (ratT q)) = HL0 := by rw [lessR_take, List.map_map, HLD.out]; rfl
                              have e2 : (lessR n' a r).getD n' 0 = lessE n' a r (n' + 1) := lessR_end n' a r
                              rw [HLB.out, List.length_append, List.map_append, List.map_append, List.length_singleton, List.map_singleton, List.map_singleton, e1, e2, HU4.out, HMM.out]
                              exact h.idle
                            go_wp2_with fail
                            go_region_held3 (fun W9 => W9.cell? ⟨rb, roff + (n' + 1), none⟩ = some (.string U1) ∧ W9.cell? ⟨Ab, Aoff + i0, none⟩ = some (.slice (some ⟨pb, poff, none⟩) (n' + 1 + 1) pc0) ∧ W9.cell? ⟨pb, poff + (n' + 1), none⟩ = some (.string U2))
                              (exact ⟨Ext.cell (Z.out.trans (by repeat' (first | with_reducible exact Ext.refl _ | with_reducible apply Ext.alloc | with_reducible apply Ext.drew))) hb1, Ext.cell (Z.out.trans (by repeat' (first | with_reducible exact Ext.refl _ | with_reducible apply Ext.alloc | with_reducible apply Ext.drew))) hb2, Ext.cell (Z.out.trans (by repeat' (first | with_reducible exact Ext.refl _ | with_reducible apply Ext.alloc | with_reducible apply Ext.drew))) hb3⟩)
                              (first
                                | (go_at_call 40; refine (HM1.out _).mono ?_; rintro e w6 ⟨rfl, X6⟩; (first | have HP := Lib.hid (show Box w6 _ _ _ (.slice vpo n' vpc) from by with_reducible exact (LR.bxA HLR.out X6)) | have HP := Lib.hid (show Box w6 _ _ _ (.slice vpo n' vpc) from by with_reducible exact (LR.bxAd HLR.out X6)) | have HP := Lib.hid (show Box w6 _ _ _ (.slice vpo n' vpc) from by with_reducible exact (LR.bxB HLR.out X6)) | have HP := Lib.hid (show Box w6 _ _ _ (.slice vpo n' vpc) from by with_reducible exact (LR.bxBd HLR.out X6)) | have HP := Lib.hid (show Box w6 _ _ _ (.slice vpo n' vpc) from by with_reducible exact (LR.bxC HLR.out X6)) | have HP := Lib.hid (show Box w6 _ _ _ (.slice vpo n' vpc) from by with_reducible exact (LR.bxCd HLR.out X6)) | have HP := Lib.hid (show Box w6 _ _ _ (.slice vpo n' vpc) from Box.ext HP.out (Ext.trans (by repeat' (first | with_reducible exact Ext.refl _ | with_reducible apply Ext.alloc | with_reducible apply Ext.drew)) X6)) | skip); have HLR := Lib.hid (HLR.out.ext (Ext.trans (by repeat' (first | with_reducible exact Ext.refl _ | with_reducible apply Ext.alloc | with_reducible apply Ext.drew)) X6)); have Z := Lib.hid (Z.out.trans (Ext.trans (by repeat' (first | with_reducible exact Ext.refl _ | with_reducible apply Ext.alloc | with_reducible apply Ext.drew)) X6)))
                                | (go_at_call 45; refine (HM2.out _).mono ?_; rintro e w7 ⟨rfl, X7⟩; (first | have HP := Lib.hid (show Box w7 _ _ _ (.slice vpo n' vpc) from by with_reducible exact (LR.bxA HLR.out X7)) | have HP := Lib.hid (show Box w7 _ _ _ (.slice vpo n' vpc) from by with_reducible exact (LR.bxAd HLR.out X7)) | have HP := Lib.hid (show Box w7 _ _ _ (.slice vpo n' vpc) from by with_reducible exact (LR.bxB HLR.out X7)) | have HP := Lib.hid (show Box w7 _ _ _ (.slice vpo n' vpc) from by with_reducible exact (LR.bxBd HLR.out X7)) | have HP := Lib.hid (show Box w7 _ _ _ (.slice vpo n' vpc) from by with_reducible exact (LR.bxC HLR.out X7)) | have HP := Lib.hid (show Box w7 _ _ _ (.slice vpo n' vpc) from by with_reducible exact (LR.bxCd HLR.out X7)) | have HP := Lib.hid (show Box w7 _ _ _ (.slice vpo n' vpc) from Box.ext HP.out (Ext.trans (by repeat' (first | with_reducible exact Ext.refl _ | with_reducible apply Ext.alloc | with_reducible apply Ext.drew)) X7)) | skip); have HLR := Lib.hid (HLR.out.ext (Ext.trans (by repeat' (first | with_reducible exact Ext.refl _ | with_reducible apply Ext.alloc | with_reducible apply Ext.drew)) X7)); have Z := Lib.hid (Z.out.trans (Ext.trans (by repeat' (first | with_reducible exact Ext.refl _ | with_reducible apply Ext.alloc | with_reducible apply Ext.drew)) X7)))
                                | (refine step_app1 (s := .tmp 133) (x := .tmp 135) rfl rfl ei_mat rfl rfl (y := (.slice vpo n' vpc)) rfl (B := w3.heap.size) (n := mm) (by exact (LR.ext HLR.out (by repeat' (first | with_reducible exact Ext.refl _ | with_reducible apply Ext.alloc | with_reducible apply Ext.drew))).lo) (by first | exact (Box.ext HP.out (by repeat' (first | with_reducible exact Ext.refl _ | with_reducible apply Ext.alloc | with_reducible apply Ext.drew))).cell | ((try simp only [drew_cell]); first | exact cell_new _ _ _ | exact cell_new2 _ _ _ _ | exact cell_old2 _ _ _ _)) hL1 hL2 (by exact Ext.size (Z.out.trans (by repeat' (first | with_reducible exact Ext.refl _ | with_reducible apply Ext.alloc | with_reducible apply Ext.drew)))) ?_; intro v8 w8 hown hgrew; (first | have HQ := Lib.hid (show Box w8 _ _ _ (.string U4) from by with_reducible exact Box.stepL (LR.bxA HLR.out (Ext.refl _)) hgrew) | have HQ := Lib.hid (show Box w8 _ _ _ (.string U4) from by with_reducible exact Box.stepL (LR.bxAd HLR.out (Ext.refl _)) hgrew) | have HQ := Lib.hid (show Box w8 _ _ _ (.string U4) from by with_reducible exact Box.stepL (LR.bxB HLR.out (Ext.refl _)) hgrew) | have HQ := Lib.hid (show Box w8 _ _ _ (.string U4) from by with_reducible exact Box.stepL (LR.bxBd HLR.out (Ext.refl _)) hgrew) | have HQ := Lib.hid (show Box w8 _ _ _ (.string U4) from by with_reducible exact Box.stepL (LR.bxC HLR.out (Ext.refl _)) hgrew) | have HQ := Lib.hid (show Box w8 _ _ _ (.string U4) from by with_reducible exact Box.stepL (LR.bxCd HLR.out (Ext.refl _)) hgrew) | have HQ := Lib.hid (show Box w8 _ _ _ (.string U4) from Box.stepL (Box.ext HQ.out (by repeat' (first | with_reducible exact Ext.refl _ | with_reducible apply Ext.alloc | with_reducible apply Ext.drew))) hgrew) | skip); have Z := Lib.hid (hgrew.extNew (Z.out.trans (by repeat' (first | with_reducible exact Ext.refl _ | with_reducible apply Ext.alloc | with_reducible apply Ext.drew))) (LR.ext HLR.out (by repeat' (first | with_reducible exact Ext.refl _ | with_reducible apply Ext.alloc | with_reducible apply Ext.drew))).lo (Nat.le_refl _)); have HLR := Lib.hid (LR.stepL (LR.ext HLR.out (by repeat' (first | with_reducible exact Ext.refl _ | with_reducible apply Ext.alloc | with_reducible apply Ext.drew))) hown hgrew); clear hown hgrew)
                                | (refine step_app1 (s := .tmp 137) (x := .tmp 152) rfl rfl ei_vecs rfl rfl (y := .string U4) rfl (B := w3.heap.size) (n := mm) (by exact (LR.ext HLR.out (by repeat' (first | with_reducible exact Ext.refl _ | with_reducible apply Ext.alloc | with_reducible apply Ext.drew))).ro) (by first | exact (Box.ext HQ.out (by repeat' (first | with_reducible exact Ext.refl _ | with_reducible apply Ext.alloc | with_reducible apply Ext.drew))).cell | ((try simp only [drew_cell]); first | exact cell_new _ _ _ | exact cell_new2 _ _ _ _ | exact cell_old2 _ _ _ _)) hL1 hL3 (by exact Ext.size (Z.out.trans (by repeat' (first | with_reducible exact Ext.refl _ | with_reducible apply Ext.alloc | with_reducible apply Ext.drew)))) ?_; intro v9 w9 hown hgrew; (first | have HP := Lib.hid (show Box w9 _ _ _ (.slice vpo n' vpc) from by with_reducible exact Box.stepR (LR.bxA HLR.out (Ext.refl _)) hgrew) | have HP := Lib.hid (show Box w9 _ _ _ (.slice vpo n' vpc) from by with_reducible exact Box.stepR (LR.bxAd HLR.out (Ext.refl _)) hgrew) | have HP := Lib.hid (show Box w9 _ _ _ (.slice vpo n' vpc) from by with_reducible exact Box.stepR (LR.bxB HLR.out (Ext.refl _)) hgrew) | have HP := Lib.hid (show Box w9 _ _ _ (.slice vpo n' vpc) from by with_reducible exact Box.stepR (LR.bxBd HLR.out (Ext.refl _)) hgrew) | have HP := Lib.hid (show Box w9 _ _ _ (.slice vpo n' vpc) from by with_reducible exact Box.stepR (LR.bxC HLR.out (Ext.refl _)) hgrew) | have HP := Lib.hid (show Box w9 _ _ _ (.slice vpo n' vpc) from by with_reducible exact Box.stepR (LR.bxCd HLR.out (Ext.refl _)) hgrew) | have HP := Lib.hid (show Box w9 _ _ _ (.slice vpo n' vpc) from Box.stepR (Box.ext HP.out (by repeat' (first | with_reducible exact Ext.refl _ | with_reducible apply Ext.alloc | with_reducible apply Ext.drew))) hgrew) | skip); have Z := Lib.hid (hgrew.extNew (Z.out.trans (by repeat' (first | with_reducible exact Ext.refl _ | with_reducible apply Ext.alloc | with_reducible apply Ext.drew))) (LR.ext HLR.out (by repeat' (first | with_reducible exact Ext.refl _ | with_reducible apply Ext.alloc | with_reducible apply Ext.drew))).ro (Nat.le_refl _)); have HLR := Lib.hid (LR.stepR (LR.ext HLR.out (by repeat' (first | with_reducible exact Ext.refl _ | with_reducible apply Ext.alloc | with_reducible apply Ext.drew))) hown hgrew); clear hown hgrew))
                            all_goals
                              have HLN := Lib.hid (HLX.out _ _ _ HLR.out)
                              (try clear hb1); (try clear hb2); (try clear hb3); (try clear HM1); (try clear HM2); (try clear HLR); (try clear HLX); (try clear HLD); (try clear HLL); (try clear HLG); (try clear HGR); (try clear HGA); (try clear HRC); (try clear HPC); (try clear HXB); (try clear HAQ); (try clear HAG); (try clear HAE); (try clear HSY); (try clear HGQ); (try clear HQ); (try clear HQV); (try clear HEL); (try clear HC); (try clear HVC); (try clear HB); (try clear HPC); (try clear HEE); (try clear HO2); (try clear HAC); (try clear HX3); (try clear HXX); (try clear HY3); (try clear HSO); (try clear HHA); (try clear HCA); (try clear HAZ); (try clear HLA); (try clear HLP)
                              go_wp2_with fail
                              go_meet
                              exact ⟨rfl, ⟨_, HLN⟩, Z.out⟩
                  case rest =>
                    obtain ⟨rfl, ⟨xs9, HL9⟩, Y9⟩ := hcut
                    clear HLR Y
                    go_wp2_with fail
                    go_roundw
                    case rel => exact ⟨i + 1, xs9, by omega, by go_num, HL9, Y9⟩
                    case measure => simp [intOf] <;> omega
                · have hiN : N = i := by omega
                  subst hiN
                  have hBe : lessB n' i0 a A N = (A.eraseIdx i0).map (lessR n' a) := by
                    unfold lessB
                    rw [List.take_of_length_le (by rw [HAL.out]; exact Nat.le_refl _)]
                  have hBl := lessB_len n' i0 a A N
                  obtain ⟨Bl, hBd⟩ : ∃ Bl, lessB n' i0 a A N = Bl := ⟨_, rfl⟩
                  have hlr := HLR.out
                  rw [hBd] at hBe hBl hlr
                  have hBw : ∀ r ∈ Bl, r.length = n' + 1 := fun r hr => by
                    rw [hBe] at hr
                    obtain ⟨s, _, rfl⟩ := List.mem_map.1 hr
                    exact lessR_len n' a s
                  have hBq : ∀ r ∈ Bl, ∀ q ∈ r, RB (4 * k + 1) q := fun r hr => by
                    rw [hBe] at hr
                    obtain ⟨s, hs, rfl⟩ := List.mem_map.1 hr
                    exact lessR_mem fun j => lessE_RB HAZ.out HGA.out (fun j => getD_RB (HAQ.out s (List.mem_of_mem_eraseIdx hs)) hk1 j) j
                  have hxs1 := own_row hlr.lo (by omega)
                  have hys1 := own_row hlr.ro (by omega)
                  have hrr : Rows Value.string wq u17 (textM (Bl.map (·.take n'))) := by
                    refine rowsX_rows (B := w3.heap.size) (r := u17.ownBlock) (us := xs) ?_ hxs1
                    have e : (textM (Bl.map (·.take n'))).map (·.map Value.string) = Bl.map fun r : List Rat => (r.take n').map fun q => Value.string (ratT q) := by
                      unfold textM
                      rw [List.map_map, List.map_map]
                      refine List.map_congr_left fun r _ => ?_
                      show ((r.take n').map ratT).map Value.string = _
                      rw [List.map_map]; rfl
                    rw [e]
                    exact hlr.lrow
                  have hss : Strs wq u18 ((Bl.map (·.getD n' 0)).map ratT) := by
                    show Row wq u18 (((Bl.map (·.getD n' 0)).map ratT).map Value.string)
                    rw [List.map_map, List.map_map]
                    exact hys1
                  have hcall := HSY.out (Bl.map (·.take n')) (Bl.map (·.getD n' 0)) _ _ wq hrr hss (by rw [List.length_map, List.length_map]) (by rw [List.length_map]; omega)
                    (fun r hr => by
                      obtain ⟨s, hs, rfl⟩ := List.mem_map.1 hr
                      rw [List.length_take, hBw s hs]; omega)
                    (fun r hr q hq => by
                      obtain ⟨s, hs, rfl⟩ := List.mem_map.1 hr
                      exact hBq s hs q (List.mem_of_mem_take hq))
                    (fun q hq => by
                      obtain ⟨s, hs, rfl⟩ := List.mem_map.1 hq
                      exact getD_RB (hBq s hs) (by omega) n')
                  rw [aug_split Bl hBw] at hcall
                  unfold SysPost at hcall
                  have HCALL := Lib.hid hcall
                  have HXL := Lib.hid (fun x (hx : sysL n' Bl = some x) => sysL_len n' Bl x hx)
                  have HXB2 := Lib.hid (fun x (hx : sysL n' Bl = some x) => sysL_RB n' (4 * k + 1) Bl x (by omega) hBq hx)
                  have hso := HSO.out
                  rw [← hBe] at hso
                  generalize sysL n' Bl = so at *
                  have HSO2 := Lib.hid hso
                  have HYW := Lib.hid (HX3.out.trans Y)
                  have HYX := Lib.hid Y
                  have hge3 : (N : Int) ≤ (N : Int) := by omega
                  clear hlr hBe hBl hBd hBw hBq hxs1 hys1 hrr hss hcall hso HLR hlt hi HSO HSY Y
                  go_wp2_with fail
                  refine HCALL.out.mono ?_
                  rintro e w5 ⟨X5, h⟩
                  rcases h with ⟨hn, y, rfl⟩ | ⟨x, y, hx, rfl, hy, hyf⟩
                  · subst hn
                    have HX0 : Hid (o = none) := HSO2.out.symm
                    have hXX := ((HXX.out.trans HYX.out).trans X5)
                    go_wp2_with fail
                    go_ret2
                    exact ⟨hXX, .inl ⟨HX0.out, _, rfl⟩⟩
                  · subst hx
                    have hxl := HXL.out x rfl
                    have hxq := HXB2.out x rfl
                    have hxo : o = some (x ++ [(a.getD (n' + 1) 0 - sumN (fun k => a.getD k 0 * x.getD k 0) n') / a.getD n' 0]) := HSO2.out.symm
                    have h5 := HX3.out.trans (HYX.out.trans X5)
                    have HO5 := Lib.hid (own_ext HO2.out ((HY3.out.trans HYX.out).trans X5))
                    have hheap := (own_heap2 HO5.out).1
                    obtain ⟨yo, yc, rfl, hyl, hyC⟩ := hy.open
                    have hyl2 : (x.map ratT).length = n' := by rw [List.length_map]; exact hxl
                    rw [hyl2] at hyl ⊢
                    obtain ⟨CS, hCS⟩ : ∃ CS, CS = (x.map ratT).map Value.string := ⟨_, rfl⟩
                    have A1 : Hid (CS.length = Nat.min n' (n' + 1)) := by show _ = _; rw [hCS, List.length_map, hyl2]; show n' = min n' (n' + 1); omega
                    have A2 : Hid (Cells w5 yo CS) := by show Cells _ _ _; rw [hCS]; exact hyC
                    have A3 : Hid (0 + CS.length ≤ (List.replicate (n' + 1) (Value.string ⟨#[]⟩)).length) := by show _ ≤ _; rw [hCS, List.length_map, hyl2, List.length_replicate]; omega
                    have A4 : Hid (∀ v ∈ CS, v.oneCell' = true) := fun v hv => by
                      rw [hCS] at hv
                      obtain ⟨_, _, rfl⟩ := List.mem_map.1 hv
                      rfl
                    have HCS := Lib.hid hCS
                    have HYL := Lib.hid hyl2
                    have HXO := Lib.hid hxo
                    have HXQ := Lib.hid hxq
                    have HXN := Lib.hid hxl
                    have H5 := Lib.hid h5
                    have HYC := Lib.hid hyC
                    have HYF := Lib.hid hyf
                    have HEX := Lib.hid ((HXX.out.trans HYX.out).trans X5)
                    have HHP := Lib.hid hheap
                    clear hxl hxq hxo h5 hheap hyC hyf hyl2 hCS hy hyl HCALL HSO2 HXL HXB2
                    have HXG : Hid (∀ j, j < n' → (x.map ratT)[j]? = some (ratT (x.getD j 0))) := fun j hj => by
                      rw [List.getElem?_map, List.getD_eq_getElem?_getD, List.getElem?_eq_getElem (by rw [HXN.out]; exact hj)]; rfl
                    have HXR : Hid (∀ j, j < n' → RB (XB n' (4 * k + 1)) (x.getD j 0)) := fun j hj => by
                      rw [List.getD_eq_getElem?_getD, List.getElem?_eq_getElem (by rw [HXN.out]; exact hj)]
                      exact HXQ.out _ (List.getElem_mem _)
                    have HFR : Hid (∀ j, j < n' → RB (k + XB n' (4 * k + 1)) (a.getD j 0 * x.getD j 0)) := fun j hj => RB_mul (HGA.out j) (HXR.out j hj)
                    have hxb := HXB.out
                    have HRR : Hid (∀ j, j ≤ n' → RB (k + j * (k + XB n' (4 * k + 1) + 1)) (a.getD (n' + 1) 0 - sumN (fun k => a.getD k 0 * x.getD k 0) j)) := fun j hj => rest_RB (HGA.out (n' + 1)) (fun j hj => HFR.out j hj) j hj
                    obtain ⟨XX, hXX⟩ : ∃ XX, XB n' (4 * k + 1) = XX := ⟨_, rfl⟩
                    rw [hXX] at HXR HFR HRR hxb
                    have HML : Hid (∀ j, j ≤ n' → j * (k + XX + 1) ≤ n' * (k + XX + 1)) := fun j hj => Nat.mul_le_mul_right _ hj
                    have HSS : Hid (∀ j, a.getD (n' + 1) 0 - sumN (fun k => a.getD k 0 * x.getD k 0) j - a.getD j 0 * x.getD j 0 = a.getD (n' + 1) 0 - sumN (fun k => a.getD k 0 * x.getD k 0) (j + 1)) := fun j => by rw [sumN_snoc]; grind
                    have HFIN : Hid (a.getD (n' + 1) 0 - sumN (fun k => a.getD k 0 * x.getD k 0) 0 = a.getD (n' + 1) 0) := by show _ - (0 : Rat) = _; grind
                    generalize hF : (fun j => a.getD (n' + 1) 0 - sumN (fun k => a.getD k 0 * x.getD k 0) j) = RF at *
                    have HRF := Lib.hid hF
                    have e0 : ratT (a.getD (n' + 1) 0) = ratT (RF 0) := by rw [← hF]; show _ = ratT (_ - (0 : Rat)); congr 1; grind
                    have hnn : (n' : Int) + 1 < (n' : Int) + 1 + 1 := by omega
                    have HXB3 := Lib.hid hxb
                    have HE0 : Hid (ratT (a.getD (n' + 1) 0) = ratT (RF 0)) := e0
                    have HP5 : Hid (∀ j, j < n' + 1 + 1 → w5.cell? ⟨pb, poff + j, none⟩ = some (.string (ratT (a.getD j 0)))) := fun j hj => (HYX.out.trans X5).cell (HPC.out j hj)
                    have HC5 : Hid (w5.cell? ⟨Ab, Aoff + i0, none⟩ = some (.slice (some ⟨pb, poff, none⟩) (n' + 1 + 1) pc0)) := (HYX.out.trans X5).cell HCA.out
                    have HNP : Hid (some pb ≠ some wa.heap.size) := fun e => by have := HLP.out; simp only [Option.some.injEq] at e; omega
                    have HNA : Hid (some Ab ≠ some wa.heap.size) := fun e => by have := HLA.out; simp only [Option.some.injEq] at e; omega
                    clear hxb hXX e0 hF
                    go_wp2_with (refine wp_copy_grown (o := ⟨some 167, _, _, _, _, _⟩) rfl (.tmp 165) (.tmp 166) 25 25 rfl 31 Tryz.underlying25 (by kernel_rfl) wa.heap.size 0 (n' + 1) (n' + 1) yo n' yc rfl rfl (List.replicate (n' + 1) (Value.string ⟨#[]⟩)) 31 HHP.out CS A1.out A2.out A3.out A4.out ?_; intro w6 hg6 hgr6; have HPC6 : Hid (∀ j, j < n' + 1 + 1 → w6.cell? ⟨pb, poff + j, none⟩ = some (.string (ratT (a.getD j 0)))) := (fun j hj => hgr6.cell (HP5.out j hj) HNP.out); have hCA6 : w6.cell? ⟨Ab, Aoff + i0, none⟩ = some (.slice (some ⟨pb, poff, none⟩) (n' + 1 + 1) pc0) := hgr6.cell HC5.out HNA.out; have hp0 : w6.cell? ⟨pb, poff + (n' + 1), none⟩ = some (.string (ratT (RF 0))) := (by have h := HPC6.out (n' + 1) (by omega); rw [HE0.out] at h; exact h))
                    have hneY : ∀ b off, yo = some ⟨b, off, none⟩ → 0 < n' → b ≠ wa.heap.size := fun b off e h0 hb => by
                      rcases HYF.out with h1 | ⟨kk, h1, h2⟩
                      · have := congrArg List.length h1
                        rw [List.length_map, HYL.out] at this
                        simp at this
                        omega
                      · rw [e] at h1
                        simp only [Value.ownBlock, Option.some.injEq] at h1
                        have := (HX3.out.trans HYX.out).size
                        have h3 := (own_heap2 HO2.out)
                        have h4 := (Array.getElem?_eq_some_iff.1 h3.1).1
                        have := (HY3.out.trans HYX.out).size
                        omega
                    have hZ : w6.ownsRow wa.heap.size 31 1 (.slice (some ⟨wa.heap.size, 0, none⟩) (n' + 1) (n' + 1)) (n' + 1) (CS ++ [.string ⟨#[]⟩]) := by
                      refine heap_own2 ?_ (by rw [List.length_append, A1.out]; show Nat.min n' (n' + 1) + 1 = _; show min n' (n' + 1) + 1 = _; omega) (by omega) (Nat.le_refl _)
                      rw [hg6.out]
                      have e1 : CS.length = n' := by rw [A1.out]; show min n' (n' + 1) = n'; omega
                      rw [List.take_zero, List.nil_append, e1, List.drop_replicate, show n' + 1 - (0 + n') = 1 from by omega]
                      rfl
                    have HZ6 := Lib.hid hZ
                    have hE6 : Ext wa w6 := H5.out.grown hgr6 (Nat.le_refl _)
                    have hXP : Ext wo w6 := HEX.out.grown hgr6 HXZ.out
                    have HE6 := Lib.hid hE6
                    have HXP := Lib.hid hXP
                    have HYC6 : Hid (CellsOf Value.string w6 yo (x.map ratT)) := fun j v hj => by
                      obtain ⟨b, off, e, hc⟩ := HYC.out j v hj
                      have hj2 := (List.getElem?_eq_some_iff.1 hj).1
                      rw [List.length_map, HYL.out] at hj2
                      exact ⟨b, off, e, hgr6.cell hc (fun e2 => hneY b off e (by omega) (by simpa using e2))⟩
                    have HCA6 := Lib.hid hCA6
                    clear hZ hE6 hXP hneY hgr6 hg6 HPC HCA HLP HLA HYC HYF
                    go_loopw [26, 177] (fun qv iv wr => ∃ (j : Nat), j ≤ n' ∧ iv = .int .i64 j ∧ qv = .string (ratT (RF j)) ∧ Ext w6 wr) (fun _ iv _ => n' - (intOf iv).toNat)
                    case atStart => exact ⟨0, Nat.zero_le _, rfl, rfl, Ext.refl _⟩
                    case round =>
                      obtain ⟨j, hj, rfl, rfl, Z⟩ := hrel
                      by_cases hjlt : j < n'
                      · obtain ⟨yb, yoff, rfl, hcy⟩ := (HYC6.out.ext Z).at (show Hid _ from HXG.out j hjlt)
                        have hcA := Z.cell HCA6.out
                        have hcp := Z.cell (HPC6.out j (by omega))
                        have hxr := HXR.out j hjlt
                        have hrr := HRR.out j hj
                        have hml := HML.out j hj
                        have hxb := HXB3.out
                        have hss := HSS.out j
                        have hrj : a.getD (n' + 1) 0 - sumN (fun k => a.getD k 0 * x.getD k 0) j = RF j := by rw [← HRF.out]
                        have hrj2 : a.getD (n' + 1) 0 - sumN (fun k => a.getD k 0 * x.getD k 0) (j + 1) = RF (j + 1) := by rw [← HRF.out]
                        rw [hrj, hrj2] at hss
                        rw [hrj] at hrr
                        have hx1 : k + XX + 1 ≤ n' * (k + XX + 1) := Nat.le_mul_of_pos_left _ (by omega)
                        have hm1 := fun W => rMul_any (k := k) (m := XX) (by omega) (HGA.out j) hxr W
                        have hm2 := fun W => rSub_any (k := k + j * (k + XX + 1)) (m := k + XX) (by omega) hrr (HFR.out j hjlt) W
                        rw [hss] at hm2
                        obtain ⟨T1, hT1⟩ : ∃ T1, ratT (a.getD j 0) = T1 := ⟨_, rfl⟩
                        obtain ⟨T2, hT2⟩ : ∃ T2, ratT (x.getD j 0) = T2 := ⟨_, rfl⟩
                        obtain ⟨T3, hT3⟩ : ∃ T3, ratT (a.getD j 0 * x.getD j 0) = T3 := ⟨_, rfl⟩
                        rw [hT1, hT2, hT3] at hm1
                        rw [hT3] at hm2
                        rw [hT1] at hcp
                        rw [hT2] at hcy
                        have HM1 := Lib.hid hm1
                        have HM2 := Lib.hid hm2
                        have hji : (j : Int) < (n' : Int) := by omega
                        have hj2 : (j : Int) < (n' : Int) + 1 + 1 := by omega
                        clear hm1 hm2 hT1 hT2 hT3 hss hrj hrj2 hxr hrr hml hxb hjlt
                        go_wp2_with fail
                        refine (HM1.out _).mono ?_
                        rintro e w7 ⟨rfl, X7⟩
                        go_wp2_with fail
                        refine (HM2.out _).mono ?_
                        rintro e w8 ⟨rfl, X8⟩
                        have Z8 := (Z.trans X7).trans X8
                        go_wp2_with fail
                        go_roundw
                        case rel => exact ⟨j + 1, by omega, by go_num, rfl, Z8⟩
                        case measure => simp [intOf] <;> omega
                      · have hjn : n' = j := by omega
                        subst hjn
                        have hcA := Z.cell HCA6.out
                        have hcp := Z.cell (HPC6.out n' (by omega))
                        have hrr := HRR.out n' (Nat.le_refl _)
                        have hxb := HXB3.out
                        have hrj : a.getD (n' + 1) 0 - sumN (fun k => a.getD k 0 * x.getD k 0) n' = RF n' := by rw [← HRF.out]
                        have hxo := HXO.out
                        rw [hrj] at hrr hxo
                        have HM1 := Lib.hid (fun W => rDiv_any (k := k + n' * (k + XX + 1)) (m := k) (by omega) hrr (HGA.out n') (fun e => HAZ.out (Rat.num_eq_zero.1 e)) W)
                        obtain ⟨T1, hT1⟩ : ∃ T1, ratT (a.getD n' 0) = T1 := ⟨_, rfl⟩
                        obtain ⟨T2, hT2⟩ : ∃ T2, ratT (RF n') = T2 := ⟨_, rfl⟩
                        obtain ⟨T3, hT3⟩ : ∃ T3, ratT (RF n' / a.getD n' 0) = T3 := ⟨_, rfl⟩
                        rw [hT1, hT2, hT3] at HM1
                        rw [hT1] at hcp
                        rw [hT2]
                        have HT3 := Lib.hid hT3
                        have HXO2 := Lib.hid hxo
                        have hnn1 : (n' : Int) < (n' : Int) + 1 := by omega
                        have hnn2 : (n' : Int) < (n' : Int) + 1 + 1 := by omega
                        have hwa := HXZ.out
                        clear hT1 hT2 hT3 hrj hrr hxb hxo hj hjlt hp0
                        go_wp2_with fail
                        refine (HM1.out _).mono ?_
                        rintro e w7 ⟨rfl, X7⟩
                        have HO7 := Lib.hid (own_ext HZ6.out (Z.trans X7))
                        have hf7 := HO7.out.frozenAt n'
                        have hc7 : w7.cell? ⟨wa.heap.size, n', none⟩ = some (.string ⟨#[]⟩) := by
                          refine own_cell HO7.out (show Hid _ from ?_)
                          show _ = _
                          rw [List.getElem?_append_right (by rw [A1.out]; show min n' (n' + 1) ≤ n'; omega), A1.out]
                          show [Value.string ⟨#[]⟩][n' - min n' (n' + 1)]? = _
                          rw [show n' - min n' (n' + 1) = 0 from by omega]; rfl
                        have hX7 := (HXP.out.trans Z).trans X7
                        have HX7 := Lib.hid hX7
                        have hst := (HO7.out.stored n' (.string T3)).1
                        have HST := Lib.hid hst
                        clear hX7 hst hcA hcp
                        go_wp2_with fail
                        go_ret2
                        refine ⟨HX7.out.setCell hwa _, .inr ⟨_, _, HXO2.out, rfl, ?_, .inr ⟨_, rfl, hwa⟩⟩⟩
                        have e1 : CS.length = n' := by rw [A1.out]; show min n' (n' + 1) = n'; omega
                        have e2 : (CS ++ [Value.string ⟨#[]⟩]).set n' (.string T3) = CS ++ [.string T3] := by
                          rw [List.set_append, if_neg (by omega), e1, Nat.sub_self]; rfl
                        have h9 := own_row HST.out (by omega)
                        rw [e2, HCS.out] at h9
                        show Row _ _ _
                        have e3 : ((x ++ [RF n' / a.getD n' 0]).map ratT).map Value.string = (x.map ratT).map Value.string ++ [Value.string (ratT (RF n' / a.getD n' 0))] := by simp
                        rw [e3, HT3.out]
                        exact h9

theorem rSys_up {n k : Nat} (h : SysC n (4 * k + 1)) (hn : n + 1 ≤ 40) (hk1 : 1 ≤ k) (hk : 4 * k + 1 ≤ 390000) (hB : XB (n + 1) k ≤ 390000) : SysC (n + 1) k :=
  rSys_step (n + 1) k hn hk1 hk hB fun n' e => by cases e; exact h
theorem rSys_0 {k : Nat} (hk1 : 1 ≤ k) (hk : 4 * k + 1 ≤ 390000) : SysC 0 k :=
  rSys_step 0 k (by omega) hk1 hk (Nat.zero_le _) fun n' e => by cases e
theorem rSys_any (n k : Nat) (hn : n ≤ 5) (hk : k = 12) : SysC n k := by
  subst hk
  match n, hn with
  | 0, _ => exact rSys_0 (by decide) (by decide)
  | 1, _ => exact rSys_up (rSys_0 (by decide) (by decide)) (by decide) (by decide) (by decide) (by decide)
  | 2, _ => exact rSys_up (rSys_up (rSys_0 (by decide) (by decide)) (by decide) (by decide) (by decide) (by decide)) (by decide) (by decide) (by decide) (by decide)
  | 3, _ => exact rSys_up (rSys_up (rSys_up (rSys_0 (by decide) (by decide)) (by decide) (by decide) (by decide) (by decide)) (by decide) (by decide) (by decide) (by decide)) (by decide) (by decide) (by decide) (by decide)
  | 4, _ => exact rSys_up (rSys_up (rSys_up (rSys_up (rSys_0 (by decide) (by decide)) (by decide) (by decide) (by decide) (by decide)) (by decide) (by decide) (by decide) (by decide)) (by decide) (by decide) (by decide) (by decide)) (by decide) (by decide) (by decide) (by decide)
  | 5, _ => exact rSys_up (rSys_up (rSys_up (rSys_up (rSys_up (rSys_0 (by decide) (by decide)) (by decide) (by decide) (by decide) (by decide)) (by decide) (by decide) (by decide) (by decide)) (by decide) (by decide) (by decide) (by decide)) (by decide) (by decide) (by decide) (by decide)) (by decide) (by decide) (by decide) (by decide)
end Go.Proofs.YtnfmknjhkpgppaaGreatDoor
