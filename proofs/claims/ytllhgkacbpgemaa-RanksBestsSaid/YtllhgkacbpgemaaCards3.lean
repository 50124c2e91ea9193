/- walks shared by the laws on cards: Shuffled -/
import Derived.Test.YtllhgkacbpgemaaCards2
namespace Go.Proofs.Ytllhgkacbpgemaa
open Go.RowKit

/-- a beginning of an own row -/
theorem own_take {w : World} {B : Nat} {e : TypeId} {g n cap m : Nat} {vs : List Value} (h : w.ownsRow B e 1 (.slice (some ⟨g, 0, none⟩) n cap) n vs) (hm : m ≤ n) :
    w.ownsRow B e 1 (.slice (some ⟨g, 0, none⟩) m cap) m (vs.take m) := by
  have hl : vs.length = n := by simpa using h.1
  rcases h.2 with ⟨h0, _⟩ | ⟨g', cap', cur, e', hb, hg, hc, hm2, hcs, ht⟩
  · cases h0
  · simp only [Value.slice.injEq, Option.some.injEq, Addr.mk.injEq, and_true, true_and] at e'
    obtain ⟨rfl, rfl⟩ := e'
    refine ⟨by simp; omega, .inr ⟨g, cap, cur, rfl, hb, hg, by omega, hm2, hcs, ?_⟩⟩
    rw [← ht, List.take_take]
    congr 1
    omega

theorem sh_left (l : List Int) (t D : Nat) (x : Int) (ht : t < l.length) (hx : l[t]? = some x) (hD : D ≤ t) :
    (((l.take (t + 1)).map (Value.int .i64)).set D (.int .i64 x)).take t = ((swapI l t D).take t).map (Value.int .i64) := by
  have hx' : l.getD t 0 = x := by simp [List.getD_eq_getElem?_getD, hx]
  apply List.ext_getElem
  · simp [swapI]; omega
  · intro i h1 h2
    have hi : i < t := by simp at h1; omega
    simp only [List.getElem_take, List.getElem_set, List.getElem_map, swapI, hx']
    split
    · rfl
    · rw [if_neg (by omega)]

theorem sh_out (l : List Int) (t D : Nat) (y : Int) (ht : t < l.length) (hy : l[D]? = some y) (hD : D ≤ t) :
    ((List.replicate (t + 1) (0 : Int) ++ l.drop (t + 1)).map (Value.int .i64)).set t (.int .i64 y) = (List.replicate t (0 : Int) ++ (swapI l t D).drop t).map (Value.int .i64) := by
  have hy' : l.getD D 0 = y := by simp [List.getD_eq_getElem?_getD, hy]
  apply List.ext_getElem
  · simp [swapI]; omega
  · intro i h1 h2
    simp only [List.getElem_set, List.getElem_map]
    by_cases h3 : t = i
    · subst h3
      rw [if_pos rfl, List.getElem_append_right (by simp)]
      simp only [List.length_replicate, List.getElem_drop, Nat.sub_self, Nat.add_zero, swapI, List.getElem_set]
      by_cases h4 : D = t
      · subst h4
        rw [if_pos rfl]
        simp [List.getD_eq_getElem?_getD, hy]
      · simp only [if_neg h4, if_true, hy']
    · rw [if_neg h3]
      by_cases h5 : i < t
      · rw [List.getElem_append_left (by simp; omega), List.getElem_append_left (by simp; omega)]
        simp
      · rw [List.getElem_append_right (by simp; omega), List.getElem_append_right (by simp; omega)]
        simp only [List.length_replicate, List.getElem_drop, swapI, List.getElem_set]
        have e1 : t + 1 + (i - (t + 1)) = i := by omega
        have e2 : t + (i - t) = i := by omega
        simp only [e1, e2]
        rw [if_neg (by omega), if_neg (by omega)]

theorem sh_next {n : Nat} {ds l Q : List Int} {t : Nat} {d : Int} (hdl : ds.length = n - 1) (htn : t < n) (hd : Hid (0 < t → ds[n - 1 - t]? = some d)) (h0 : Hid (t = 0 → d = 0))
    (h : Hid (shufGo n (n - (t + 1)) (ds.drop (n - (t + 1))) l = Q)) : Hid (shufGo n (n - t) (ds.drop (n - t)) (swapI l t d.toNat) = Q) := by
  have hh := h.out
  by_cases ht : t = 0
  · subst ht
    rw [h0.out rfl]
    rw [List.drop_eq_nil_of_le (by omega)] at hh ⊢
    show swapI l 0 0 = Q
    rw [swapI_self]; exact hh
  · have hd1 := hd.out (by omega)
    obtain ⟨hlt, hg⟩ := List.getElem?_eq_some_iff.1 hd1
    have e : n - (t + 1) = n - 1 - t := by omega
    rw [e, List.drop_eq_getElem_cons hlt, hg, shufGo] at hh
    have e2 : n - 1 - t + 1 = n - t := by omega
    have e3 : n - 1 - (n - 1 - t) = t := by omega
    rw [e2, e3] at hh
    exact hh

set_option maxHeartbeats 1600000 in
set_option maxRecDepth 100000 in
theorem shuffled_any (v u : Value) (xs ds : List Int) (w : World) (hv : Ints w v xs) (hu : Ints w u ds) (h52 : xs.length ≤ 52) (h2 : drawsErr xs.length ds = 0) :
    Calls Try.prog 64 #[v, u] w fun e w' => ∃ r, e = .returned r ∧ w'.ownsRow w.heap.size 3 1 r xs.length ((shufF xs ds).map (Value.int .i64)) ∧ Ext w w' := by
  obtain ⟨hdl, hdd⟩ := drawsErr_zero2 h2
  have HDD := Lib.hid hdd
  obtain ⟨n, hn⟩ : ∃ n, Hid (xs.length = n) := ⟨_, rfl⟩
  obtain ⟨Q, hQ⟩ : ∃ Q, Hid (shufF xs ds = Q) := ⟨_, rfl⟩
  have hQ2 : shufGo n 0 ds xs = Q := by rw [← hQ.out, shufF, hn.out]
  have HQ2 := Lib.hid hQ2
  have hsrc := hv.src (fun _ => rfl)
  obtain ⟨ao, c, rfl, hlen, _⟩ := hv.open
  obtain ⟨bo, cd, rfl, hlen2, hcd⟩ := hu.open
  clear hv hu h2 hdd hQ2
  rw [hn.out] at hdl HDD hlen h52 hsrc ⊢
  rw [hQ.out]
  have HDL := Lib.hid hdl
  have hdl2 : ds.length ≤ n := by omega
  clear hdl
  have hs2 := Lib.hid (hsrc.ext ((Ext.refl w).alloc (.cells #[] 3)))
  clear hsrc
  have hown0 := Lib.hid (own_empty w 3)
  have HX1 : Ext w (w.alloc (.cells #[] 3)) := (Ext.refl w).alloc _
  go_enter Try.func64, Try.ntmps64
  go_wp2_with (first
    | (at_make; refine wp_make1 rfl rfl ei_ints rfl rfl rfl n rfl rfl (by omega) (by omega) ?_; intro w2 hO2 hX2)
    | (at_builtin; refine wp_app rfl rfl ei_ints rfl hown0.out rfl hs2.out (by omega) (by omega) (by simp) ?_; intro v1 w1 hown hgrew; simp only [Nat.zero_add, List.nil_append] at hown; have HX : Ext w w1 := hgrew.extNew HX1 hown0.out (Nat.le_refl _); clear hgrew))
  obtain ⟨ro, rc, hrr, _⟩ := (own_rowOf (enc := Value.int .i64) (xs := xs) hown (by omega)).open
  rw [hn.out] at hrr
  subst hrr
  have HNE : Hid (∀ g, ro = some ⟨g, 0, none⟩ → g ≠ w1.heap.size) := fun g e => by
    subst e
    have := (hown.lt g rfl).2
    omega
  have hown' := Lib.hid (hown.kept (row := none) ⟨hX2.os, hX2.tape, hX2.output, hX2.size, fun k hk _ => hX2.block k hk⟩ (by cases ro <;> simp [Value.ownBlock]))
  have hs1 := HX.size
  have HO2 := Lib.hid (own_mono hO2 hs1)
  have HXX := HX.trans hX2
  clear hown hO2 HX1
  go_loopw [5, 7] (fun lv iv wr => ∃ (t : Nat) (j : Int) (l : List Int), t ≤ n ∧ lv = .slice ro t rc ∧ iv = .int .i64 j ∧ -1 ≤ j ∧ j < n ∧ Hid ((t : Int) = j + 1) ∧ Ext w wr ∧ wr.ownsRow w.heap.size 3 1 (.slice ro t rc) t ((l.take t).map (Value.int .i64)) ∧
      wr.ownsRow w.heap.size 3 1 (.slice (some ⟨w1.heap.size, 0, none⟩) n n) n ((List.replicate t (0 : Int) ++ l.drop t).map (Value.int .i64)) ∧ Hid (l.length = n) ∧ Hid (shufGo n (n - t) (ds.drop (n - t)) l = Q)) (fun _ iv _ => (intOf iv + 1).toNat)
  case atStart =>
    refine ⟨n, _, xs, Nat.le_refl _, rfl, rfl, by omega, by omega, ?_, HXX, ?_, ?_, hn.out, ?_⟩
    · show _ = _; omega
    · rw [List.take_of_length_le (by have := hn.out; omega)]; exact hown'.out
    · rw [List.drop_eq_nil_of_le (by have := hn.out; omega), List.append_nil, List.map_replicate]; exact HO2.out
    · show _ = _; rw [Nat.sub_self]; exact HQ2.out
  case round =>
    obtain ⟨t, j, l, htn, rfl, rfl, hj1, hj2, HT, HX3, HL1, HL2, HLN, HI⟩ := hrel
    by_cases hj : j = -1
    · subst hj
      have ht0 : t = 0 := by have := HT.out; omega
      subst ht0
      have hlQ : l = Q := by
        have := HI.out
        rw [Nat.sub_zero, List.drop_eq_nil_of_le (by omega)] at this
        exact this
      subst hlQ
      go_wp2_with fail
      go_ret
      exact ⟨_, rfl, by simpa using HL2, HX3⟩
    · obtain ⟨t', rfl⟩ := Int.eq_ofNat_of_zero_le (show 0 ≤ j by omega)
      have ht0 : t = t' + 1 := by have := HT.out; omega
      subst ht0
      have ht1 : t' < n := by omega
      obtain ⟨g, cap, hsl, hg1, hg2⟩ := own_open HL1 (by omega)
      simp only [Value.slice.injEq] at hsl
      obtain ⟨rfl, _, rfl⟩ := hsl
      have hne := HNE.out g rfl
      obtain ⟨d, hdN, hdD, hd0, hdn⟩ : ∃ d : Int, Hid (0 < t' → ds[n - 1 - t']? = some d) ∧ Hid (t' = 0 → d = 0) ∧ 0 ≤ d ∧ d ≤ t' := by
        by_cases h0 : t' = 0
        · exact ⟨0, fun h => by omega, fun _ => rfl, Int.le_refl _, by omega⟩
        · obtain ⟨d, d1, _, _⟩ := get_lt (xs := ds) (k := n - 1 - t') (by have := HDL.out; omega)
          obtain ⟨e1, e2⟩ := HDD.out _ d d1.out
          exact ⟨d, fun _ => d1.out, fun h => absurd h h0, e1, by omega⟩
      have HN := sh_next HDL.out ht1 hdN hdD HI
      obtain ⟨D, rfl⟩ := Int.eq_ofNat_of_zero_le hd0
      have hDt : D ≤ t' := by omega
      obtain ⟨x, x1, _, _⟩ := get_lt (xs := l) (k := t') (by rw [HLN.out]; exact ht1)
      obtain ⟨y, y1, _, _⟩ := get_lt (xs := l) (k := D) (by rw [HLN.out]; omega)
      have c1 := own_cell HL1 (j := D) (x := .int .i64 y) (by show _ = _; rw [List.getElem?_map, List.getElem?_take, if_pos (by omega), y1.out]; rfl)
      have c3 := own_cell HL2 (j := t') (x := .int .i64 0) (by show _ = _; rw [List.getElem?_map, List.getElem?_append_left (by simp)]; simp)
      have f3 := HL2.frozenAt t'
      have s3 := HL2.stored t' (.int .i64 y)
      rw [sh_out l t' D y (by rw [HLN.out]; exact ht1) y1.out hDt] at s3
      have hL1 := own_kept HL1 s3.2 (.inl (by simp [Value.ownBlock, hne]))
      have c4 := own_cell hL1 (j := D) (x := .int .i64 y) (by show _ = _; rw [List.getElem?_map, List.getElem?_take, if_pos (by omega), y1.out]; rfl)
      have c5 := own_cell hL1 (j := t') (x := .int .i64 x) (by show _ = _; rw [List.getElem?_map, List.getElem?_take, if_pos (by omega), x1.out]; rfl)
      have f1 := hL1.frozenAt D
      have s1 := hL1.stored D (.int .i64 x)
      have s2 := own_kept s3.1 s1.2 (.inl (by simp [Value.ownBlock]; exact fun e => hne e.symm))
      have s4 := own_take s1.1 (show t' ≤ t' + 1 by omega)
      rw [sh_left l t' D x (by rw [HLN.out]; exact ht1) x1.out hDt] at s4
      have S2 := Lib.hid s2; have S4 := Lib.hid s4
      have HS1 : w.heap.size ≤ w1.heap.size := hs1
      have htr : t' ≤ rc := by
        rcases HL1.2 with ⟨h1, _⟩ | ⟨g', cap', cur, h1, _, _, h2, _⟩
        · cases h1
        · simp at h1; omega
      clear s1 s2 s3 s4 hL1 HL1 HL2 hd0
      by_cases h0 : 0 < t'
      · have hdc := hdN.out h0
        obtain ⟨b, off, rfl, hcell0⟩ := hcd.at hdc
        have hcell := HX3.cell hcell0
        clear hcell0 hdc
        obtain ⟨k0, hk0⟩ : ∃ k0 : Nat, Hid (n - 1 - t' = k0) := ⟨_, rfl⟩
        have hki : (n : Int) - 1 - (t' : Int) = (k0 : Int) := by have := hk0.out; omega
        have hkl : k0 < ds.length := by have := hk0.out; have := HDL.out; omega
        rw [hk0.out] at hcell
        go_wp2_with fail
        go_roundw
        case rel => exact ⟨t', (t' : Int) - 1, swapI l t' D, by omega, rfl, rfl, by omega, by omega, by show _ = _; omega, (HX3.setCell HS1 _).setCell hg1 _, S4.out, S2.out, by show _ = _; rw [swapI_len]; exact HLN.out, HN⟩
        case measure => simp [intOf]
      · have h00 : t' = 0 := by omega
        subst h00
        have hD0 : D = 0 := by omega
        subst hD0
        go_wp2_with fail
        go_roundw
        case rel => exact ⟨0, -1, swapI l 0 0, by omega, rfl, rfl, by omega, by omega, by show _ = _; omega, (HX3.setCell HS1 _).setCell hg1 _, S4.out, S2.out, by show _ = _; rw [swapI_len]; exact HLN.out, HN⟩
        case measure => simp [intOf]
end Go.Proofs.Ytllhgkacbpgemaa
