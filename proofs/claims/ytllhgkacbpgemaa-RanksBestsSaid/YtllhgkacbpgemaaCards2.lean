/- walks shared by the laws on cards: Shuffle, Shuffled -/
import Derived.Test.YtllhgkacbpgemaaCards1
import Derived.Test.YtllhgkacbpgemaaMk
namespace Go.Proofs.Ytllhgkacbpgemaa
open Go.RowKit

def swapI (l : List Int) (i d : Nat) : List Int := (l.set i (l.getD d 0)).set d (l.getD i 0)
theorem swapI_len (l : List Int) (i d : Nat) : (swapI l i d).length = l.length := by simp [swapI]
/-- the deck behind the draws from a place on -/
def shufGo (n : Nat) : Nat → List Int → List Int → List Int
  | _, [], l => l
  | j, d :: ds, l => shufGo n (j + 1) ds (swapI l (n - 1 - j) d.toNat)
def shufF (deck draws : List Int) : List Int := shufGo deck.length 0 draws deck

theorem shufGo_len (n : Nat) : ∀ (ds : List Int) (j : Nat) (l : List Int), (shufGo n j ds l).length = l.length := by
  intro ds
  induction ds with
  | nil => intro j l; rfl
  | cons d ds ih => intro j l; rw [shufGo, ih, swapI_len]

theorem swapI_self (l : List Int) (i : Nat) : swapI l i i = l := by
  apply List.ext_getElem
  · simp [swapI]
  · intro k h1 h2
    simp only [swapI, List.getElem_set]
    split
    · subst k; simp [List.getD_eq_getElem?_getD, h2]
    · rfl

theorem swapI_map (l : List Int) (i d : Nat) (x y : Int) (hx : l[i]? = some x) (hy : l[d]? = some y) :
    ((l.map (Value.int .i64)).set i (.int .i64 y)).set d (.int .i64 x) = (swapI l i d).map (Value.int .i64) := by
  simp [swapI, List.getD_eq_getElem?_getD, hx, hy, List.map_set]

set_option maxHeartbeats 800000 in
set_option maxRecDepth 100000 in
theorem shuffle_err1 (v u : Value) (xs ds : List Int) (w : World) (hv : Ints w v xs) (h : deckErr xs ≠ 0) :
    Calls Try.prog 80 #[v, u] w fun e w' => e = .returned (.tuple #[.slice none 0 0, .int .i64 (deckErr xs)]) ∧ w = w' := by
  have HD := Lib.hid (check_any v xs w hv)
  clear hv
  have h2 : (deckErr xs != 0) = true := by simp [h]
  clear h
  generalize deckErr xs = q at *
  go_enter Try.func80, Try.ntmps80
  go_wp2_with fail
  refine HD.out.mono ?_
  rintro e w' ⟨rfl, rfl⟩
  go_wp2_with fail
  go_ret2
  exact ⟨rfl, rfl⟩

set_option maxHeartbeats 800000 in
set_option maxRecDepth 100000 in
theorem shuffle_err2 (v u : Value) (xs ds : List Int) (w : World) (hv : Ints w v xs) (hu : Ints w u ds) (h : deckErr xs = 0) (h2 : drawsErr xs.length ds ≠ 0) :
    Calls Try.prog 80 #[v, u] w fun e w' => e = .returned (.tuple #[.slice none 0 0, .int .i64 (drawsErr xs.length ds)]) ∧ w = w' := by
  have HD := check_any v xs w hv
  rw [h] at HD
  have HD := Lib.hid HD
  obtain ⟨hl52, _⟩ := deckErr_zero h
  have HF := Lib.hid (fits_any xs.length u ds w hu (by omega))
  have h2 : (drawsErr xs.length ds != 0) = true := by simp [h2]
  obtain ⟨ao, c, rfl, hlen, _⟩ := hv.open
  clear hv hu h
  generalize drawsErr xs.length ds = q at *
  go_enter Try.func80, Try.ntmps80
  go_wp2_with fail
  refine HD.out.mono ?_
  rintro e w' ⟨rfl, rfl⟩
  go_wp2_with fail
  refine HF.out.mono ?_
  rintro e w' ⟨rfl, rfl⟩
  go_wp2_with fail
  go_ret2
  exact ⟨rfl, rfl⟩

set_option maxHeartbeats 1600000 in
set_option maxRecDepth 100000 in
theorem shuffle_ok (v u : Value) (xs ds : List Int) (w : World) (hv : Ints w v xs) (hu : Ints w u ds) (h : deckErr xs = 0) (h2 : drawsErr xs.length ds = 0) :
    Calls Try.prog 80 #[v, u] w fun e w' => ∃ r, e = .returned (.tuple #[r, .int .i64 0]) ∧ w'.ownsRow w.heap.size 3 1 r xs.length ((shufF xs ds).map (Value.int .i64)) ∧ Ext w w' := by
  have HD := check_any v xs w hv
  rw [h] at HD
  have HD := Lib.hid HD
  obtain ⟨hl52, _⟩ := deckErr_zero h
  have HF := fits_any xs.length u ds w hu (by omega)
  rw [h2] at HF
  have HF := Lib.hid HF
  have HK := Lib.hid (clone_ints v xs w hv)
  obtain ⟨hdl, hdd⟩ := drawsErr_zero2 h2
  have HDD := Lib.hid hdd
  obtain ⟨n, hn⟩ : ∃ n, Hid (xs.length = n) := ⟨_, rfl⟩
  obtain ⟨Q, hQ⟩ : ∃ Q, Hid (shufF xs ds = Q) := ⟨_, rfl⟩
  have hQ2 : shufGo n 0 ds xs = Q := by rw [← hQ.out, shufF, hn.out]
  have HQ2 := Lib.hid hQ2
  obtain ⟨ao, c, rfl, hlen, _⟩ := hv.open
  obtain ⟨bo, cd, rfl, hlen2, hcd⟩ := hu.open
  clear hv hu h h2 hdd hQ2
  rw [hn.out] at HD HF HK hl52 hdl HDD hlen ⊢
  have hdl2 : ds.length ≤ n := by omega
  have HDL := Lib.hid hdl
  clear hdl
  rw [hQ.out]
  go_enter Try.func80, Try.ntmps80
  go_wp2_with fail
  refine HD.out.mono ?_
  rintro e w' ⟨rfl, rfl⟩
  go_wp2_with fail
  refine HF.out.mono ?_
  rintro e w' ⟨rfl, rfl⟩
  go_wp2_with fail
  refine HK.out.mono ?_
  rintro e w1 ⟨r, rfl, hO, hX⟩
  obtain ⟨ro, rc, hrr, _⟩ := (own_rowOf (enc := Value.int .i64) (xs := xs) hO (by omega)).open
  rw [hn.out] at hrr
  subst hrr
  go_wp2_with fail
  go_loopw [28] (fun i wr => ∃ (k : Nat) (l : List Int), k ≤ ds.length ∧ i = .int .i64 k ∧ Ext w wr ∧ wr.ownsRow w.heap.size 3 1 (.slice ro n rc) n (l.map (Value.int .i64)) ∧ Hid (l.length = n) ∧ Hid (shufGo n k (ds.drop k) l = Q)) (fun i _ => ds.length - (intOf i).toNat)
  case atStart => exact ⟨0, xs, Nat.zero_le _, rfl, hX, hO, hn.out, HQ2.out⟩
  case round =>
    obtain ⟨k, l, hk, rfl, HX, HO, HL, HI⟩ := hrel
    by_cases hlt : k < ds.length
    · have hkn : k + 1 < n := by have := HDL.out; omega
      obtain ⟨d, d1, d2, _⟩ := get_lt hlt
      obtain ⟨b, off, rfl, hcell0⟩ := hcd.at d1
      have hcell := HX.cell hcell0
      clear hcell0
      obtain ⟨hd0, hd1⟩ := HDD.out k d d1.out
      obtain ⟨D, rfl⟩ := Int.eq_ofNat_of_zero_le hd0
      obtain ⟨g, cap, hsl, hg1, hg2⟩ := own_open HO (by omega)
      simp only [Value.slice.injEq] at hsl
      obtain ⟨rfl, _, rfl⟩ := hsl
      obtain ⟨i, hi⟩ : ∃ i : Nat, Hid (n - 1 - k = i) := ⟨_, rfl⟩
      have hi1 : (n : Int) - 1 - (k : Int) = (i : Int) := by have := hi.out; omega
      have hin : i < n := by have := hi.out; omega
      have hDn : D < n := by omega
      obtain ⟨x, x1, _, _⟩ := get_lt (xs := l) (k := i) (by rw [HL.out]; exact hin)
      obtain ⟨y, y1, _, _⟩ := get_lt (xs := l) (k := D) (by rw [HL.out]; exact hDn)
      have c1 := own_cell HO (j := i) (x := .int .i64 x) (by simp [Hid, x1.out])
      have c2 := own_cell HO (j := D) (x := .int .i64 y) (by simp [Hid, y1.out])
      have f1 := HO.frozenAt i
      have f2 := HO.frozenAt D
      have s1 := HO.stored i (.int .i64 y)
      obtain ⟨z3, hz3, _, _⟩ := get_lt (xs := (l.map (Value.int .i64)).set i (.int .i64 y)) (k := D) (by rw [List.length_set, List.length_map, HL.out]; exact hDn)
      have c3 := own_cell s1.1 (j := D) hz3
      have s2 := s1.1.stored D (.int .i64 x)
      rw [swapI_map l i D x y x1.out y1.out] at s2
      have H2 := Lib.hid s2.1
      have HI2 := HI.out
      rw [d2.out, shufGo, hi.out] at HI2
      have HI2 := Lib.hid HI2
      clear s1 s2 hd0
      go_wp2_with fail
      clear hi1
      go_region
      all_goals go_wp2_with fail
      go_roundw
      case rel => exact ⟨k + 1, swapI l i D, by omega, by go_num, ((HX.drewN _).setCell hg1 _).setCell hg1 _, H2.out, by show _ = _; rw [swapI_len]; exact HL.out, HI2.out⟩
      case measure => simp [intOf]; omega
    · obtain ⟨h1, _⟩ := get_ge hlt
      have hlQ : l = Q := by rw [← HI.out, h1.out]; rfl
      subst hlQ
      go_wp2_with fail
      go_ret2
      exact ⟨_, rfl, HO, HX⟩
end Go.Proofs.Ytllhgkacbpgemaa
