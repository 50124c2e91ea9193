/- walks of the package cards: Text -/
import Derived.Test.YtllhgkacbpgemaaDoorCards8
import Derived.IntWalk
namespace Go.Proofs.YtllhgkacbpgemaaDoor
open Go.RowKit
set_option linter.unusedVariables false

/-- the text of a deck -/
def cardTs (xs : List Int) : List ByteArray := xs.map fun x => cardT x.toNat
def spaceT : ByteArray := ⟨#[32]⟩

set_option maxHeartbeats 800000 in
set_option maxRecDepth 100000 in
theorem text_err (v : Value) (xs : List Int) (w : World) (hv : Ints w v xs) (h : deckErr xs ≠ 0) :
    Calls Tryd.prog 21 #[v] w fun e w' => e = .returned (.tuple #[.string ⟨#[]⟩, .int .i64 (deckErr xs)]) ∧ w = w' := by
  have HC := Lib.hid (check_any v xs w hv)
  have hb : (deckErr xs != 0) = true := by simp [h]
  clear hv h
  generalize deckErr xs = q at *
  go_enter Tryd.func21, Tryd.ntmps21
  go_wp2_with fail
  refine HC.out.mono ?_
  rintro e w1 ⟨rfl, rfl⟩
  go_wp2_with fail
  go_ret2
  exact ⟨rfl, rfl⟩

theorem cardTs_two {xs : List Int} (h : ∀ x ∈ xs, 0 ≤ x ∧ x ≤ 51) : ∀ t ∈ cardTs xs, t.size = 2 := by
  intro t ht
  obtain ⟨x, hx, rfl⟩ := List.mem_map.1 ht
  have := h x hx
  exact cardT_size ⟨x.toNat, by omega⟩

set_option maxHeartbeats 1600000 in
set_option maxRecDepth 100000 in
theorem text_ok (v : Value) (xs : List Int) (w : World) (hv : Ints w v xs) (h : deckErr xs = 0) :
    Calls Tryd.prog 21 #[v] w fun e w' => e = .returned (.tuple #[.string (joinT (cardTs xs) spaceT), .int .i64 0]) ∧ Ext w w' := by
  obtain ⟨h52, hrg, _⟩ := deckErr_zero h
  have HC := check_any v xs w hv
  rw [h] at HC
  have HC := Lib.hid HC
  have HJ := Lib.hid (fun (W : World) (u : Value) (hW : Strs W u (cardTs xs)) => join_any u (cardTs xs) spaceT W hW (joinT_small _ _ (cardTs_two hrg) (by simp [cardTs]; omega) rfl))
  obtain ⟨J, hJ⟩ : ∃ J, joinT (cardTs xs) spaceT = J := ⟨_, rfl⟩
  rw [hJ] at HJ ⊢
  have HRG := Lib.hid hrg
  obtain ⟨ao, c, rfl, hlen, hc⟩ := hv.open
  have HCC := Lib.hid hc
  clear hv h hrg hc hJ
  go_enter Tryd.func21, Tryd.ntmps21
  go_wp2_with fail
  refine HC.out.mono ?_
  rintro e w1 ⟨rfl, rfl⟩
  go_wp2_with fail
  go_loopw [5, 15] (fun u i wr => ∃ (k : Nat), k ≤ xs.length ∧ i = .int .i64 k ∧ Ext w wr ∧ wr.ownsRow w.heap.size 9 1 u k ((cardTs (xs.take k)).map Value.string)) (fun _ i _ => xs.length - (intOf i).toNat)
  case atStart => exact ⟨0, Nat.zero_le _, rfl, Ext.refl _, World.ownsRow_nil _ _ _ _⟩
  case round =>
    obtain ⟨k, hk, rfl, HX, HO⟩ := hrel
    have hsz := HX.size
    by_cases hlt : k < xs.length
    · obtain ⟨x, x1, _, x3⟩ := get_lt hlt
      obtain ⟨b, off, rfl, hcell0⟩ := HCC.out.at x1
      have hcell := HX.cell hcell0
      clear hcell0
      obtain ⟨hx0, hx51⟩ := HRG.out x (List.mem_of_getElem? x1.out)
      obtain ⟨cc, rfl⟩ := Int.eq_ofNat_of_zero_le hx0
      obtain ⟨r, hr⟩ : ∃ r : Nat, Hid (cc % 13 = r) := ⟨_, rfl⟩
      obtain ⟨s, hs⟩ : ∃ s : Nat, Hid (cc / 13 = s) := ⟨_, rfl⟩
      have hr2 : (cc : Int).tmod 13 = r := by rw [Int.tmod_eq_emod_of_nonneg (by omega)]; have := hr.out; omega
      have hs2 : (cc : Int).tdiv 13 = s := by rw [Int.tdiv_eq_ediv_of_nonneg (by omega)]; have := hs.out; omega
      have hr3 : r ≤ 12 := by have := hr.out; omega
      have hs3 : s ≤ 3 := by have := hs.out; omega
      obtain ⟨q, hq⟩ : ∃ q, Hid (cardT cc = q) := ⟨_, rfl⟩
      have hq2 : (⟨#[50, 51, 52, 53, 54, 55, 56, 57, 84, 74, 81, 75, 65]⟩ : ByteArray).extract r (r + 1) ++ (⟨#[67, 68, 72, 83]⟩ : ByteArray).extract s (s + 1) = q := by
        rw [← hr.out, ← hs.out]; exact hq.out
      have htk : Hid ((cardTs (xs.take (k + 1))).map Value.string = (cardTs (xs.take k)).map Value.string ++ [.string q]) := by
        rw [x3.out]; simp [Hid, cardTs, hq.out]
      have HOU := Lib.hid HO
      clear HO
      have hA : k + 1 ≤ 17592186044416 := by omega
      have hB : (k + 1) * 16 ≤ 140737488355328 := by omega
      have hC : ∀ o, w.heap.size ≤ ((wr.alloc o).drew).heap.size := fun o => by simp; omega
      have hC := Lib.hid hC
      go_wp2_with fail
      have e1 : IntKind.i64.wrap ((r : Int) + 1) = (r : Int) + 1 := IntWalk.i64_in _ (by omega)
      have e2 : IntKind.i64.wrap ((s : Int) + 1) = (s : Int) + 1 := IntWalk.i64_in _ (by omega)
      have e3 : (0 : Int) ≤ (r : Int) + 1 := by omega
      have e4 : (0 : Int) ≤ (s : Int) + 1 := by omega
      have e5 : ((r : Int) + 1).toNat = r + 1 := by omega
      have e6 : ((s : Int) + 1).toNat = s + 1 := by omega
      have e7 : (r : Int) + 1 ≤ 13 := by omega
      have e8 : (r : Int) ≤ (r : Int) + 1 := by omega
      have e9 : IntKind.i64.wrap (s : Int) = (s : Int) := IntWalk.i64_in _ (by omega)
      have e10 : (s : Int) + 1 ≤ 4 := by omega
      have e11 : (s : Int) ≤ (s : Int) + 1 := by omega
      have e12 : IntKind.i64.wrap (r : Int) = (r : Int) := IntWalk.i64_in _ (by omega)
      go_region_law (first | (refine step_app (v := u5) rfl rfl ei_strs rfl (own_ext HOU.out ((Ext.refl wr).drew.alloc _)) rfl (src_new _ _ _ rfl) hA hB (hC.out _) ?_; intro v' w' hown hgrew))
      all_goals
        clear e1 e2 e3 e4 e5 e6 e7 e8 e9 e10 e11 e12
        go_wp2_with fail
        go_roundw
        case rel => exact ⟨k + 1, by omega, by go_num, hgrew.extNew ((HX.alloc _).drew) (own_ext HOU.out ((Ext.refl wr).alloc _).drew) (Nat.le_refl _), by rw [htk.out]; exact hown⟩
        case measure => simp [intOf]; omega
    · obtain ⟨_, h1⟩ := get_ge hlt
      have hkl : k = xs.length := by omega
      subst hkl
      have HS := Lib.hid (own_rowOf (xs := cardTs xs) (by rw [h1.out] at HO; exact HO) (by omega))
      clear HO
      go_wp2_with fail
      refine (HJ.out _ _ HS.out).mono ?_
      rintro e w2 ⟨rfl, hx⟩
      go_wp2_with fail
      go_ret2
      exact ⟨rfl, HX.trans hx⟩
end Go.Proofs.YtllhgkacbpgemaaDoor
