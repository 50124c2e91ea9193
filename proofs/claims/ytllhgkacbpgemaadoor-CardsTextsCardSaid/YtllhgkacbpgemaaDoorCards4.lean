/- walks of the package cards: Cut -/
import Derived.Test.YtllhgkacbpgemaaDoorCards3
import Derived.Test.YtllhgkacbpgemaaDoorSlC
import Derived.Test.YtllhgkacbpgemaaDoorMk
import Derived.Deep.RegionWith
namespace Go.Proofs.YtllhgkacbpgemaaDoor
open Go.RowKit
set_option linter.unusedVariables false

/-- an end of a row -/
theorem CellsOf.drop {α : Type} {enc : α → Value} {w : World} {ad : Addr} {xs : List α} {c i : Nat} (h : CellsOf enc w (some ad) xs) (hc : xs.length ≤ c) (hl : xs.length ≤ 17592186044416) (hi : i ≤ xs.length) :
    RowOf enc w (.slice (some (ad.add i)) (xs.length - i) (c - i)) (xs.drop i) := by
  have hlen : ((xs.drop i).map enc).length = xs.length - i := by simp
  refine ⟨some (ad.add i), c - i, by rw [hlen], ⟨fun e => (by cases e), by rw [hlen]; omega⟩, by rw [hlen]; omega, fun _ e => (by cases e), fun j u hu => ?_⟩
  have : (xs.map enc)[i + j]? = some u := by
    simp only [List.getElem?_map, List.getElem?_drop] at hu ⊢
    exact hu
  obtain ⟨b, off, e, hcell⟩ := h (i + j) u this
  obtain rfl := Option.some.inj e
  exact ⟨b, off + i, by rw [Addr.add_lit], by rw [Nat.add_assoc]; exact hcell⟩

theorem ints_none (w : World) (ao : Option Addr) : Ints w (.slice ao 0 0) [] := ⟨ao, 0, rfl, ⟨fun _ => rfl, Nat.le_refl _⟩, by simp, fun h => absurd rfl h, Cells.nil _ _⟩

theorem rows_two {w : World} {e : TypeId} {a b : Value} {xs ys : List Int} (ha : Ints w a xs) (hb : Ints w b ys) (k : Nat) (hk : k = w.heap.size) :
    Rows (Value.int .i64) (w.alloc (.cells #[a, b] e)) (.slice (some ⟨k, 0, none⟩) 2 2) [xs, ys] := by
  refine rows_lit [a, b] [xs, ys] k hk (by simp) rfl ?_
  intro i u zs g1 g2
  match i with
  | 0 => simp at g1 g2; subst g1; subst g2; exact ha
  | 1 => simp at g1 g2; subst g1; subst g2; exact hb
  | i + 2 => simp at g1

set_option maxHeartbeats 800000 in
set_option maxRecDepth 100000 in
theorem cut_err1 (v : Value) (xs : List Int) (k : Int) (w : World) (hv : Ints w v xs) (h : deckErr xs ≠ 0) :
    Calls Tryd.prog 18 #[v, .int .i64 k] w fun e w' => e = .returned (.tuple #[.slice none 0 0, .int .i64 (deckErr xs)]) ∧ w = w' := by
  have HC := Lib.hid (check_any v xs w hv)
  have hb : (deckErr xs != 0) = true := by simp [h]
  clear hv h
  generalize deckErr xs = q at *
  go_enter Tryd.func18, Tryd.ntmps18
  go_wp2_with fail
  refine HC.out.mono ?_
  rintro e w1 ⟨rfl, rfl⟩
  go_wp2_with fail
  go_ret2
  exact ⟨rfl, rfl⟩

set_option maxHeartbeats 800000 in
set_option maxRecDepth 100000 in
theorem cut_err2 (v : Value) (xs : List Int) (k : Int) (w : World) (hv : Ints w v xs) (h : deckErr xs = 0) (hk : k < 0 ∨ (xs.length : Int) < k) :
    Calls Tryd.prog 18 #[v, .int .i64 k] w fun e w' => e = .returned (.tuple #[.slice none 0 0, .int .i64 4]) ∧ w = w' := by
  have HC := check_any v xs w hv
  rw [h] at HC
  have HC := Lib.hid HC
  obtain ⟨ao, c, rfl, hlen, _⟩ := hv.open
  clear hv h
  have hk' : k < 0 ∨ (0 ≤ k ∧ (xs.length : Int) < k) := by omega
  clear hk
  rcases hk' with hk | ⟨hk0, hk⟩
  all_goals
    go_enter Tryd.func18, Tryd.ntmps18
    go_wp2_with fail
    refine HC.out.mono ?_
    rintro e w1 ⟨rfl, rfl⟩
    go_wp2_with fail
    go_ret2
    exact ⟨rfl, rfl⟩

theorem lsum_cut (xs : List Int) (K : Nat) : lsum [xs.drop K, xs.take K] = xs.length := by
  simp [lsum]; omega

set_option maxHeartbeats 1600000 in
set_option maxRecDepth 100000 in
theorem cut_ok (v : Value) (xs : List Int) (K : Nat) (w : World) (hv : Ints w v xs) (h : deckErr xs = 0) (hK : K ≤ xs.length) :
    Calls Tryd.prog 18 #[v, .int .i64 K] w fun e w' => ∃ u, e = .returned (.tuple #[u, .int .i64 0]) ∧ w'.ownsRow w.heap.size 3 1 u xs.length ((xs.drop K ++ xs.take K).map (Value.int .i64)) ∧ Ext w w' := by
  have HC := check_any v xs w hv
  rw [h] at HC
  have HC := Lib.hid HC
  obtain ⟨ao, c, rfl, hlen, hlc, hn, hc⟩ := hv.open'
  have hfl : [xs.drop K, xs.take K].flatten = xs.drop K ++ xs.take K := by simp
  have HT := Lib.hid (hc.take hn hlc hlen hK)
  have HK := Lib.hid (fun (W : World) (v : Value) (hW : Rows (Value.int .i64) W v [xs.drop K, xs.take K]) => concat_ints v _ W hW (by rw [lsum_cut]; exact hlen))
  have hKB : decide (xs.length < K) = false := by simp; omega
  have HFL := Lib.hid hfl
  clear h hv hfl
  have hKi : (K : Int) ≤ xs.length := by omega
  by_cases hKc : K < c
  · cases ao with
    | none => have := hn rfl; omega
    | some ad =>
      have HD := Lib.hid (hc.drop (i := K) hlc hlen hK)
      clear hc
      go_enter Tryd.func18, Tryd.ntmps18
      go_wp2_with fail
      refine HC.out.mono ?_
      rintro e w1 ⟨rfl, rfl⟩
      go_wp2_with fail
      go_region_with (go_at_call 20; refine (HK.out _ _ (by exact (rows_two HD.out HT.out _ rfl).ext (Ext.refl _).drew)).mono ?_; rintro e w2 ⟨u, rfl, hO, hx⟩)
      all_goals
        go_wp2_with fail
        go_ret2
        exact ⟨_, rfl, by rw [HFL.out, lsum_cut] at hO; exact own_mono hO (by simp), ((Ext.refl w).alloc _).drew.trans hx⟩
  · have hcx : c = K := by omega
    subst hcx
    have HD : Hid (Ints w (.slice ao 0 0) (xs.drop c)) := by rw [List.drop_eq_nil_of_le (by omega)]; exact ints_none w ao
    clear hc
    go_enter Tryd.func18, Tryd.ntmps18
    go_wp2_with fail
    refine HC.out.mono ?_
    rintro e w1 ⟨rfl, rfl⟩
    go_wp2_with fail
    go_region_with (go_at_call 20; refine (HK.out _ _ (by exact (rows_two HD.out HT.out _ rfl).ext (Ext.refl _).drew)).mono ?_; rintro e w2 ⟨u, rfl, hO, hx⟩)
    all_goals
      go_wp2_with fail
      go_ret2
      exact ⟨_, rfl, by rw [HFL.out, lsum_cut] at hO; exact own_mono hO (by simp), ((Ext.refl w).alloc _).drew.trans hx⟩
end Go.Proofs.YtllhgkacbpgemaaDoor
