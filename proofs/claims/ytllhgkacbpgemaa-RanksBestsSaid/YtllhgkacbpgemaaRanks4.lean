/- walks of what sorts ranks: cmp.Compare, cmp.Or, the comparison of order, slices.insertionSortCmpFunc, slices.SortFunc of few elements -/
import Derived.Test.YtllhgkacbpgemaaRanks1
import Derived.Test.YtllhgkacbpgemaaShelf
import Derived.Deep.RegionHeld3
import Derived.RegionTactic
namespace Go.Proofs.Ytllhgkacbpgemaa
open Go.RowKit
set_option linter.unusedVariables false

def cmpI (a b : Int) : Int := if a < b then -1 else if b < a then 1 else 0
def orF : List Int → Int
  | [] => 0
  | x :: l => if x = 0 then orF l else x

theorem isNaN_any (x : Int) (w : World) : Calls Try.prog 86 #[.int .i64 x] w fun e w' => e = .returned (.bool false) ∧ w = w' := by
  go_enter Try.func86, Try.ntmps86
  go_wp2_with fail
  go_ret
  exact ⟨rfl, rfl⟩

set_option maxRecDepth 100000 in
theorem compare_any (a b : Int) (w : World) : Calls Try.prog 72 #[.int .i64 a, .int .i64 b] w fun e w' => e = .returned (.int .i64 (cmpI a b)) ∧ w = w' := by
  have hc : a < b ∨ (¬ a < b ∧ b < a) ∨ (¬ a < b ∧ ¬ b < a) := by omega
  rcases hc with h1 | ⟨h1, h2⟩ | ⟨h1, h2⟩
  · have hq : cmpI a b = -1 := by rw [cmpI, if_pos h1]
    rw [hq]
    go_enter Try.func72, Try.ntmps72
    go_wp2_with (go_at_call 86; refine (isNaN_any _ _).mono ?_; rintro e w' ⟨rfl, rfl⟩)
    go_ret
    exact ⟨rfl, rfl⟩
  · have hq : cmpI a b = 1 := by rw [cmpI, if_neg h1, if_pos h2]
    rw [hq]
    go_enter Try.func72, Try.ntmps72
    go_wp2_with (go_at_call 86; refine (isNaN_any _ _).mono ?_; rintro e w' ⟨rfl, rfl⟩)
    go_ret
    exact ⟨rfl, rfl⟩
  · have hq : cmpI a b = 0 := by rw [cmpI, if_neg h1, if_neg h2]
    rw [hq]
    go_enter Try.func72, Try.ntmps72
    go_wp2_with (go_at_call 86; refine (isNaN_any _ _).mono ?_; rintro e w' ⟨rfl, rfl⟩)
    go_ret
    exact ⟨rfl, rfl⟩

set_option maxRecDepth 100000 in
theorem cmpOr_any (v : Value) (xs : List Int) (w : World) (hv : Ints w v xs) : Calls Try.prog 91 #[v] w fun e w' => e = .returned (.int .i64 (orF xs)) ∧ w = w' := by
  obtain ⟨q, hq⟩ : ∃ q, Hid (orF xs = q) := ⟨_, rfl⟩
  obtain ⟨ao, c, rfl, hlen, hc⟩ := hv.open
  have HCC := Lib.hid hc
  clear hv hc
  rw [hq.out]
  go_enter Try.func91, Try.ntmps91
  go_wp2_with fail
  go_loop [8] (fun i => ∃ (k : Nat), k ≤ xs.length ∧ i = .int .i64 k ∧ Hid (orF (xs.drop k) = q)) (fun i => xs.length - (intOf i).toNat)
  case atStart => exact ⟨0, Nat.zero_le _, rfl, hq⟩
  case round =>
    obtain ⟨k, hk, rfl, HI⟩ := hrel
    by_cases hlt : k < xs.length
    · obtain ⟨x, x1, x2, _⟩ := get_lt hlt
      obtain ⟨b, off, rfl, hcell⟩ := HCC.out.at x1
      have hI2 := HI.out
      rw [x2.out, orF] at hI2
      by_cases hx : x = 0
      · rw [if_pos hx] at hI2
        subst hx
        have HI2 := Lib.hid hI2
        clear hI2
        go_wp2_with fail
        go_round
        case rel => exact ⟨k + 1, by omega, by go_num, HI2⟩
        case measure => simp [intOf]; omega
      · rw [if_neg hx] at hI2
        subst hI2
        have hb : (x != 0) = true := by simp [hx]
        clear hx
        go_wp2_with fail
        go_ret
        exact ⟨rfl, rfl⟩
    · obtain ⟨h1, _⟩ := get_ge hlt
      have hq2 : q = 0 := by rw [← HI.out, h1.out]; rfl
      subst hq2
      go_wp2_with fail
      go_ret
      exact ⟨rfl, rfl⟩

/-- the cells of an array of counts -/
def Cnt (W : World) (g : Nat) (c : Nat → Nat) : Prop := ∀ r, r < 13 → W.cell? ⟨g, r, none⟩ = some (.int .i64 (c r))
theorem Cnt.ext {W W' : World} {g : Nat} {c : Nat → Nat} (h : Cnt W g c) (he : Ext W W') : Cnt W' g c := fun r hr => he.cell (h r hr)
theorem Cnt.setCell {W : World} {g : Nat} {c : Nat → Nat} (h : Cnt W g c) {p : Addr} (hp : p.block ≠ g) (u : Value) : Cnt (W.setCell p u) g c :=
  fun r hr => by
    rw [World.cell?_setCell_other]
    · exact h r hr
    · intro e; exact hp (by rw [e])

/-- the comparison of ranks: the more frequent and higher ones first -/
def cfR (c : Nat → Nat) (x y : Nat) : Int := orF [cmpI (c y) (c x), cmpI y x]

set_option maxHeartbeats 800000 in
set_option maxRecDepth 100000 in
theorem orderCmp_any (c : Nat → Nat) (g x y : Nat) (W : World) (hx : x < 13) (hy : y < 13) (hc : Cnt W g c) :
    Calls Try.prog 90 #[.int .i64 x, .int .i64 y, .pointer (some ⟨g, 0, none⟩)] W fun e W' => e = .returned (.int .i64 (cfR c x y)) ∧ Ext W W' := by
  have c1 := hc x hx
  have c2 := hc y hy
  have HO := Lib.hid (fun (W' : World) (v : Value) (h : Ints W' v [cmpI (c y) (c x), cmpI y x]) => cmpOr_any v _ W' h)
  obtain ⟨q, hq⟩ : ∃ q, cfR c x y = q := ⟨_, rfl⟩
  have hq2 : orF [cmpI (c y) (c x), cmpI y x] = q := hq
  rw [hq2] at HO
  rw [hq]
  have hxi : (0 : Int) ≤ (x : Int) := by omega
  have hyi : (0 : Int) ≤ (y : Int) := by omega
  have hxj : (x : Int) < 13 := by omega
  have hyj : (y : Int) < 13 := by omega
  clear hc hq hq2
  go_enter Try.func90, Try.ntmps90
  go_wp2_with fail
  go_region_held3 (fun w' => w'.cell? ⟨g, y, none⟩ = some (.int .i64 (c y)) ∧ w'.cell? ⟨g, x, none⟩ = some (.int .i64 (c x))) (first | exact ⟨c2, c1⟩ | go_keep) (first
    | (go_at_call 72; refine (compare_any _ _ _).mono ?_; rintro e w' ⟨rfl, rfl⟩)
    | (go_at_call 91; refine (HO.out _ _ (by exact lit_ints_at _ _ [cmpI (c y) (c x), cmpI y x] (by simp) _ rfl)).mono ?_; rintro e w' ⟨rfl, rfl⟩))
  all_goals
    go_wp2_with fail
    go_ret
    exact ⟨rfl, (Ext.refl W).drew.alloc _⟩
end Go.Proofs.Ytllhgkacbpgemaa
