/- walks shared by the laws: slices at ints, small helpers -/
import Derived.Test.YtnmcljjfepngeaaRows
import Derived.Test.YtnmcljjfepngeaaLibB
import Derived.Deep.QuietTactic
import Derived.BigQuiet
import Derived.RegionTactic
import Derived.ChangeAlike
namespace Go.Proofs.Ytnmcljjfepngeaa
open Go.RowKit

/-- index of the first one, from a place on -/
def idxF {α : Type} (p : α → Bool) : List α → Int → Int
  | [], _ => -1
  | x :: xs, k => if p x then k else idxF p xs (k + 1)

theorem idxF_ge {α : Type} (p : α → Bool) (xs : List α) : ∀ k, 0 ≤ k → ((0 ≤ idxF p xs k) ↔ xs.any p = true) := by
  induction xs with
  | nil => intro k _; simp [idxF]
  | cons x xs ih =>
    intro k hk
    cases h : p x
    · simp [idxF, h, ih (k + 1) (by omega)]
    · simp [idxF, h, hk]

/-- is a number in a range? -/
def inB (n lo hi : Int) : Bool := decide (lo ≤ n) && decide (n ≤ hi)

theorem info_int : (Try.prog.info? 3).map (fun i => (i.zero, i.size, i.bytes)) = some (some (.int .i64 0), 1, 8) := by kernel_rfl
theorem ei_ints : EI Try.prog 48 3 (.int .i64 0) 1 8 := ⟨Try.underlying48, info_parts info_int, rfl, by decide⟩

/-! ### slices.Clone, Equal -/
/-- a slice literal reads -/
theorem lit_ints (w : World) (e : TypeId) (xs : List Int) (h : xs.length ≤ 17592186044416) :
    Ints (w.alloc (.cells (xs.map (Value.int .i64)).toArray e)) (.slice (some ⟨w.heap.size, 0, none⟩) xs.length xs.length) xs := by
  have := World.ownsRow_lit (base := w.heap.size) (e := e) (size := 1) w (xs.map (Value.int .i64)).toArray xs.length (Nat.le_refl _) (by unfold maxLen; omega) (by simp)
  exact own_rowOf this h


theorem lit_ints_at (w : World) (e : TypeId) (xs : List Int) (h : xs.length ≤ 17592186044416) (k : Nat) (hk : k = w.heap.size) :
    Ints (w.alloc (.cells (xs.map (Value.int .i64)).toArray e)) (.slice (some ⟨k, 0, none⟩) xs.length xs.length) xs := by
  subst hk; exact lit_ints w e xs h


set_option maxHeartbeats 400000 in
set_option maxRecDepth 100000 in
theorem indexFunc_errs (v : Value) (us : List Value) (ps : List Bool) (g : Nat) (caps : Array Value) (w : World) (hv : Row w v us) (hl : ps.length = us.length)
    (eg : ∀ args w, (callFunc g args).run Try.prog w = .ok (.enter g args) w)
    (hp : ∀ (i : Nat) (u : Value) (q : Bool) (W : World), us[i]? = some u → ps[i]? = some q → Ext w W → Calls Try.prog g (#[u] ++ caps) W fun e W' => e = .returned (.bool q) ∧ Ext W W') :
    Calls Try.prog 18 #[v, .func (.func g) #[] caps] w fun e w' => e = .returned (.int .i64 (idxF id ps 0)) ∧ Ext w w' := by
  obtain ⟨ao, c, rfl, _, hlen, _, hc⟩ := hv
  have HP := Lib.hid hp; have HL := Lib.hid hl; have HC := Lib.hid hc
  clear hp hl hc
  go_enter Try.func18, Try.ntmps18
  go_wp2_with fail
  go_loopw [8] (fun i wr => ∃ k : Nat, k ≤ us.length ∧ i = .int .i64 k ∧ Ext w wr ∧ Hid (idxF id (ps.drop k) k = idxF id ps 0)) (fun i _ => us.length - (intOf i).toNat)
  case atStart => exact ⟨0, Nat.zero_le _, rfl, Ext.refl _, rfl⟩
  case round =>
    obtain ⟨k, hk, rfl, HX, HI⟩ := hrel
    by_cases hlt : k < us.length
    · obtain ⟨x, h1, _, _⟩ := get_lt hlt
      obtain ⟨q, hq1, hq2, _⟩ := get_lt (xs := ps) (k := k) (by rw [HL.out]; exact hlt)
      obtain ⟨b, off, rfl, hc0⟩ := HC.out k x h1.out
      have hcell := HX.cell hc0
      have hcall := HP.out k x q wr h1.out hq1.out HX
      clear hc0
      have HH := Lib.hid hcall; clear hcall
      cases q
      all_goals
        go_wp2_with fail
        refine HH.out.mono ?_
        rintro e w' ⟨rfl, HB⟩
        go_wp2_with fail
      · go_roundw
        case rel => exact ⟨k + 1, by omega, by go_num, HX.trans HB, by rw [← HI.out, hq2.out]; simp [Hid, idxF]⟩
        case measure => simp [intOf]; omega
      · go_ret
        exact ⟨ret_int (by rw [← HI.out, hq2.out]; simp [idxF]), HX.trans HB⟩
    · obtain ⟨h1, _⟩ := get_ge (xs := ps) (k := k) (by rw [HL.out]; exact hlt)
      go_wp2_with fail
      go_ret
      exact ⟨ret_int (by rw [← HI.out, h1.out]; rfl), HX⟩

set_option maxHeartbeats 400000 in
set_option maxRecDepth 100000 in
theorem containsFunc_errs (v : Value) (us : List Value) (ps : List Bool) (g : Nat) (caps : Array Value) (w : World) (hv : Row w v us) (hl : ps.length = us.length)
    (eg : ∀ args w, (callFunc g args).run Try.prog w = .ok (.enter g args) w)
    (hp : ∀ (i : Nat) (u : Value) (q : Bool) (W : World), us[i]? = some u → ps[i]? = some q → Ext w W → Calls Try.prog g (#[u] ++ caps) W fun e W' => e = .returned (.bool q) ∧ Ext W W')
    (q : Bool) (hq : Hid (ps.any id = q)) :
    Calls Try.prog 13 #[v, .func (.func g) #[] caps] w fun e w' => e = .returned (.bool q) ∧ Ext w w' := by
  obtain ⟨i, hi⟩ : ∃ i, Hid (idxF id ps 0 = i) := ⟨_, rfl⟩
  have hge := idxF_ge id ps 0 (Int.le_refl _)
  rw [hi.out, hq.out] at hge
  have HC := indexFunc_errs v us ps g caps w hv hl eg hp
  rw [hi.out] at HC
  have hge2 := Lib.hid hge; clear hge
  have HD := Lib.hid HC; clear HC hp hl
  go_enter Try.func13, Try.ntmps13
  go_wp2_with fail
  refine HD.out.mono ?_
  rintro e w' ⟨rfl, hx⟩
  go_wp2_with fail
  go_ret
  exact ⟨ret_bool (by have := hge2.out; cases q <;> simp at this <;> simp <;> omega), hx⟩

/-! ### slices.Index, Contains, Place at ints -/
def idxI (x : Int) : List Int → Int → Int
  | [], _ => -1
  | y :: ys, k => if y = x then k else idxI x ys (k + 1)

theorem idxI_ge (x : Int) (ys : List Int) : ∀ k, 0 ≤ k → ((0 ≤ idxI x ys k) ↔ x ∈ ys) := by
  induction ys with
  | nil => intro k _; simp [idxI]
  | cons y ys ih =>
    intro k hk
    by_cases h : y = x
    · subst h; simp [idxI, hk]
    · have h2 : ¬ x = y := fun e => h e.symm
      simp [idxI, h, h2, ih (k + 1) (by omega)]

theorem idxI_lo (x : Int) (ys : List Int) : ∀ k, 0 ≤ k → -1 ≤ idxI x ys k := by
  induction ys with
  | nil => intro k _; simp [idxI]
  | cons y ys ih =>
    intro k hk
    simp only [idxI]
    split
    · omega
    · exact ih (k + 1) (by omega)

end Go.Proofs.Ytnmcljjfepngeaa
