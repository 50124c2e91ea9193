/- walks of the package index: the checks -/
import Derived.Test.YtllhgkacbpgemaaRows
import Derived.Test.YtllhgkacbpgemaaLib
namespace Go.Proofs.Ytllhgkacbpgemaa
open Go.RowKit

/-! ### slices.IndexFunc, ContainsFunc over ints -/
/-- what is asked of a closure: at every int, in every later world -/
def PredI (w : World) (g : Nat) (caps : Array Value) (p : Int → Bool) : Prop :=
  ∀ (x : Int) (W : World), Ext w W → Calls Try.prog g (#[.int .i64 x] ++ caps) W fun e W' => e = .returned (.bool (p x)) ∧ Ext W W'

/-- index of the first one, from a place on -/
def idxF {α : Type} (p : α → Bool) : List α → Int → Int
  | [], _ => -1
  | x :: xs, k => if p x then k else idxF p xs (k + 1)

theorem idxF_ge {α : Type} (p : α → Bool) (xs : List α) : ∀ k, 0 ≤ k → ((0 ≤ idxF p xs k) ↔ xs.any p = true) := by
  induction xs with
  | nil => intro k _; simp [idxF]
  | cons x xs ih =>
    intro k hk
    cases h : p x
    · simp [idxF, h, ih (k + 1) (by omega)]
    · simp [idxF, h, hk]

theorem PredI.any {w W : World} {g : Nat} {caps : Array Value} {p : Int → Bool} (h : PredI w g caps p) (he : Ext w W) (x : Int) (b : Bool) (hb : Hid (p x = b)) :
    Calls Try.prog g (#[.int .i64 x] ++ caps) W fun e W' => e = .returned (.bool b) ∧ Ext W W' := by
  rw [← hb.out]; exact h x W he

set_option maxHeartbeats 400000 in
set_option maxRecDepth 100000 in
theorem indexFunc_ints (v : Value) (xs : List Int) (g : Nat) (p : Int → Bool) (w : World) (hv : Ints w v xs) (eg : ∀ args w, (callFunc g args).run Try.prog w = .ok (.enter g args) w) (hp : PredI w g #[] p) :
    Calls Try.prog 75 #[v, .func (.func g) #[] #[]] w fun e w' => e = .returned (.int .i64 (idxF p xs 0)) ∧ Ext w w' := by
  obtain ⟨ao, c, rfl, hlen, hc⟩ := hv.open
  clear hv
  go_enter Try.func75, Try.ntmps75
  go_wp2_with fail
  go_loopw [8] (fun i wr => ∃ k : Nat, k ≤ xs.length ∧ i = .int .i64 k ∧ Ext w wr ∧ Hid (idxF p (xs.drop k) k = idxF p xs 0)) (fun i _ => xs.length - (intOf i).toNat)
  case atStart => exact ⟨0, Nat.zero_le _, rfl, Ext.refl _, rfl⟩
  case round =>
    obtain ⟨k, hk, rfl, HX, HI⟩ := hrel
    by_cases hlt : k < xs.length
    · obtain ⟨x, h1, h2, h3⟩ := get_lt hlt
      obtain ⟨b, off, rfl, _⟩ := hc.at h1
      have hcell := (hc.ext HX).at' h1
      obtain ⟨q, hq⟩ : ∃ q, Hid (p x = q) := ⟨_, rfl⟩
      cases q
      all_goals
        go_wp2_with fail
        refine (hp.any HX x _ hq).mono ?_
        rintro e w' ⟨rfl, HB⟩
        go_wp2_with fail
      · go_roundw
        case rel => exact ⟨k + 1, by omega, by go_num, HX.trans HB, by rw [← HI.out, h2.out]; simp [Hid, idxF, hq.out]⟩
        case measure => simp [intOf]; omega
      · go_ret
        exact ⟨ret_int (by rw [← HI.out, h2.out]; simp [idxF, hq.out]), HX.trans HB⟩
    · obtain ⟨h1, _⟩ := get_ge hlt
      go_wp2_with fail
      go_ret
      exact ⟨ret_int (by rw [← HI.out, h1.out]; rfl), HX⟩

set_option maxHeartbeats 400000 in
theorem containsFunc_ints (v : Value) (xs : List Int) (g : Nat) (p : Int → Bool) (w : World) (hv : Ints w v xs) (eg : ∀ args w, (callFunc g args).run Try.prog w = .ok (.enter g args) w) (hp : PredI w g #[] p)
    (q : Bool) (hq : Hid (xs.any p = q)) :
    Calls Try.prog 51 #[v, .func (.func g) #[] #[]] w fun e w' => e = .returned (.bool q) ∧ Ext w w' := by
  obtain ⟨i, hi⟩ : ∃ i, Hid (idxF p xs 0 = i) := ⟨_, rfl⟩
  have hge := idxF_ge p xs 0 (Int.le_refl _)
  rw [hi.out, hq.out] at hge
  have HC := indexFunc_ints v xs g p w hv eg hp
  rw [hi.out] at HC
  have hge2 := Lib.hid hge; clear hge
  have HD := Lib.hid HC; clear HC
  go_enter Try.func51, Try.ntmps51
  go_wp2_with fail
  refine HD.out.mono ?_
  rintro e w' ⟨rfl, hx⟩
  go_wp2_with fail
  go_ret
  exact ⟨ret_bool (by have := hge2.out; cases q <;> simp at this <;> simp <;> omega), hx⟩

/-! ### Check, CellsError -/
/-- is a number in a range? -/
def inB (n lo hi : Int) : Bool := decide (lo ≤ n) && decide (n ≤ hi)

set_option maxHeartbeats 400000 in
theorem in_any (n lo hi : Int) (b : Bool) (hb : Hid (inB n lo hi = b)) (w : World) :
    Calls Try.prog 50 #[.int .i64 n, .int .i64 lo, .int .i64 hi] w fun e w' => e = .returned (.bool b) ∧ w = w' := by
  by_cases h1 : lo ≤ n
  · by_cases h2 : n ≤ hi
    all_goals
      have : inB n lo hi = decide (n ≤ hi) := by simp [inB, h1]
      go_enter Try.func50, Try.ntmps50
      go_wp2_with fail
      go_ret
      exact ⟨ret_bool (by rw [← hb.out]; simp [inB, h1, h2]), rfl⟩
  · go_enter Try.func50, Try.ntmps50
    go_wp2_with fail
    go_ret
    exact ⟨ret_bool (by (rw [← hb.out]; have h2 : decide (lo ≤ n) = false := (by simp; omega); simp [inB, h2])), rfl⟩

/-- P270 -/
def cellsErr (xs : List Int) : Int := if 16 < xs.length then 2 else if xs.any (fun c => !inB c 0 6) then 4 else 0

set_option maxHeartbeats 400000 in
theorem check1_any (w : World) : PredI w 52 #[] (fun c => !inB c 0 6) := by
  intro x W _
  show Calls Try.prog 52 #[.int .i64 x] W _
  by_cases h1 : x < 0
  · go_enter Try.func52, Try.ntmps52
    go_wp2_with fail
    go_ret
    exact ⟨ret_bool (by simp [inB]; omega), Ext.refl _⟩
  · by_cases h2 : 6 < x
    all_goals
      go_enter Try.func52, Try.ntmps52
      go_wp2_with fail
      go_ret
      exact ⟨ret_bool (by simp [inB]; omega), Ext.refl _⟩

set_option maxHeartbeats 400000 in
theorem check_any (v : Value) (xs : List Int) (w : World) (hv : Ints w v xs) :
    Calls Try.prog 15 #[v] w fun e w' => e = .returned (.int .i64 (cellsErr xs)) ∧ Ext w w' := by
  obtain ⟨q, hq⟩ : ∃ q, Hid (xs.any (fun c => !inB c 0 6) = q) := ⟨_, rfl⟩
  obtain ⟨ao, c, rfl, hlen, hc⟩ := hv.open
  by_cases h16 : 16 < xs.length
  · go_enter Try.func15, Try.ntmps15
    go_wp2_with fail
    go_ret
    exact ⟨ret_int (by simp [cellsErr, h16]), Ext.refl _⟩
  · have HD := Lib.hid (containsFunc_ints _ xs 52 _ w hv (fun _ _ => by kernel_rfl) (check1_any w) q hq)
    go_enter Try.func15, Try.ntmps15
    go_wp2_with fail
    refine HD.out.mono ?_
    rintro e w' ⟨rfl, hx⟩
    cases q
    all_goals
      go_wp2_with fail
      go_ret
      exact ⟨ret_int (by simp only [cellsErr, h16, hq.out]; rfl), hx⟩

set_option maxHeartbeats 400000 in
set_option maxRecDepth 100000 in
theorem cellsError_any (v : Value) (xs : List Int) (w : World) (hv : Ints w v xs) :
    Calls Try.prog 13 #[v] w fun e w' => e = .returned (.int .i64 (cellsErr xs)) ∧ Ext w w' := by
  obtain ⟨ao, c, rfl, hlen, hc⟩ := hv.open
  clear hv
  by_cases h16 : 16 < xs.length
  · go_enter Try.func13, Try.ntmps13
    go_wp2_with fail
    go_ret
    exact ⟨ret_int (by simp [cellsErr, h16]), Ext.refl _⟩
  · go_enter Try.func13, Try.ntmps13
    go_wp2_with fail
    go_loopw [10] (fun i wr => ∃ k : Nat, k ≤ xs.length ∧ i = .int .i64 k ∧ Ext w wr ∧ Hid ((xs.take k).any (fun c => !inB c 0 6) = false)) (fun i _ => xs.length - (intOf i).toNat)
    case atStart => exact ⟨0, Nat.zero_le _, rfl, Ext.refl _, rfl⟩
    case round =>
      obtain ⟨k, hk, rfl, HX, HI⟩ := hrel
      by_cases hlt : k < xs.length
      · obtain ⟨x, h1, h2, h3⟩ := get_lt hlt
        obtain ⟨b, off, rfl, _⟩ := hc.at h1
        have hcell := (hc.ext HX).at' h1
        obtain ⟨q, hq⟩ : ∃ q, Hid (inB x 0 6 = q) := ⟨_, rfl⟩
        cases q
        all_goals
          go_wp2_with fail
          refine (in_any _ _ _ _ hq _).mono ?_
          rintro e w' ⟨rfl, rfl⟩
          go_wp2_with fail
        · go_ret
          refine ⟨ret_int ?_, HX⟩
          have : xs.any (fun c => !inB c 0 6) = true := List.any_eq_true.2 ⟨x, List.mem_of_getElem? h1.out, by simp [hq.out]⟩
          simp [cellsErr, h16, this]
        · go_roundw
          case rel => exact ⟨k + 1, by omega, by go_num, HX, by rw [h3.out]; simp [Hid, hq.out, HI.out, -List.any_eq_false]⟩
          case measure => simp [intOf]; omega
      · obtain ⟨_, h1⟩ := get_ge hlt
        go_wp2_with fail
        go_ret
        refine ⟨ret_int ?_, HX⟩
        have := HI.out
        rw [h1.out] at this
        simp only [cellsErr, h16, this]; rfl

/-! ### CheckCounts, CountsError -/
/-- P270 -/
def countsErr (xs : List Int) : Int := if xs.length ≠ 7 then 3 else if xs.any (fun c => !inB c 0 16) then 4 else if 16 < xs.sum then 2 else 0

theorem sum_bd0 (xs : List Int) (h : xs.any (fun c => !inB c 0 16) = false) : 0 ≤ xs.sum ∧ xs.sum ≤ 16 * xs.length := by
  induction xs with
  | nil => simp
  | cons x xs ih =>
    simp only [List.any_cons, Bool.or_eq_false_iff, Bool.not_eq_false'] at h
    obtain ⟨h1, h2⟩ := h
    have h3 := ih h2
    simp only [inB, Bool.and_eq_true, decide_eq_true_eq] at h1
    simp only [List.sum_cons, List.length_cons]
    omega

theorem sum_bd {xs : List Int} {k : Nat} (h : Hid ((xs.take k).any (fun c => !inB c 0 16) = false)) : 0 ≤ (xs.take k).sum ∧ (xs.take k).sum ≤ 16 * k := by
  have h3 := sum_bd0 _ h.out
  have : (xs.take k).length ≤ k := List.length_take_le _ _
  omega

set_option maxHeartbeats 400000 in
set_option maxRecDepth 100000 in
theorem checkCounts_any (v : Value) (xs : List Int) (w : World) (hv : Ints w v xs) :
    Calls Try.prog 16 #[v] w fun e w' => e = .returned (.int .i64 (countsErr xs)) ∧ Ext w w' := by
  obtain ⟨ao, c, rfl, hlen, hc⟩ := hv.open
  clear hv
  by_cases h7 : xs.length = 7
  · have H7 := Lib.hid h7
    have h7' : (((xs.length : Nat) : Int) != 7) = false := by simp [h7]
    have hl : xs.length ≤ 7 := by omega
    clear h7
    go_enter Try.func16, Try.ntmps16
    go_wp2_with fail
    go_loopw [3, 11] (fun s i wr => ∃ k : Nat, k ≤ xs.length ∧ i = .int .i64 k ∧ s = .int .i64 (xs.take k).sum ∧ Ext w wr ∧ Hid ((xs.take k).any (fun c => !inB c 0 16) = false)) (fun _ i _ => xs.length - (intOf i).toNat)
    case atStart => exact ⟨0, Nat.zero_le _, rfl, rfl, Ext.refl _, rfl⟩
    case round =>
      obtain ⟨k, hk, rfl, rfl, HX, HI⟩ := hrel
      obtain ⟨hs1, hs2⟩ := sum_bd HI
      by_cases hlt : k < xs.length
      · obtain ⟨x, h1, h2, h3⟩ := get_lt hlt
        obtain ⟨b, off, rfl, _⟩ := hc.at h1
        have hcell := (hc.ext HX).at' h1
        by_cases hx0 : x < 0
        · go_wp2_with fail
          go_ret
          refine ⟨ret_int ?_, HX⟩
          have : xs.any (fun c => !inB c 0 16) = true := List.any_eq_true.2 ⟨x, List.mem_of_getElem? h1.out, by simp [inB]; omega⟩
          simp [countsErr, H7.out, this]
        · by_cases hx16 : 16 < x
          · go_wp2_with fail
            go_ret
            refine ⟨ret_int ?_, HX⟩
            have : xs.any (fun c => !inB c 0 16) = true := List.any_eq_true.2 ⟨x, List.mem_of_getElem? h1.out, by simp [inB]; omega⟩
            simp [countsErr, H7.out, this]
          · go_wp2_with fail
            go_roundw
            case rel => exact ⟨k + 1, by omega, by go_num, by rw [h3.out]; simp, HX, by
              have : inB x 0 16 = true := by simp [inB]; omega
              rw [h3.out]; simp [Hid, this, HI.out, -List.any_eq_false]⟩
            case measure => simp [intOf]; omega
      · obtain ⟨_, h1⟩ := get_ge hlt
        have h2 := HI.out
        by_cases h16 : 16 < (xs.take k).sum
        all_goals
          go_wp2_with fail
          go_ret
          refine ⟨ret_int ?_, HX⟩
          rw [h1.out] at h2 h16
          simp [countsErr, H7.out, h16, h2, -List.any_eq_false]
  · have h7' : (((xs.length : Nat) : Int) != 7) = true := by simp; omega
    go_enter Try.func16, Try.ntmps16
    go_wp2_with fail
    go_ret
    exact ⟨ret_int (by simp [countsErr, h7]), Ext.refl _⟩
set_option maxHeartbeats 400000 in
set_option maxRecDepth 100000 in
theorem countsError_any (v : Value) (xs : List Int) (w : World) (hv : Ints w v xs) :
    Calls Try.prog 14 #[v] w fun e w' => e = .returned (.int .i64 (countsErr xs)) ∧ Ext w w' := by
  obtain ⟨ao, c, rfl, hlen, hc⟩ := hv.open
  clear hv
  by_cases h7 : xs.length = 7
  · have H7 := Lib.hid h7
    have h7' : (((xs.length : Nat) : Int) != 7) = false := by simp [h7]
    have hl : xs.length ≤ 7 := by omega
    clear h7
    go_enter Try.func14, Try.ntmps14
    go_wp2_with fail
    go_loopw [3, 11] (fun s i wr => ∃ k : Nat, k ≤ xs.length ∧ i = .int .i64 k ∧ s = .int .i64 (xs.take k).sum ∧ Ext w wr ∧ Hid ((xs.take k).any (fun c => !inB c 0 16) = false)) (fun _ i _ => xs.length - (intOf i).toNat)
    case atStart => exact ⟨0, Nat.zero_le _, rfl, rfl, Ext.refl _, rfl⟩
    case round =>
      obtain ⟨k, hk, rfl, rfl, HX, HI⟩ := hrel
      obtain ⟨hs1, hs2⟩ := sum_bd HI
      by_cases hlt : k < xs.length
      · obtain ⟨x, h1, h2, h3⟩ := get_lt hlt
        obtain ⟨b, off, rfl, _⟩ := hc.at h1
        have hcell := (hc.ext HX).at' h1
        obtain ⟨q, hq⟩ : ∃ q, Hid (inB x 0 16 = q) := ⟨_, rfl⟩
        cases q
        · go_wp2_with fail
          refine (in_any _ _ _ _ hq _).mono ?_
          rintro e w' ⟨rfl, rfl⟩
          go_wp2_with fail
          go_ret
          refine ⟨ret_int ?_, HX⟩
          have : xs.any (fun c => !inB c 0 16) = true := List.any_eq_true.2 ⟨x, List.mem_of_getElem? h1.out, by simp [hq.out]⟩
          simp [countsErr, H7.out, this]
        · have hbd := hq.out
          simp only [inB, Bool.and_eq_true, decide_eq_true_eq] at hbd
          obtain ⟨hb1, hb2⟩ := hbd
          go_wp2_with fail
          refine (in_any _ _ _ _ hq _).mono ?_
          rintro e w' ⟨rfl, rfl⟩
          go_wp2_with fail
          go_roundw
          case rel => exact ⟨k + 1, by omega, by go_num, by rw [h3.out]; simp, HX, by
            rw [h3.out]; simp [Hid, hq.out, HI.out, -List.any_eq_false]⟩
          case measure => simp [intOf]; omega
      · obtain ⟨_, h1⟩ := get_ge hlt
        have h2 := HI.out
        by_cases h16 : 16 < (xs.take k).sum
        all_goals
          go_wp2_with fail
          go_ret
          refine ⟨ret_int ?_, HX⟩
          rw [h1.out] at h2 h16
          simp [countsErr, H7.out, h16, h2, -List.any_eq_false]
  · have h7' : (((xs.length : Nat) : Int) != 7) = true := by simp; omega
    go_enter Try.func14, Try.ntmps14
    go_wp2_with fail
    go_ret
    exact ⟨ret_int (by simp [countsErr, h7]), Ext.refl _⟩
end Go.Proofs.Ytllhgkacbpgemaa
