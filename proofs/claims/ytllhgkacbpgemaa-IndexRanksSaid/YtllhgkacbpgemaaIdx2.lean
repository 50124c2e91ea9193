/- walks of the package index: counts, ways -/
import Derived.Test.YtllhgkacbpgemaaIdx1
import Derived.Test.YtllhgkacbpgemaaIdxM
namespace Go.Proofs.Ytllhgkacbpgemaa
open Go.RowKit

theorem info_int : (Try.prog.info? 3).map (fun i => (i.zero, i.size, i.bytes)) = some (some (.int .i64 0), 1, 8) := by kernel_rfl
theorem ei_ints : EI Try.prog 22 3 (.int .i64 0) 1 8 := ⟨Try.underlying22, info_parts info_int, rfl, by decide⟩

/-- one more of a kind -/
def bump (l : List Int) (c : Int) : List Int := l.set c.toNat (l.getD c.toNat 0 + 1)
/-- the counts of a placement -/
def cnts (xs : List Int) : List Int := xs.foldl bump [0, 0, 0, 0, 0, 0, 0]

theorem bump_len (l : List Int) (c : Int) : (bump l c).length = l.length := by simp [bump]
theorem foldl_bump_len (xs : List Int) (l : List Int) : (xs.foldl bump l).length = l.length := by
  induction xs generalizing l with
  | nil => rfl
  | cons x xs ih => simp [ih, bump_len]
theorem cnts_len (xs : List Int) : (cnts xs).length = 7 := by simp [cnts, foldl_bump_len]
theorem cnts_snoc (xs : List Int) (x : Int) : cnts (xs ++ [x]) = bump (cnts xs) x := by simp [cnts]

theorem bump_bd (l : List Int) (c : Int) (n : Nat) (h : ∀ x ∈ l, 0 ≤ x ∧ x ≤ n) : ∀ x ∈ bump l c, 0 ≤ x ∧ x ≤ (n + 1 : Nat) := by
  intro x hx
  rcases List.mem_or_eq_of_mem_set hx with h1 | h1
  · have := h x h1; omega
  · subst h1
    by_cases hc : c.toNat < l.length
    · have := h (l.getD c.toNat 0) (by simp [List.getD_eq_getElem?_getD, hc])
      omega
    · simp [List.getD_eq_getElem?_getD, List.getElem?_eq_none (Nat.le_of_not_lt hc)]; omega

theorem cnts_bd0 (xs : List Int) (l : List Int) (n : Nat) (h : ∀ x ∈ l, 0 ≤ x ∧ x ≤ n) : ∀ x ∈ xs.foldl bump l, 0 ≤ x ∧ x ≤ (n + xs.length : Nat) := by
  induction xs generalizing l n with
  | nil => simpa using h
  | cons y ys ih =>
    have := ih (bump l y) (n + 1) (bump_bd l y n h)
    intro x hx
    have := this x hx
    simp only [List.length_cons]; omega

theorem cnts_bd (xs : List Int) : ∀ x ∈ cnts xs, 0 ≤ x ∧ x ≤ xs.length := by
  have := cnts_bd0 xs [0,0,0,0,0,0,0] 0 (by simp)
  simpa [cnts] using this

/-- all cells fit -/
def cellsOk (xs : List Int) : Prop := ∀ c ∈ xs, 0 ≤ c ∧ c ≤ 6

theorem cnts_at (xs : List Int) (x : Int) (hx : 0 ≤ x ∧ x ≤ 6) : ∃ q, Hid ((cnts xs)[x.toNat]? = some q) ∧ 0 ≤ q ∧ q ≤ xs.length ∧ Hid (bump (cnts xs) x = (cnts xs).set x.toNat (q + 1)) := by
  have hl := cnts_len xs
  have hlt : x.toNat < (cnts xs).length := by omega
  refine ⟨(cnts xs)[x.toNat], List.getElem?_eq_getElem hlt, ?_⟩
  have := cnts_bd xs _ (List.getElem_mem hlt)
  refine ⟨this.1, this.2, ?_⟩
  simp [Hid, bump, List.getD_eq_getElem?_getD, hlt]

set_option maxHeartbeats 400000 in
set_option maxRecDepth 100000 in
theorem counts_any (v : Value) (xs : List Int) (w : World) (hv : Ints w v xs) (hok : cellsOk xs) :
    Calls Try.prog 48 #[v] w fun e w' => ∃ v', e = .returned v' ∧ w'.ownsRow w.heap.size 3 1 v' 7 ((cnts xs).map (Value.int .i64)) ∧ Ext w w' := by
  obtain ⟨ao, c, rfl, hlen, hc⟩ := hv.open
  clear hv
  have hmk : ∀ W, (Instr.makeSlice 22 (.int .i64 7) (.int .i64 7)).run Try.prog W = .ok (.slice (some ⟨W.heap.size, 0, none⟩) 7 7) (W.alloc (.cells #[.int .i64 0, .int .i64 0, .int .i64 0, .int .i64 0, .int .i64 0, .int .i64 0, .int .i64 0] 3)) := fun _ => by kernel_rfl
  go_enter Try.func48, Try.ntmps48
  go_wp2_with fail
  go_loopw [9] (fun i wr => ∃ k : Nat, k ≤ xs.length ∧ i = .int .i64 k ∧ Ext w wr ∧ wr.ownsRow w.heap.size 3 1 (.slice (some ⟨w.heap.size, 0, none⟩) 7 7) 7 ((cnts (xs.take k)).map (Value.int .i64))) (fun i _ => xs.length - (intOf i).toNat)
  case atStart => exact ⟨0, Nat.zero_le _, rfl, (Ext.refl _).alloc _, own_made w (.int .i64 0) 3 7 (by decide) _ rfl⟩
  case round =>
    obtain ⟨k, hk, rfl, HX, HO⟩ := hrel
    by_cases hlt : k < xs.length
    · obtain ⟨x, h1, h2, h3⟩ := get_lt hlt
      obtain ⟨b, off, rfl, _⟩ := hc.at h1
      have hcell := (hc.ext HX).at' h1
      obtain ⟨hx0, hx6⟩ := hok x (List.mem_of_getElem? h1.out)
      obtain ⟨q, hq, hq0, hq1, hq2⟩ := cnts_at (xs.take k) x ⟨hx0, hx6⟩
      have hql : q ≤ 17592186044416 := by have : (xs.take k).length ≤ k := List.length_take_le _ _; omega
      clear hq1
      have hcx := own_cell HO (j := x.toNat) (x := .int .i64 q) (by simp [Hid, hq.out])
      have hfx := HO.frozenAt x.toNat
      have hst := HO.stored x.toNat (.int .i64 (q + 1))
      go_wp2_with fail
      go_roundw
      case rel => exact ⟨k + 1, by omega, by go_num, HX.setCell (Nat.le_refl _) _, by
        rw [h3.out, cnts_snoc, hq2.out, List.map_set]; exact hst.1⟩
      case measure => simp [intOf]; omega
    · obtain ⟨_, h1⟩ := get_ge hlt
      go_wp2_with fail
      go_ret
      exact ⟨_, rfl, by rw [h1.out] at HO; exact HO, HX⟩

/-! ### ways -/
/-- the state behind the first kinds -/
def wSt (l : List Nat) (k : Nat) : Nat × Nat := (l.take k).foldl (fun (q : Nat × Nat) c => (wIn q.1 q.2 c, q.2 + c)) (1, 0)

theorem wSt_succ {l : List Nat} {k c : Nat} (h : Hid (l.take (k + 1) = l.take k ++ [c])) : wSt l (k + 1) = (wIn (wSt l k).1 (wSt l k).2 c, (wSt l k).2 + c) := by
  simp [wSt, h.out]

theorem foldl_w (l : List Nat) : ∀ q : Nat × Nat, q.1 ≤ fac q.2 → (l.foldl (fun (q : Nat × Nat) c => (wIn q.1 q.2 c, q.2 + c)) q).1 ≤ fac (q.2 + l.sum) ∧ (l.foldl (fun (q : Nat × Nat) c => (wIn q.1 q.2 c, q.2 + c)) q).2 = q.2 + l.sum := by
  induction l with
  | nil => intro q h; simpa using h
  | cons c l ih =>
    intro q h
    have := ih (wIn q.1 q.2 c, q.2 + c) (wIn_le _ _ _ h)
    simpa [Nat.add_assoc] using this

theorem sum_take_le (l : List Nat) (k : Nat) : (l.take k).sum ≤ l.sum := by
  have h : (l.take k ++ l.drop k).sum = l.sum := by rw [List.take_append_drop]
  rw [List.sum_append] at h
  omega

theorem wSt_bd (l : List Nat) (k : Nat) : (wSt l k).1 ≤ fac (wSt l k).2 ∧ (wSt l k).2 = (l.take k).sum := by
  have h := foldl_w (l.take k) (1, 0) (by decide)
  simp only [Nat.zero_add] at h
  refine ⟨?_, h.2⟩
  show (wSt l k).1 ≤ _
  have h2 : (wSt l k).2 = (l.take k).sum := h.2
  rw [h2]; exact h.1

abbrev Nats (w : World) (v : Value) (xs : List Nat) : Prop := RowOf (fun (n : Nat) => Value.int .i64 n) w v xs

set_option maxHeartbeats 400000 in
set_option maxRecDepth 100000 in
theorem ways_any (v : Value) (l : List Nat) (w : World) (hv : Nats w v l) (hs : l.sum ≤ 16) :
    Calls Try.prog 49 #[v] w fun e w' => e = .returned (.int .i64 (waysN l)) ∧ w = w' := by
  obtain ⟨ao, c, rfl, hlen, hc⟩ := hv.open
  clear hv
  go_enter Try.func49, Try.ntmps49
  go_wp2_with fail
  go_loop [3, 4, 10] (fun o n i => ∃ k : Nat, k ≤ l.length ∧ i = .int .i64 k ∧ o = .int .i64 (wSt l k).1 ∧ n = .int .i64 (wSt l k).2) (fun _ _ i => l.length - (intOf i).toNat)
  case atStart => exact ⟨0, Nat.zero_le _, rfl, rfl, rfl⟩
  case round =>
    obtain ⟨k, hk, rfl, rfl, rfl⟩ := hrel
    by_cases hlt : k < l.length
    · obtain ⟨x, h1, h2, h3⟩ := get_lt hlt
      obtain ⟨b, off, rfl, hcell⟩ := hc.at h1
      obtain ⟨hb1, hb2⟩ := wSt_bd l k
      have hb3 : (l.take k).sum + x ≤ l.sum := by
        have := sum_take_le l (k + 1)
        rw [h3.out] at this; simpa using this
      obtain ⟨o, n, HE⟩ : ∃ o n, Hid (wSt l k = (o, n)) := ⟨_, _, rfl⟩
      rw [HE.out] at hb1 hb2 ⊢
      simp only at hb1 hb2
      have hn : n + x ≤ 16 := by omega
      clear hb2 hb3
      have HB := Lib.hid hb1; clear hb1
      go_wp2_with fail
      go_loop [3, 4, 15] (fun o' n' i => ∃ j : Nat, j ≤ x ∧ i = .int .i64 j ∧ o' = .int .i64 (wIn o n j) ∧ n' = .int .i64 (n + j : Nat)) (fun _ _ i => x - (intOf i).toNat)
      case atStart => exact ⟨0, Nat.zero_le _, rfl, rfl, rfl⟩
      case round =>
        obtain ⟨j, hj, rfl, rfl, rfl⟩ := hrel
        have hw := wIn_le o n j HB.out
        by_cases hjx : j < x
        · have hf : fac (n + j) * (n + j + 1) ≤ fac 16 := fac_mono (a := n + j + 1) (by omega)
          have hp : wIn o n j * (n + j + 1) ≤ 20922789888000 := Nat.le_trans (Nat.mul_le_mul_right _ hw) hf
          have HS : Hid (wIn o n (j + 1) = wIn o n j * (n + j + 1) / (j + 1)) := rfl
          have HS2 : Hid (((wIn o n (j + 1) : Nat) : Int) = ((wIn o n j : Nat) : Int) * ((n : Int) + (j : Int) + 1) / ((j : Int) + 1)) := by
            show _ = _
            rw [HS.out]; push_cast; rfl
          clear HS
          generalize wIn o n j = u at *
          have hp0 : 0 ≤ (u : Int) * ((n : Int) + (j : Int) + 1) := Int.mul_nonneg (by omega) (by omega)
          have hp1 : (u : Int) * ((n : Int) + (j : Int) + 1) ≤ 20922789888000 := by
            have e : ((u * (n + j + 1) : Nat) : Int) = (u : Int) * ((n : Int) + (j : Int) + 1) := by push_cast; rfl
            rw [← e]; omega
          clear hf hp hw
          go_wp2_with fail
          go_round
          case rel => exact ⟨j + 1, by omega, by go_num, by rw [HS2.out], congrArg (Value.int .i64) (by omega)⟩
          case measure => simp [intOf]; omega
        · obtain rfl : j = x := by omega
          go_wp2_with fail
          go_round
          case rel => exact ⟨k + 1, by omega, by go_num, by rw [wSt_succ h3, HE.out], by rw [wSt_succ h3, HE.out]⟩
          case measure => simp [intOf]; omega
    · obtain ⟨_, h1⟩ := get_ge hlt
      go_wp2_with fail
      go_ret
      exact ⟨by rw [wSt, h1.out]; rfl, rfl⟩
end Go.Proofs.Ytllhgkacbpgemaa
