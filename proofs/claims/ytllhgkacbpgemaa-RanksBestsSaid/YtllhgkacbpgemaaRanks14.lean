/- the walk of Best -/
import Derived.Test.YtllhgkacbpgemaaRanks13
import Derived.Laws.EntriesVeiled
namespace Go.Proofs.Ytllhgkacbpgemaa
open Go.RowKit
set_option linter.unusedVariables false

def bestErr (l : List Int) : Int := if deckErr l = 0 then (if l.length < 5 then 8 else if 9 < l.length then 2 else 0) else deckErr l
def bestF (l : List Int) : List Nat × Int := (combos l.length 0 []).foldl (updP l) ([], -1)
def BestPost (l : List Int) (w : World) (e : Ending) (w' : World) : Prop :=
  ∃ u m, e = .returned (.tuple #[u, .int .i64 m, .int .i64 (bestErr l)]) ∧ Ext w w' ∧ ((bestErr l ≠ 0 ∧ u = .slice none 0 0 ∧ m = 0) ∨ (bestErr l = 0 ∧ m = (bestF l).2 ∧ RowOf encN w' u (bestF l).1))

theorem best_post_err {l : List Int} {w w' : World} {q : Int} (h : bestErr l = q) (hq : q ≠ 0) (hx : Ext w w') : BestPost l w (.returned (.tuple #[.slice none 0 0, .int .i64 0, .int .i64 q])) w' := by
  subst h; exact ⟨_, _, rfl, hx, .inl ⟨hq, rfl, rfl⟩⟩

theorem combos_len : ∀ (k a : Nat) (pl : List Nat), pl.length ≤ 4 → ∀ x ∈ combos k a pl, x.length = 5
  | 0, _, _, _, x, h => by cases h
  | k + 1, a, pl, hp, x, h => by
    rw [combos] at h
    rcases List.mem_append.1 h with h | h
    · split at h
      · rename_i h4
        simp at h; subst h; simp [h4]
      · exact combos_len k (a + 1) (pl ++ [a]) (by simp; omega) x h
    · exact combos_len k (a + 1) pl hp x h
theorem foldl_updP (l : List Int) : ∀ (cs : List (List Nat)) (st : List Nat × Int), (cs.foldl (updP l) st).1 = st.1 ∨ (cs.foldl (updP l) st).1 ∈ cs
  | [], st => .inl rfl
  | x :: cs, st => by
    rw [List.foldl_cons]
    rcases foldl_updP l cs (updP l st x) with h | h
    · rw [h]
      unfold updP
      split
      · exact .inr (by simp)
      · exact .inl rfl
    · exact .inr (by simp [h])
theorem bestF_len (l : List Int) : (bestF l).1.length ≤ 5 := by
  rcases foldl_updP l (combos l.length 0 []) ([], -1) with h | h
  · rw [bestF, h]; simp
  · rw [bestF, combos_len _ _ _ (by simp) _ h]; omega

def W4 (w : World) (lv : Value) : World :=
  (((w.alloc (.cells #[lv] 22)).alloc (.cells #[.slice none 0 0] 22)).alloc (.cells #[.int .i64 (-1)] 3)).alloc
    (.cells #[.func (.func 71) #[] #[.pointer (some ⟨w.heap.size, 0, none⟩), .pointer (some ⟨w.heap.size + 1 + 1, 0, none⟩), .pointer (some ⟨w.heap.size + 1, 0, none⟩), .pointer (some ⟨w.heap.size + 1 + 1 + 1, 0, none⟩)]] 86)

theorem start_st (w : World) (lv : Value) : StB w (W4 w lv) w.heap.size (w.heap.size + 1) (w.heap.size + 1 + 1) (w.heap.size + 1 + 1 + 1) (w.heap.size + 1 + 1 + 1 + 1) lv ([], -1) := by
  unfold W4
  refine ⟨((((Ext.refl w).alloc _).alloc _).alloc _).alloc _, ?_, ?_, ⟨.slice none 0 0, ?_, World.ownsRow_nil _ _ _ _⟩, ?_, ?_, ?_, ?_⟩
  all_goals simp [go_sem]

set_option maxHeartbeats 3200000 in
set_option maxRecDepth 100000 in
theorem best_any (v : Value) (l : List Int) (w : World) (hv : Ints w v l) : Calls Try.prog 45 #[v] w (BestPost l w) := by
  have HC := Lib.hid (fun (W : World) (hW : Ext w W) => check_any v l W (hv.ext hW))
  obtain ⟨d, hd⟩ : ∃ d, Hid (deckErr l = d) := ⟨_, rfl⟩
  rw [hd.out] at HC
  have HV := Lib.hid hv
  obtain ⟨ao, c, rfl, hlen, hc⟩ := hv.open
  clear hv hc
  by_cases h0 : d = 0
  · subst h0
    by_cases h5 : l.length < 5
    · have HE : Hid (bestErr l = 8) := by show _ = _; rw [bestErr, if_pos hd.out, if_pos h5]
      have h5i : (l.length : Int) < 5 := by omega
      go_enter Try.func45, Try.ntmps45
      go_wp2_with fail
      refine (HC.out _ (by exact (Ext.refl w).alloc _)).mono ?_
      rintro e w' ⟨rfl, rfl⟩
      go_wp2_with fail
      go_ret3
      exact best_post_err HE.out (by decide) ((Ext.refl w).alloc _)
    · by_cases h9 : 9 < l.length
      · have HE : Hid (bestErr l = 2) := by show _ = _; rw [bestErr, if_pos hd.out, if_neg h5, if_pos h9]
        have h5i : ¬ (l.length : Int) < 5 := by omega
        have h9i : (9 : Int) < (l.length : Int) := by omega
        go_enter Try.func45, Try.ntmps45
        go_wp2_with fail
        refine (HC.out _ (by exact (Ext.refl w).alloc _)).mono ?_
        rintro e w' ⟨rfl, rfl⟩
        go_wp2_with fail
        go_ret3
        exact best_post_err HE.out (by decide) ((Ext.refl w).alloc _)
      · have HE : Hid (bestErr l = 0) := by show _ = _; rw [bestErr, if_pos hd.out, if_neg h5, if_neg h9]
        have h5i : ¬ (l.length : Int) < 5 := by omega
        have h9i : ¬ (9 : Int) < (l.length : Int) := by omega
        obtain ⟨_, hrg, hnd⟩ := deckErr_zero hd.out
        have HRG := Lib.hid hrg
        have HND := Lib.hid hnd
        clear hrg hnd
        go_enter Try.func45, Try.ntmps45
        go_wp2_with fail
        refine (HC.out _ (by exact (Ext.refl w).alloc _)).mono ?_
        rintro e w' ⟨rfl, rfl⟩
        go_wp2_with fail
        refine (walk_any w _ _ _ _ (w.heap.size + 1 + 1 + 1 + 1) (.slice ao l.length c) l ⟨HV.out, by omega, HRG.out, HND.out, by omega, by omega, by omega, by omega, by omega, by omega, by omega, by omega, by omega, by omega, by omega, by omega⟩ l.length 0 0 [] (.slice none 0 0) (W4 w (.slice ao l.length c)) ([], -1) (by omega) rfl
          (fun p h => by cases h) List.nodup_nil (by simp) (World.ownsRow_nil _ _ _ _) (start_st w _)).mono ?_
        rintro e w5 ⟨rfl, hS, hE⟩
        have hwf : walkF l l.length 0 [] ([], -1) = bestF l := by rw [walkF, if_neg (by simp)]; rfl
        rw [hwf] at hS
        obtain ⟨bv, cb, hrow⟩ := hS.cb
        have cm := hS.cm
        have X5 := hS.base
        have HR := Lib.hid (own_rowOf (enc := encN) (xs := (bestF l).1) hrow (by have := bestF_len l; omega))
        obtain ⟨m, hm⟩ : ∃ m, Hid ((bestF l).2 = m) := ⟨_, rfl⟩
        rw [hm.out] at cm
        clear hS hE hrow hwf
        go_wp2_with fail
        go_quiet (fail)
        go_wp2_with fail
        go_ret3
        exact ⟨bv, m, by rw [HE.out]; rfl, X5.drewN _, .inr ⟨HE.out, hm.out.symm, HR.out.ext ((Ext.refl w5).drewN _)⟩⟩
  · have HE : Hid (bestErr l = d) := by show _ = _; rw [bestErr, if_neg (by rw [hd.out]; exact h0)]; exact hd.out
    have hb : (d != 0) = true := by simp [h0]
    have HD := Lib.hid h0
    clear h0
    go_enter Try.func45, Try.ntmps45
    go_wp2_with fail
    refine (HC.out _ (by exact (Ext.refl w).alloc _)).mono ?_
    rintro e w' ⟨rfl, rfl⟩
    go_wp2_with fail
    go_ret3
    exact best_post_err HE.out HD.out ((Ext.refl w).alloc _)
end Go.Proofs.Ytllhgkacbpgemaa
