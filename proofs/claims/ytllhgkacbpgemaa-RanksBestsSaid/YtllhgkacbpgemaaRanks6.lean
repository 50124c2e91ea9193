/- walks of what sorts ranks: pdqsortCmpFunc and SortFunc of few elements -/
import Derived.Test.YtllhgkacbpgemaaRanks5
namespace Go.Proofs.Ytllhgkacbpgemaa
open Go.RowKit
set_option linter.unusedVariables false

section
variable (g : Nat) (caps : Array Value) (cf : Nat → Nat → Int) (blk n cap B : Nat) (xs : List Nat) (S : Nat → Prop) (Good : World → Prop) (w0 w : World)
    (eg : ∀ args W, (callFunc g args).run Try.prog W = .ok (.enter g args) W)
    (hC : CmpOk g caps cf blk S Good) (hG : Good w) (hS : ∀ x ∈ xs, S x) (hw : Ext w0 w) (hB : w0.heap.size ≤ blk)
    (hO : w.ownsRow B 3 1 (.slice (some ⟨blk, 0, none⟩) n cap) n (xs.map encN)) (hn : n ≤ 12)

include eg hC hG hS hw hB hO hn

set_option maxHeartbeats 1600000 in
set_option maxRecDepth 100000 in
theorem pdqsort_any (lim : Int) :
    Calls Try.prog 93 #[.slice (some ⟨blk, 0, none⟩) n cap, .int .i64 0, .int .i64 n, .int .i64 lim, .func (.func g) #[] caps] w fun e w' =>
      e = .returned (.tuple #[]) ∧ w'.ownsRow B 3 1 (.slice (some ⟨blk, 0, none⟩) n cap) n ((isort cf xs).map encN) ∧ Ext w0 w' ∧ Good w' := by
  have HI := Lib.hid (insertionSort_any g caps cf blk n cap B xs S Good w0 w eg hC hG hS hw hB hO hn)
  have hn2 : (n : Int) ≤ 12 := by omega
  clear eg hC hG hS hw hB hO
  go_enter Try.func93, Try.ntmps93
  go_wp2_with fail
  refine wp_loop_rounds 1 ?_
  rw [rounds_succ]
  go_wp2_with fail
  refine HI.out.mono ?_
  rintro e w' ⟨rfl, h1, h2, h3⟩
  go_wp2_with fail
  (try simp only [Exit.inBlock, Exit.then])
  refine bodyPost_ret (results_none rfl _ _ _) rfl ?_
  exact ⟨rfl, h1, h2, h3⟩

set_option maxHeartbeats 1600000 in
set_option maxRecDepth 100000 in
theorem sortFunc_any :
    Calls Try.prog 89 #[.slice (some ⟨blk, 0, none⟩) n cap, .func (.func g) #[] caps] w fun e w' =>
      e = .returned (.tuple #[]) ∧ w'.ownsRow B 3 1 (.slice (some ⟨blk, 0, none⟩) n cap) n ((isort cf xs).map encN) ∧ Ext w0 w' ∧ Good w' := by
  have HP := Lib.hid (fun lim => pdqsort_any g caps cf blk n cap B xs S Good w0 w eg hC hG hS hw hB hO hn lim)
  have HL := Lib.hid (Try.bits_Len n w (by omega) (by omega))
  clear eg hC hG hS hw hB hO
  go_enter Try.func89, Try.ntmps89
  go_wp2_with fail
  refine HL.out.mono ?_
  rintro e w' ⟨rfl, hw'⟩
  subst hw'
  go_wp2_with fail
  refine (HP.out _).mono ?_
  rintro e w' ⟨rfl, h1, h2, h3⟩
  go_wp2_with fail
  go_end0
  exact ⟨rfl, h1, h2, h3⟩
end
end Go.Proofs.Ytllhgkacbpgemaa
