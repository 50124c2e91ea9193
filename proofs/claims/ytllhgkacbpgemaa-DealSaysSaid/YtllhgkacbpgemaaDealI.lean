/- the beginning of DealSays -/
import Derived.Test.YtllhgkacbpgemaaDealH
import Derived.Deep.DeepCutAuto
import Derived.Deep.RegionWith
import Derived.Deep.OwnRows
namespace Go.Proofs.Ytllhgkacbpgemaa
open Go.RowKit
set_option linter.unusedVariables false

/-- a call of a deal, as it lies in memory -/
structure DC where
  op : Bool
  wrong : Bool
  pl : Int
  sec : Int
  dv : Value
  ds : List Int

structure CallsIn (w : World) (ao : Option Addr) (cap : Nat) (cs : List DC) : Prop where
  le : cs.length ≤ cap
  nn : ao = none → cap = 0
  sz : cs.length ≤ 17592186044416
  at' : ∀ (i : Nat) (c : DC), cs[i]? = some c → ∃ b off, ao = some ⟨b, off, none⟩ ∧ w.cell? ⟨b, off + i * 5, none⟩ = some (.bool c.op) ∧ w.cell? ⟨b, off + i * 5 + 1, none⟩ = some (.bool c.wrong) ∧ w.cell? ⟨b, off + i * 5 + 2, none⟩ = some (.int .i64 c.pl) ∧
    w.cell? ⟨b, off + i * 5 + 3, none⟩ = some (.int .i64 c.sec) ∧ w.cell? ⟨b, off + i * 5 + 4, none⟩ = some c.dv
  ok : ∀ c ∈ cs, Ints w c.dv c.ds ∧ c.ds.length + 512 ≤ 17592186044416 ∧ (-9223372036854775808 ≤ c.pl ∧ c.pl ≤ 9223372036854775807)

set_option maxHeartbeats 800000 in
set_option maxRecDepth 100000 in
theorem dealSays_err (k n : Int) (v : Value) (w : World) (h : k < 1 ∨ 6 < k ∨ n < 0 ∨ 52 < n) :
    Calls Try.prog 6 #[.int .i64 k, .int .i64 n, v] w fun e w' => e = .returned (.bool true) ∧ Ext w w' := by
  have HN := Lib.hid (fun W => new_err k n W h)
  have HF := Lib.hid (dealFact_any w)
  have h' : k < 1 ∨ (1 ≤ k ∧ 6 < k) ∨ (1 ≤ k ∧ k ≤ 6 ∧ n < 0) ∨ (1 ≤ k ∧ k ≤ 6 ∧ 0 ≤ n ∧ 52 < n) := by omega
  clear h
  rcases h' with h | ⟨h1, h2⟩ | ⟨h1, h2, h3⟩ | ⟨h1, h2, h3, h4⟩
  all_goals
    go_enter Try.func6, Try.ntmps6
    go_wp2_with fail
    refine HF.out.mono ?_
    rintro e w0 ⟨rfl, hx0⟩
    go_wp2_with fail
    refine (HN.out _).mono ?_
    rintro e w1 ⟨rfl, rfl⟩
    go_wp2_with fail
    go_ret
    exact ⟨rfl, hx0⟩

theorem info_bool : (Try.prog.info? 4).map (fun i => (i.zero, i.size, i.bytes)) = some (some (.bool false), 1, 1) := by kernel_rfl
theorem ei_bools : EI Try.prog 47 4 (.bool false) 1 1 := ⟨Try.underlying47, info_parts info_bool, rfl, by decide⟩
theorem info_u64 : (Try.prog.info? 37).map (fun i => (i.zero, i.size, i.bytes)) = some (some (.int .u64 0), 1, 8) := by kernel_rfl
theorem ei_u64s : EI Try.prog 46 37 (.int .u64 0) 1 8 := ⟨Try.underlying46, info_parts info_u64, rfl, by decide⟩

def St0 (w0 w : World) (k n : Nat) (t s9 s10 s11 s12 : Value) : Prop :=
  ∃ B2 tb pb sb ob mb nb, t = .pointer (some ⟨tb, 0, none⟩) ∧ s9 = .slice (some ⟨mb, 0, none⟩) k k ∧ s10 = .slice (some ⟨nb, 0, none⟩) k k ∧ s11 = .slice (some ⟨sb, 0, none⟩) k k ∧ s12 = .slice (some ⟨ob, 0, none⟩) k k ∧ B2 ≤ w.heap.size ∧
    St w0 w w w0.heap.size B2 tb pb sb ob mb nb n (List.replicate k pv0) (-1) (List.replicate k 0) (List.replicate k (.slice none 0 0)) (List.replicate k [])

/-- a made row in any later world of the call's own -/
theorem own_mk (w W : World) (z : Value) (e : TypeId) (k : Nat) (hk : k ≤ 6) (hw : w.heap.size ≤ W.heap.size) :
    (W.alloc (.cells (madeCells #[z] k) e)).ownsRow w.heap.size e 1 (.slice (some ⟨W.heap.size, 0, none⟩) k k) k (List.replicate k z) := by
  have := World.ownsRow_lit (base := w.heap.size) (e := e) (size := 1) W (madeCells #[z] k) k hw (by unfold maxLen; omega) (by simp [madeCells])
  have h2 := replicate_made z k
  have h3 : (madeCells #[z] k).toList = List.replicate k z := by
    apply List.ext_getElem
    · simp [madeCells]
    · intro i h1 h2
      simp [madeCells, Nat.mod_one]
  rw [h3] at this
  exact this
end Go.Proofs.Ytllhgkacbpgemaa
