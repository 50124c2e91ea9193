/- walk of package big: Text -/
import Derived.Test.YtecfphohmgbddaaGreatDoorBig7
import Derived.Test.YtecfphohmgbddaaGreatDoorBigT
import Derived.Laws.IdiomCopy
import Derived.Lib.LazyBuf
import Derived.Lib.AppendIntMem
import Derived.Lib.SmallJoins
namespace Go.Proofs.YtecfphohmgbddaaGreatDoor
open Go.RowKit
set_option linter.unusedVariables false

abbrev TabPow (w : World) : Prop := Lib.TabIs Tryz.prog w "internal/strconv.uint64pow10" .u64 Lib.pow10Tab
theorem var_ext {P : Program} {w w' : World} {n : String} {cs : Array Value} (h : w.var? P n = some cs) (he : Ext w w') : w'.var? P n = some cs := by
  cases hg : P.globalNamed n with
  | none => simp [World.var?, hg] at h
  | some g => exact Joins.var_stays hg h he (Nat.le_refl _)
theorem tabPow_ext {w w' : World} (h : TabPow w) (he : Ext w w') : TabPow w' := var_ext h he

theorem itoa_any (n : Nat) (h : n ≤ 9223372036854775807) (w : World) (ht : TabPow w) :
    Calls Tryz.prog 119 #[.int .i64 n] w fun e w' => e = .returned (.string (decT n)) ∧ Ext w w' := by
  refine (Tryz.strconv_Itoa n (by omega) (by omega) w ht).mono ?_
  rintro e w' ⟨rfl, k, os, rfl⟩
  rw [Lib.itoa_nonneg]
  exact ⟨rfl, Lib.below_grow _ w (Nat.le_refl _) k os⟩

theorem info_str : (Tryz.prog.info? 9).map (fun i => (i.zero, i.size, i.bytes)) = some (some (.string ⟨#[]⟩), 1, 16) := by kernel_rfl
theorem ei_strs : EI Tryz.prog 42 9 (.string ⟨#[]⟩) 1 16 := ⟨Tryz.underlying42, info_parts info_str, rfl, by decide⟩

theorem repeat0_any (k : Nat) (w : World) (hk : k ≤ 9) : Calls Tryz.prog 120 #[.string ⟨#[48]⟩, .int .i64 k] w fun e w' => e = .returned (.string ⟨(List.replicate k (48 : UInt8)).toArray⟩) ∧ Ext w w' := by
  refine (Tryz.strings_Repeat ⟨#[48]⟩ k w (by omega) (by show 1 * k ≤ _; omega)).mono ?_
  rintro e w' ⟨rfl, hb⟩
  exact ⟨by rw [show (⟨#[48]⟩ : ByteArray).data.toList = [48] from rfl, repeat_zero], hb⟩

/-- slices.Reverse of an own row of strings -/
theorem reverse_own (B g cap : Nat) (ps : List ByteArray) (w0 W : World) (ho : W.ownsRow B 9 1 (.slice (some ⟨g, 0, none⟩) ps.length cap) ps.length (ps.map Value.string)) (hl : ps.length ≤ 17592186044416) (hx : Ext w0 W) (hB : w0.heap.size ≤ B) (hBg : B ≤ g) :
    Calls Tryz.prog 121 #[.slice (some ⟨g, 0, none⟩) ps.length cap] W fun e w' => e = .returned (.tuple #[]) ∧ Ext w0 w' ∧ (∀ (j : Nat) x, ps.reverse[j]? = some x → w'.cell? ⟨g, 0 + j, none⟩ = some (.string x)) ∧ W.heap.size = w'.heap.size := by
  have hc : ∀ i, i < ps.length → W.cell? ⟨g, 0 + i, none⟩ = some (.string (ps.getD i ⟨#[]⟩)) := by
    intro i hi
    rw [Nat.zero_add]
    refine own_cell ho ?_
    show _ = _
    rw [List.getElem?_map, List.getElem?_eq_getElem hi, List.getD, List.getElem?_eq_getElem hi]; rfl
  refine (Tryz.slices_Reverse_string_cells g 0 ps.length cap (fun i => ps.getD i ⟨#[]⟩) W (by omega) hc (fun j _ => by rw [Nat.zero_add]; exact ho.frozenAt j)).mono ?_
  rintro e w' ⟨rfl, q, rfl⟩
  refine ⟨rfl, below_setCells (Nat.le_trans hB hBg) _ _ _ (hx.drewN q), ?_, ?_⟩
  · intro j x hj
    obtain ⟨h1, h2⟩ := List.getElem?_eq_some_iff.1 hj
    have hlen : ((Lib.strsOf (fun i => ps.getD i ⟨#[]⟩) ps.length).reverse.map encStr).length = ps.length := by simp [Lib.strsOf]
    have hjl : j < ps.length := by simpa using h1
    have := World.cell?_setCells_in g ((Lib.strsOf (fun i => ps.getD i ⟨#[]⟩) ps.length).reverse.map encStr) 0 (W.drewN q) (fun i hi => by
      have := hc i (by rw [hlen] at hi; exact hi)
      show (W.cell? _).isSome = true
      rw [this]; rfl) j (by rw [hlen]; exact hjl)
    rw [this]
    congr 1
    rw [← h2, List.getElem_map, List.getElem_reverse, List.getElem_reverse]
    simp only [Lib.strsOf, List.getElem_map, List.getElem_range, encStr]
    congr 1
    have hk : ps.length - 1 - j < ps.length := by omega
    simp only [List.length_map, List.length_range]
    rw [List.getD, List.getElem?_eq_getElem hk]
    rfl
  · have h1 : ∀ (vs : List Value) (o : Nat) (w : World), (w.setCells g o vs).heap.size = w.heap.size := by
      intro vs
      induction vs with
      | nil => intro o w; rfl
      | cons v r ih => intro o w; rw [World.setCells, ih]; simp
    rw [h1]; rfl
end Go.Proofs.YtecfphohmgbddaaGreatDoor
