/- walks of the package cards: the text of a card, a deck's text -/
import Derived.Test.YtllhgkacbpgemaaDoorCards7
import Derived.Test.YtllhgkacbpgemaaDoorShelf
namespace Go.Proofs.YtllhgkacbpgemaaDoor
open Go.RowKit
set_option linter.unusedVariables false

/-- the text of a card -/
def cardT (c : Nat) : ByteArray := (⟨#[50, 51, 52, 53, 54, 55, 56, 57, 84, 74, 81, 75, 65]⟩ : ByteArray).extract (c % 13) (c % 13 + 1) ++ (⟨#[67, 68, 72, 83]⟩ : ByteArray).extract (c / 13) (c / 13 + 1)

theorem cardT_size : ∀ c : Fin 52, (cardT c.1).size = 2 := by decide +kernel

set_option maxHeartbeats 800000 in
set_option maxRecDepth 100000 in
theorem cardText_any (c : Nat) (w : World) (h : c ≤ 51) (q : ByteArray) (hq : Hid (cardT c = q)) :
    Calls Tryd.prog 23 #[.int .i64 c] w fun e w' => e = .returned (.string q) ∧ Ext w w' := by
  obtain ⟨r, hr⟩ : ∃ r : Nat, Hid (c % 13 = r) := ⟨c % 13, rfl⟩
  obtain ⟨s, hs⟩ : ∃ s : Nat, Hid (c / 13 = s) := ⟨c / 13, rfl⟩
  have hr2 : (c : Int).tmod 13 = r := by rw [Int.tmod_eq_emod_of_nonneg (by omega)]; have := hr.out; omega
  have hs2 : (c : Int).tdiv 13 = s := by rw [Int.tdiv_eq_ediv_of_nonneg (by omega)]; have := hs.out; omega
  have hr3 : r ≤ 12 := by have := hr.out; omega
  have hs3 : s ≤ 3 := by have := hs.out; omega
  have hq2 : Hid ((⟨#[50, 51, 52, 53, 54, 55, 56, 57, 84, 74, 81, 75, 65]⟩ : ByteArray).extract r (r + 1) ++ (⟨#[67, 68, 72, 83]⟩ : ByteArray).extract s (s + 1) = q) := by
    rw [← hr.out, ← hs.out]; exact hq.out
  go_enter Tryd.func23, Tryd.ntmps23
  go_wp2_with fail
  go_quiet (fail)
  go_wp2_with fail
  go_ret
  exact ⟨by rw [hq2.out]; rfl, (Ext.refl w).drewN _⟩

theorem info_str : (Tryd.prog.info? 9).map (fun i => (i.zero, i.size, i.bytes)) = some (some (.string ⟨#[]⟩), 1, 16) := by kernel_rfl
theorem ei_strs : EI Tryd.prog 43 9 (.string ⟨#[]⟩) 1 16 := ⟨Tryd.underlying43, info_parts info_str, rfl, by decide⟩

/-- the joined text -/
def joinT (xs : List ByteArray) (sep : ByteArray) : ByteArray := ⟨(Lib.join (xs.map (·.data.toList)) sep.data.toList).toArray⟩

theorem join_any (v : Value) (xs : List ByteArray) (sep : ByteArray) (w : World) (hv : Strs w v xs) (hlen : (joinT xs sep).size ≤ 140737488355328) :
    Calls Tryd.prog 24 #[v, .string sep] w fun e w' => e = .returned (.string (joinT xs sep)) ∧ Ext w w' := by
  obtain ⟨ao, c, rfl, h1, h2, h3, hc⟩ := hv.open'
  cases xs with
  | nil => exact (Tryd.strings_Join_none ao c sep w).mono fun e w' h => ⟨h.1, by rw [h.2]; exact Ext.refl _⟩
  | cons x xs =>
    obtain ⟨bk, o, rfl, hc0⟩ := hc.at (i := 0) (x := x) rfl
    exact (Tryd.strings_Join bk o c (x :: xs) sep w (fun j y hy => hc.at' hy) (World.block_lt_of_cell? w _ hc0) (by simp at h1 ⊢; omega) h2 (by simpa [joinT, ByteArray.size] using hlen)).mono fun e w' h => ⟨h.1, h.2⟩

theorem lens_two : ∀ (xs : List ByteArray), (∀ x ∈ xs, x.size = 2) → Lib.lens (xs.map (·.data.toList)) = 2 * xs.length := by
  intro xs
  induction xs with
  | nil => intro _; rfl
  | cons x xs ih =>
    intro h
    have h1 := h x (by simp)
    have h2 := ih (fun y hy => h y (by simp [hy]))
    simp only [ByteArray.size] at h1
    simp [Lib.lens, h1] at h2 ⊢
    omega

theorem joinT_small (xs : List ByteArray) (sep : ByteArray) (h : ∀ x ∈ xs, x.size = 2) (hl : xs.length ≤ 10000) (hs : sep.size = 1) : (joinT xs sep).size ≤ 140737488355328 := by
  cases xs with
  | nil => exact Nat.zero_le _
  | cons x xs =>
    have h1 := Lib.join_length x.data.toList (xs.map (·.data.toList)) sep.data.toList
    have h2 := lens_two (x :: xs) h
    have h3 : sep.data.toList.length = 1 := by rw [Array.length_toList]; exact hs
    simp only [List.map_cons] at h2
    rw [h2, h3] at h1
    simp only [joinT, ByteArray.size, List.map_cons, List.size_toArray, h1]
    simp at hl ⊢
    omega
end Go.Proofs.YtllhgkacbpgemaaDoor
