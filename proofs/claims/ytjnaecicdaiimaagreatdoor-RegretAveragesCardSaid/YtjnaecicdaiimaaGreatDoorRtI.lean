/- texts merged: RatX RatY -/
import Derived.Test.YtjnaecicdaiimaaGreatDoorRtH
/- package rat at fixed texts -/
namespace Go.Proofs.YtjnaecicdaiimaaGreatDoor
open Go.RowKit
set_option linter.unusedVariables false

theorem rf13 (w : World) : Calls Tryz.prog 108 #[.string ⟨#[50, 47, 52]⟩] w fun e w' => e = .returned (.int .i64 3) ∧ Ext w w' := by
  refine (ratCheck_any (⟨#[50, 47, 52]⟩ : ByteArray) w (by decide)).mono ?_
  rintro e w' ⟨rfl, X⟩
  exact ⟨congrArg (fun z : Int => Ending.returned (.int .i64 z)) (by decide +kernel), X⟩
theorem rf14 (v : Value) (w : World) (hv : Strs w v [(⟨#[48]⟩ : ByteArray), (⟨#[45, 48]⟩ : ByteArray)]) : Calls Tryz.prog 71 #[v] w fun e w' => e = .returned (.int .i64 5) ∧ Ext w w' :=
  checkAll_any v [(⟨#[48]⟩ : ByteArray), (⟨#[45, 48]⟩ : ByteArray)] w hv (by decide) 5 (by decide +kernel)
end Go.Proofs.YtjnaecicdaiimaaGreatDoor
/- walk of ratFact -/
namespace Go.Proofs.YtjnaecicdaiimaaGreatDoor
open Go.RowKit
set_option linter.unusedVariables false

theorem strs_take1 {w : World} {ao : Option Addr} {n cc : Nat} {a : ByteArray} {l : List ByteArray} (h : Strs w (.slice ao n cc) (a :: l)) : Strs w (.slice ao 1 cc) [a] := by
  obtain ⟨ao2, c2, e, ⟨q1, q2⟩, q3, q4, q5⟩ := h
  simp only [Value.slice.injEq] at e
  obtain ⟨rfl, _, rfl⟩ := e
  refine ⟨_, _, rfl, ⟨q1, ?_⟩, by simp, fun _ => q4 (by simp), fun i u hu => ?_⟩
  · simp at q2 ⊢; omega
  · refine q5 i u ?_
    match i, hu with
    | 0, hu => simpa using hu

end Go.Proofs.YtjnaecicdaiimaaGreatDoor
