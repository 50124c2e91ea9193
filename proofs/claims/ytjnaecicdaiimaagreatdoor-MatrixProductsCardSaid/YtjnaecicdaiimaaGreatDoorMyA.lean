/- the law MatrixChecks -/
import Derived.Test.YtjnaecicdaiimaaGreatDoorMxSX
import Derived.Test.YtjnaecicdaiimaaGreatDoorWgt
import Derived.Test.YtjnaecicdaiimaaGreatDoorRgO
namespace Go.Proofs.YtjnaecicdaiimaaGreatDoor
open Go.RowKit
set_option linter.unusedVariables false

set_option maxHeartbeats 3200000 in
set_option maxRecDepth 100000 in
theorem matrixChecks_walk (v u : Value) (m : List (List ByteArray)) (l : List ByteArray) (w : World) (hv : Rows Value.string w v m) (hu : Strs w u l) (hs : ∀ l ∈ m, ∀ s ∈ l, s.size ≤ 9223372036854775806) (hs2 : ∀ s ∈ l, s.size ≤ 9223372036854775806) (htab : TabPow w) :
    Calls Tryz.prog 5 #[v, u] w fun e w' => e = .returned (.bool true) ∧ Ext w w' := by
  have H0 := Lib.hid (matrixFact_any w htab)
  have H1 := Lib.hid (fun W (hx : Ext w W) => weight_any v m W (hv.ext hx))
  have H2 := Lib.hid (fun x W h => weight_any x [l] W h)
  have H3 := Lib.hid (fun W (hx : Ext w W) => mCheck_any v m W (hv.ext hx) hs _ rfl)
  have H4 := Lib.hid (fun W (hx : Ext w W) => rMatrixError_any v m W (hv.ext hx) hs _ rfl)
  have H5 := Lib.hid (fun W (hx : Ext w W) => checkVec_any u l W (hu.ext hx) hs2 _ rfl)
  have H6 := Lib.hid (fun W (hx : Ext w W) => rVecError_any u l W (hu.ext hx) hs2 _ rfl)
  have HU := Lib.hid hu
  obtain ⟨us, hr, hul, hel⟩ := hv
  obtain ⟨ao, c, rfl, _, hlen, _, hc⟩ := hr
  obtain ⟨bo, d, rfl, hlen2, hd⟩ := hu.open
  generalize matE m = p at *
  generalize vecE l = q at *
  have hpp : (p == p) = true := by simp
  have hqq : (q == q) = true := by simp
  clear hc hel hd hu hul hs hs2 htab
  go_enter Tryz.func5, Tryz.ntmps5
  go_wp2_with fail
  refine H0.out.mono ?_
  rintro e w1 ⟨rfl, E1⟩
  go_wp2_with fail
  refine (H1.out _ E1).mono ?_
  rintro e w2 ⟨n1, rfl, X2⟩
  have E2 := E1.trans X2
  clear E1 X2
  go_wp2_with fail
  refine (H2.out _ _ (by exact lit_rows_one _ _ (HU.out.ext E2) _ (by first | rfl | simp))).mono ?_
  rintro e w3 ⟨n2, rfl, X3⟩
  have E3 := E2.trans (Ext.trans (by repeat' (first | with_reducible exact Ext.refl _ | with_reducible apply Ext.alloc)) X3)
  clear E2 X3
  by_cases hn : (6000 : Int) < wrap64 (n1 + n2)
  · go_wp2_with fail
    go_ret
    exact ⟨by first | rfl | simp, E3⟩
  · go_wp2_with fail
    refine (H3.out _ E3).mono ?_
    rintro e w4 ⟨rfl, X4⟩
    have E4 := E3.trans X4
    clear E3 X4
    go_wp2_with fail
    refine (H4.out _ E4).mono ?_
    rintro e w5 ⟨rfl, X5⟩
    have E5 := E4.trans X5
    clear E4 X5
    go_wp2_with fail
    refine (H5.out _ E5).mono ?_
    rintro e w6 ⟨rfl, X6⟩
    have E6 := E5.trans X6
    clear E5 X6
    go_wp2_with fail
    refine (H6.out _ E6).mono ?_
    rintro e w7 ⟨rfl, X7⟩
    have E7 := E6.trans X7
    clear E6 X7
    go_wp2_with fail
    go_ret
    exact ⟨by first | rfl | simp, E7⟩
end Go.Proofs.YtjnaecicdaiimaaGreatDoor
