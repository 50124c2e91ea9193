/- walk of the law TablePacks, over tableFact's contract -/
import Derived.Test.YtllhgkacbpgemaaDoorTable6
namespace Go.Proofs.YtllhgkacbpgemaaDoor
open Go.RowKit
set_option linter.unusedVariables false

def TFact (w : World) : Prop := Calls Tryd.prog 26 #[] w fun e w' => e = .returned (.bool true) ∧ Ext w w'
theorem tabPow_ext {w w' : World} (h : TabPow w) (he : Ext w w') : TabPow w' := Lib.tabBelow_of_tabIs h w' he

set_option maxHeartbeats 800000 in
set_option maxRecDepth 100000 in
theorem packs_bad (v : Value) (xs : List Int) (s : ByteArray) (w : World) (hTF : TFact w) (htab : TabPow w) (hv : Ints w v xs) (hs : s.size ≤ 9223372036854775807) (hq0 : tblErr xs ≠ 0) :
    Calls Tryd.prog 7 #[v, .string s] w fun e w' => e = .returned (.bool true) ∧ Ext w w' := by
  obtain ⟨q, hq⟩ : ∃ q, Hid (tblErr xs = q) := ⟨_, rfl⟩
  rw [hq.out] at hq0
  obtain ⟨d, hd⟩ : ∃ d, Hid (sumF s = d) := ⟨_, rfl⟩
  have HTF := Lib.hid hTF
  have HP := Lib.hid (fun w' (hx : Ext w w') => pack_bad v xs w' (hv.ext hx) q hq hq0)
  have HC := Lib.hid (fun w' (hx : Ext w w') => tcheck_any v xs w' (hv.ext hx) q hq)
  have HE := Lib.hid (fun w' (hx : Ext w w') => tableError_any v xs w' (hv.ext hx) q hq)
  have HS := Lib.hid (fun w' => sum_any s w' hs d hd)
  have HR := Lib.hid (fun w' => tableSum_any s w' hs d hd)
  have hqb : (q != 0) = true := by simp [hq0]
  have hqq : (q != q) = false := by simp
  have hqe : (q == q) = true := by simp
  have hdd : ((d : Int) != (d : Int)) = false := by simp
  clear hv hTF htab hq0
  go_enter Tryd.func7, Tryd.ntmps7
  go_wp2_with fail
  refine HTF.out.mono ?_
  rintro e w1 ⟨rfl, X1⟩
  go_wp2_with fail
  refine (HP.out _ X1).mono ?_
  rintro e w2 ⟨rfl, X2⟩
  go_wp2_with fail
  refine (HE.out _ (X1.trans X2)).mono ?_
  rintro e w3 ⟨rfl, rfl⟩
  go_wp2_with fail
  refine (HC.out _ (X1.trans X2)).mono ?_
  rintro e w4 ⟨rfl, X4⟩
  go_wp2_with fail
  refine (HS.out _).mono ?_
  rintro e w5 ⟨rfl, rfl⟩
  go_wp2_with fail
  refine (HR.out _).mono ?_
  rintro e w6 ⟨rfl, rfl⟩
  go_wp2_with fail
  go_ret
  exact ⟨rfl, X1.trans (X2.trans X4)⟩

set_option maxHeartbeats 800000 in
set_option maxRecDepth 100000 in
theorem packs_good (v : Value) (xs : List Int) (s : ByteArray) (w : World) (hTF : TFact w) (htab : TabPow w) (hv : Ints w v xs) (hs : s.size ≤ 9223372036854775807) (hq : Hid (tblErr xs = 0)) :
    Calls Tryd.prog 7 #[v, .string s] w fun e w' => e = .returned (.bool true) ∧ Ext w w' := by
  obtain ⟨d, hd⟩ : ∃ d, Hid (sumF s = d) := ⟨_, rfl⟩
  have HTF := Lib.hid hTF
  have HP := Lib.hid (fun w' (hx : Ext w w') => pack_any v xs w' (hv.ext hx) hq (tabPow_ext htab hx))
  have HC := Lib.hid (fun w' (hx : Ext w w') => tcheck_any v xs w' (hv.ext hx) 0 hq)
  have HE := Lib.hid (fun w' (hx : Ext w w') => tableError_any v xs w' (hv.ext hx) 0 hq)
  have HS := Lib.hid (fun w' => sum_any s w' hs d hd)
  have HR := Lib.hid (fun w' => tableSum_any s w' hs d hd)
  have HX := Lib.hid (fun w' (hx : Ext w w') => tableText_any v xs w' (hv.ext hx) hq.out)
  obtain ⟨T, hT⟩ : ∃ T, Hid (tabT xs = T) := ⟨_, rfl⟩
  rw [hT.out] at HX HP
  have hdd : ((d : Int) != (d : Int)) = false := by simp
  clear hv hTF htab
  go_enter Tryd.func7, Tryd.ntmps7
  go_wp2_with fail
  refine HTF.out.mono ?_
  rintro e w1 ⟨rfl, X1⟩
  go_wp2_with fail
  refine (HP.out _ X1).mono ?_
  rintro e w2 ⟨rfl, X2⟩
  go_wp2_with fail
  refine (HE.out _ (X1.trans X2)).mono ?_
  rintro e w3 ⟨rfl, rfl⟩
  go_wp2_with fail
  refine (HC.out _ (X1.trans X2)).mono ?_
  rintro e w4 ⟨rfl, X4⟩
  go_wp2_with fail
  refine (HS.out _).mono ?_
  rintro e w5 ⟨rfl, rfl⟩
  go_wp2_with fail
  refine (HR.out _).mono ?_
  rintro e w6 ⟨rfl, rfl⟩
  go_wp2_with fail
  refine (HX.out _ (X1.trans (X2.trans X4))).mono ?_
  rintro e w7 ⟨rfl, rfl⟩
  go_wp2_with fail
  go_ret
  exact ⟨rfl, X1.trans (X2.trans X4)⟩
theorem packs_walk0 (v : Value) (xs : List Int) (s : ByteArray) (w : World) (hTF : TFact w) (htab : TabPow w) (hv : Ints w v xs) (hs : s.size ≤ 9223372036854775807) :
    Calls Tryd.prog 7 #[v, .string s] w fun e w' => e = .returned (.bool true) ∧ Ext w w' := by
  by_cases h : tblErr xs = 0
  · exact packs_good v xs s w hTF htab hv hs h
  · exact packs_bad v xs s w hTF htab hv hs h
end Go.Proofs.YtllhgkacbpgemaaDoor
