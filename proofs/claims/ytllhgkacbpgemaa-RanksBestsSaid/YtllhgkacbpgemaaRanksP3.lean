/- the check of all sorted ranks, part 3 -/
import Derived.Test.YtllhgkacbpgemaaRanksP
namespace Go.Proofs.Ytllhgkacbpgemaa
theorem chk_2_2 : allChk 2 2 = true := by decide +kernel
theorem chk_2_3 : allChk 2 3 = true := by decide +kernel
theorem chk_2_4 : allChk 2 4 = true := by decide +kernel
theorem chk_2_5 : allChk 2 5 = true := by decide +kernel
theorem chk_2_6 : allChk 2 6 = true := by decide +kernel
theorem chk_2_7 : allChk 2 7 = true := by decide +kernel
theorem chk_2_8 : allChk 2 8 = true := by decide +kernel
theorem chk_2_9 : allChk 2 9 = true := by decide +kernel
theorem chk_2_10 : allChk 2 10 = true := by decide +kernel
theorem chk_2_11 : allChk 2 11 = true := by decide +kernel
theorem chk_2_12 : allChk 2 12 = true := by decide +kernel
theorem chk_3_3 : allChk 3 3 = true := by decide +kernel
theorem chk_3_4 : allChk 3 4 = true := by decide +kernel
theorem chk_3_5 : allChk 3 5 = true := by decide +kernel
theorem chk_3_6 : allChk 3 6 = true := by decide +kernel
theorem chk_3_7 : allChk 3 7 = true := by decide +kernel
theorem chk_3_8 : allChk 3 8 = true := by decide +kernel
theorem chk_3_9 : allChk 3 9 = true := by decide +kernel
theorem chk_3_10 : allChk 3 10 = true := by decide +kernel
theorem chk_3_11 : allChk 3 11 = true := by decide +kernel
theorem chk_3_12 : allChk 3 12 = true := by decide +kernel
end Go.Proofs.Ytllhgkacbpgemaa
