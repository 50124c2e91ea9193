/- the check of all sorted ranks, part 1 -/
import Derived.Test.YtllhgkacbpgemaaRanksP
namespace Go.Proofs.Ytllhgkacbpgemaa
theorem chk_0_0 : allChk 0 0 = true := by decide +kernel
theorem chk_0_1 : allChk 0 1 = true := by decide +kernel
theorem chk_0_2 : allChk 0 2 = true := by decide +kernel
theorem chk_0_3 : allChk 0 3 = true := by decide +kernel
theorem chk_0_4 : allChk 0 4 = true := by decide +kernel
theorem chk_0_5 : allChk 0 5 = true := by decide +kernel
theorem chk_0_6 : allChk 0 6 = true := by decide +kernel
theorem chk_0_7 : allChk 0 7 = true := by decide +kernel
theorem chk_0_8 : allChk 0 8 = true := by decide +kernel
theorem chk_0_9 : allChk 0 9 = true := by decide +kernel
theorem chk_0_10 : allChk 0 10 = true := by decide +kernel
theorem chk_0_11 : allChk 0 11 = true := by decide +kernel
theorem chk_0_12 : allChk 0 12 = true := by decide +kernel
end Go.Proofs.Ytllhgkacbpgemaa
