/- the check of all sorted ranks, part 2 -/
import Derived.Test.YtllhgkacbpgemaaRanksP
namespace Go.Proofs.Ytllhgkacbpgemaa
theorem chk_1_1 : allChk 1 1 = true := by decide +kernel
theorem chk_1_2 : allChk 1 2 = true := by decide +kernel
theorem chk_1_3 : allChk 1 3 = true := by decide +kernel
theorem chk_1_4 : allChk 1 4 = true := by decide +kernel
theorem chk_1_5 : allChk 1 5 = true := by decide +kernel
theorem chk_1_6 : allChk 1 6 = true := by decide +kernel
theorem chk_1_7 : allChk 1 7 = true := by decide +kernel
theorem chk_1_8 : allChk 1 8 = true := by decide +kernel
theorem chk_1_9 : allChk 1 9 = true := by decide +kernel
theorem chk_1_10 : allChk 1 10 = true := by decide +kernel
theorem chk_1_11 : allChk 1 11 = true := by decide +kernel
theorem chk_1_12 : allChk 1 12 = true := by decide +kernel
end Go.Proofs.Ytllhgkacbpgemaa
