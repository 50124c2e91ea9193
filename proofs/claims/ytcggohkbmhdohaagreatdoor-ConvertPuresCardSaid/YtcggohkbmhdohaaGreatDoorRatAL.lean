/- plain: the sum of a list, the first one of its greatest numbers, the texts 0 and 1 -/
import Derived.Test.YtcggohkbmhdohaaGreatDoorRtK
import Derived.Test.YtcggohkbmhdohaaGreatDoorRtGI
namespace Go.Proofs.YtcggohkbmhdohaaGreatDoor
open Go.RowKit
set_option linter.unusedVariables false
theorem RB_zero:RB 1 0:=⟨by decide,by decide⟩
theorem ratT_is {c:UInt8} {k:Nat} (hk:∀ n,decT n=⟨#[c]⟩ ↔ n=k) (hc:c ≠ 45) (q:Rat):((ratT q).toList == [c])=decide (q=((k:Int):Rat)):=by
 rw [Bool.eq_iff_iff,beq_iff_eq,decide_eq_true_eq,Lib.toList_data,ratT_abs]
 constructor
 · intro h
   split at h
   · rw [bytes_data_append] at h
     exact absurd (List.cons.inj h).1.symm hc
   · rename_i hn
     rw [absT_data] at h
     by_cases hd:q.den=1
     · rw [if_pos hd,List.append_nil] at h
       have h2:decT q.num.natAbs=⟨#[c]⟩:=bytes_of_list (by rw [decT_bytes]; exact h)
       have h3:=(hk _).1 h2
       apply Rat.ext
       · rw [Rat.num_intCast]; omega
       · rw [Rat.den_intCast]; exact hd
     · rw [if_neg hd] at h
       have hl:=congrArg List.length h
       have hp:=List.length_pos_iff.2 (dd_ne q.num.natAbs)
       rw [List.length_append,List.length_cons,List.length_singleton] at hl
       omega
 · rintro rfl
   rw [Rat.num_intCast,if_neg (by omega),absT_int _ (Rat.den_intCast _),Rat.num_intCast,Int.natAbs_natCast,(hk k).2 rfl]
theorem ratT_is0 (q:Rat):((ratT q).toList == [48])=decide (q=0):=ratT_is (k:=0) (fun n => decT_zero_iff) (by decide) q
theorem ratT_is1 (q:Rat):((ratT q).toList == [49])=decide (q=((1:Int):Rat)):=ratT_is (k:=1) (fun n => decT_one_iff) (by decide) q
theorem negB_num {s:ByteArray} (h:RatOk s):negB s=decide ((ratOf s).num < 0):=by
 obtain ⟨p1,_⟩:=ratOf_parts h
 rw [p1]
 cases hn:negB s with
 | false => exact (decide_eq_false (by unfold sg; rw [if_neg (by simp)]; omega)).symm
 | true =>
   have:=h.ng hn
   exact (decide_eq_true (by unfold sg; rw [if_pos rfl]; omega)).symm
theorem cmpQ_zero (a b:Rat):cmpQ a b=0 ↔ a=b:=by
 unfold cmpQ
 rw [Int.sign_eq_zero_iff_zero,Rat.eq_iff_mul_eq_mul]
 omega
end Go.Proofs.YtcggohkbmhdohaaGreatDoor
