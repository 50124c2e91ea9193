/- texts merged: Nat1 Nat2 Nat3 Nat4 NatF NatG NatP NatQ NatR NatS -/
import Derived.Test.YtcggohkbmhdohaaGreatDoorWkC
import Derived.Lib.SlTrimSet
import Derived.Shelf.Strings.SlTrimAscii
import Derived.Test.YtcggohkbmhdohaaGreatDoorSlB
import Derived.Laws.IdiomStrings
namespace Go.Proofs.YtcggohkbmhdohaaGreatDoor
open Go.RowKit
set_option linter.unusedVariables false
def digB (b:UInt8):Bool:=decide (48 ≤ b.toNat) && decide (b.toNat ≤ 57)
def natB (l:List UInt8):Bool:=!l.isEmpty && (l.all digB && (decide (l.head? ≠ some 48) || decide (l.length=1)))
theorem digB_iff {b:UInt8}:digB b=true ↔ 48 ≤ b.toNat ∧ b.toNat ≤ 57:=by simp [digB]
theorem natB_iff {l:List UInt8}:natB l=true ↔ Canon l:=by
 unfold natB Canon AllD
 simp only [Bool.and_eq_true,Bool.not_eq_true',List.isEmpty_eq_false_iff,List.all_eq_true,digB_iff,Bool.or_eq_true,decide_eq_true_eq]
 constructor
 · rintro ⟨h1,h2,h3⟩
   exact ⟨h2,h1,fun h => h3.resolve_left (fun hn => hn h)⟩
 · rintro ⟨h1,h2,h3⟩
   refine ⟨h2,h1,?_⟩
   by_cases h:l.head?=some 48
   · exact .inr (h3 h)
   · exact .inl h
def natErr (s:ByteArray):Int:=if natB s.data.toList=true then (if 2000 < s.size then 2 else 0) else 5
def numB (s:ByteArray):Nat:=decF 0 s.data.toList
theorem isEmpty_zero {s:ByteArray} (h:s.size=0):s.toList.isEmpty=true:=by
 rw [Lib.toList_data,List.isEmpty_iff]
 exact List.eq_nil_of_length_eq_zero (by rw [Array.length_toList]; exact h)
theorem isEmpty_pos {s:ByteArray} (h:s.size ≠ 0):s.toList.isEmpty=false:=by
 rw [Lib.toList_data,List.isEmpty_eq_false_iff]
 intro e
 have:=congrArg List.length e
 rw [Array.length_toList] at this
 exact h this
def digitsT:ByteArray:=⟨#[48,49,50,51,52,53,54,55,56,57]⟩
theorem digitsT_has (b:UInt8):digitsT.data.toList.contains b=digB b:=by
 have h:∀ i:Fin 256,digitsT.data.toList.contains (UInt8.ofNat i.val)=digB (UInt8.ofNat i.val):=by decide +kernel
 have:=h ⟨b.toNat,b.toNat_lt⟩
 simpa using this
theorem dropWhile_all {α:Type} {p:α → Bool} {l:List α} (h:l.all p=true):l.dropWhile p=[]:=by
 induction l with
 | nil => rfl
 | cons a t ih =>
   rw [List.all_cons,Bool.and_eq_true] at h
   rw [List.dropWhile_cons,if_pos h.1]; exact ih h.2
theorem dropWhile_some {α:Type} {p:α → Bool} {l:List α} (h:l.all p=false):∃ a t,l.dropWhile p=a :: t ∧ p a=false:=by
 induction l with
 | nil => cases h
 | cons a t ih =>
   rw [List.dropWhile_cons]
   by_cases hp:p a=true
   · rw [if_pos hp]
     rw [List.all_cons,hp,Bool.true_and] at h
     exact ih h
   · rw [if_neg hp]
     exact ⟨a,t,rfl,by simpa using hp⟩
theorem trim_digits (l:List UInt8):(Lib.trimS l digitsT.data.toList).isEmpty=l.all digB:=by
 have hp:(fun b => digitsT.data.toList.contains b)=digB:=funext digitsT_has
 unfold Lib.trimS Lib.trimRightS Lib.trimLeftS
 rw [hp]
 cases h:l.all digB with
 | true =>
   have e:l.reverse.dropWhile digB=[]:=dropWhile_all (by rw [List.all_reverse]; exact h)
   rw [e]; rfl
 | false =>
   obtain ⟨a,t,h1,h2⟩:=dropWhile_some (p:=digB) (l:=l.reverse) (by rw [List.all_reverse]; exact h)
   rw [h1,List.reverse_cons]
   have:(t.reverse ++ [a]).all digB=false:=by rw [List.all_append,List.all_cons,h2]; simp
   obtain ⟨b,u,h3,_⟩:=dropWhile_some this
   rw [h3]; rfl
theorem trim_any (s:ByteArray) (w:World) (hs:s.size ≤ 9223372036854775807) :
 Calls Tryz.prog 184 #[.string s,.string digitsT] w fun e w' => ∃ T:ByteArray,e=.returned (.string T) ∧ T.toList.isEmpty=s.data.toList.all digB ∧ Ext w w':=by
 refine (Any.strings_Trim_laid Tryz.lays160 (by kernel_rfl) s digitsT w hs (by decide) (fun j b hb => ascii_of_all (l:=digitsT.data.toList) (by decide) j b hb)).mono ?_
 rintro e w' ⟨rfl,hb⟩
 exact ⟨_,rfl,by rw [Lib.toList_data,← trim_digits],hb⟩
set_option maxHeartbeats 1600000 in
set_option maxRecDepth 100000 in
theorem digits_any (s:ByteArray) (w:World) (hs:s.size ≤ 9223372036854775807) :
 Calls Tryz.prog 167 #[.string s] w fun e w' => e=.returned (.bool (natB s.data.toList)) ∧ Ext w w':=by
 obtain ⟨q,hq⟩:∃ q,natB s.data.toList=q:=⟨_,rfl⟩
 rw [hq]
 have hT:=Lib.hid (fun W => trim_any s W hs)
 by_cases h0:s.size=0
 · have he:=isEmpty_zero h0
   have hq2:Hid (q=false):=by
    show _=_
    rw [← hq,List.eq_nil_of_length_eq_zero (show s.data.toList.length=0 by rw [bsz]; exact h0)]; rfl
   clear hq h0
   go_enter Tryz.func167,Tryz.ntmps167
   go_wp2_with fail
   go_ret
   exact ⟨by rw [hq2.out]; rfl,Ext.refl _⟩
 · have he:=isEmpty_pos h0
   have hne:s.data.toList ≠ []:=by
    intro e
    have:=congrArg List.length e
    rw [bsz] at this; exact h0 this
   have hie:s.data.toList.isEmpty=false:=List.isEmpty_eq_false_iff.2 hne
   rw [natB,hie,Bool.not_false,Bool.true_and] at hq
   cases ha:s.data.toList.all digB with
   | false =>
     rw [ha,Bool.false_and] at hq
     rw [ha] at hT
     have hq2:Hid (q=false):=hq.symm
     clear hq h0 hne hie ha
     go_enter Tryz.func167,Tryz.ntmps167
     go_wp2_with fail
     refine (hT.out _).mono ?_
     rintro e w1 ⟨T,rfl,hTe,X1⟩
     go_wp2_with fail
     go_ret
     exact ⟨by rw [hq2.out]; rfl,X1⟩
   | true =>
     rw [ha,Bool.true_and] at hq
     rw [ha] at hT
     have hlt:0 < s.size:=by omega
     have hi0:(0:Int) < (s.size:Int):=by omega
     have hh:s.data.toList.head?=some s[0]:=by
      rw [List.head?_eq_getElem?,List.getElem?_eq_getElem (by rw [bsz]; exact hlt)]; rfl
     rw [hh,bsz] at hq
     by_cases hz:s[0]=48
     · have hb:((s[0].toNat:Int) != 48)=false:=by rw [hz]; rfl
       rw [hz] at hq
       have hb2:Hid (decide (s.size=1)=q):=by show _=_; rw [← hq]; simp
       obtain ⟨q2,hq2⟩:∃ q2,(((s.size:Nat):Int) == 1)=q2:=⟨_,rfl⟩
       have hqq:Hid (q=q2):=by
        show _=_
        rw [← hb2.out,← hq2]
        by_cases h1:s.size=1
        · rw [h1]; rfl
        · rw [decide_eq_false h1]; symm; rw [beq_eq_false_iff_ne]; omega
       clear hq h0 hne hie ha hh hz hb2
       go_enter Tryz.func167,Tryz.ntmps167
       go_wp2_with fail
       refine (hT.out _).mono ?_
       rintro e w1 ⟨T,rfl,hTe,X1⟩
       go_wp2_with fail
       go_ret
       exact ⟨by rw [hqq.out]; rfl,X1⟩
     · have hb:((s[0].toNat:Int) != 48)=true:=by
        simp
        intro e
        apply hz
        apply UInt8.toNat_inj.1
        have:(48:UInt8).toNat=48:=rfl
        omega
       have hq2:Hid (q=true):=by show _=_; rw [← hq]; simp [hz]
       clear hq h0 hne hie ha hh hz
       go_enter Tryz.func167,Tryz.ntmps167
       go_wp2_with fail
       refine (hT.out _).mono ?_
       rintro e w1 ⟨T,rfl,hTe,X1⟩
       go_wp2_with fail
       go_ret
       exact ⟨by rw [hq2.out]; rfl,X1⟩
theorem natErr_zero {s:ByteArray} (h:natErr s=0):Canon s.data.toList ∧ s.size ≤ 2000:=by
 unfold natErr at h
 split at h
 · rename_i h1
   split at h
   · cases h
   · exact ⟨natB_iff.1 h1,by omega⟩
 · cases h
theorem natErr_text {s:ByteArray} (h:natErr s=0):s=decT (numB s):=by
 have h1:=canon_dd (natErr_zero h).1
 unfold decT numB
 rw [← h1]
theorem pow10_B (k:Nat):10 ^ k ≤ 4294967296 ^ k:=Nat.pow_le_pow_left (by omega) k
theorem dig_le10 {n k K:Nat} (h:n < 10 ^ k) (hk:k ≤ K):(dig n).length ≤ K :=
 dig_len_lt (Nat.lt_of_lt_of_le h (Nat.le_trans (pow10_B _) (Nat.pow_le_pow_right (by omega) hk)))
theorem decT_size (n:Nat):(decT n).size=(Lib.decDigits n).length:=by rw [← bsz,decT_list]
def tenP (k:Nat):Nat:=10 ^ k
theorem tenP_le {j k:Nat} (h:j ≤ k):tenP j ≤ tenP k:=Nat.pow_le_pow_right (by omega) h
theorem tenP_add (j k:Nat):tenP j * tenP k=tenP (j + k):=(Nat.pow_add 10 j k).symm
theorem tenP_succ (k:Nat):tenP (k + 1)=tenP k * 10:=Nat.pow_succ 10 k
theorem bdrop {s:ByteArray} {k:Nat} (h:k < s.size):s.data.toList.drop k=s[k] :: s.data.toList.drop (k + 1):=by
 have h2:k < s.data.toList.length:=by rw [Array.length_toList]; exact h
 rw [List.drop_eq_getElem_cons h2]; rfl
set_option maxHeartbeats 1600000 in
set_option maxRecDepth 100000 in
theorem natError_any (s:ByteArray) (w:World) (hs:s.size ≤ 9223372036854775807) (q:Int) (hq:Hid (natErr s=q)) :
 Calls Tryz.prog 136 #[.string s] w fun e w' => e=.returned (.int .i64 q) ∧ Ext w w':=by
 have hq2:=hq.out
 rw [natErr] at hq2
 clear hq
 by_cases h0:s.size=0
 · have hn:natB s.data.toList=false:=by rw [List.eq_nil_of_length_eq_zero (show s.data.toList.length=0 by rw [bsz]; exact h0)]; rfl
   rw [hn,if_neg (by decide)] at hq2
   subst hq2
   have h0i:(s.size:Int)=0:=by omega
   clear hn
   go_enter Tryz.func136,Tryz.ntmps136
   go_wp2_with fail
   go_ret
   exact ⟨rfl,Ext.refl _⟩
 · have hlt0:0 < s.size:=by omega
   have hi0:((s.size:Int) == 0)=false:=by rw [beq_eq_false_iff_ne]; omega
   have hie:s.data.toList.isEmpty=false:=by
    rw [List.isEmpty_eq_false_iff]
    intro e
    have:=congrArg List.length e
    rw [bsz] at this; exact h0 this
   have hh:s.data.toList.head?=some s[0]:=by
    rw [List.head?_eq_getElem?,List.getElem?_eq_getElem (by rw [bsz]; exact hlt0)]; rfl
   rw [natB,hie,Bool.not_false,Bool.true_and,hh,bsz] at hq2
   cases ha:s.data.toList.all digB with
   | false =>
     rw [ha,Bool.false_and,if_neg (by decide)] at hq2
     subst hq2
     have HA:Hid ((s.data.toList.drop 0).all digB=false):=ha
     clear ha hh hie h0
     go_enter Tryz.func136,Tryz.ntmps136
     go_wp2_with fail
     go_loop [3] (fun i => ∃ k:Nat,k ≤ s.size ∧ i=.int .i64 k ∧ Hid ((s.data.toList.drop k).all digB=false)) (fun i => s.size - (intOf i).toNat)
     case atStart => exact ⟨0,Nat.zero_le _,rfl,HA⟩
     case round =>
      obtain ⟨k,hk,rfl,HI⟩:=hrel
      by_cases hlt:k < s.size
      · have hki:(k:Int) < (s.size:Int):=by omega
        have hi:=HI.out
        rw [bdrop hlt,List.all_cons] at hi
        obtain ⟨c,hc⟩:∃ c:Nat,s[k].toNat=c:=⟨_,rfl⟩
        have hd:digB s[k]=(decide (48 ≤ c) && decide (c ≤ 57)):=by rw [digB,hc]
        rw [hd] at hi
        have hcc:c < 48 ∨ (48 ≤ c ∧ 57 < c) ∨ (48 ≤ c ∧ c ≤ 57):=by omega
        rcases hcc with h1 | ⟨h1,h2⟩ | ⟨h1,h2⟩
        · have h1i:(s[k].toNat:Int) < 48:=by omega
          clear hi hd hc
          go_wp2_with fail
          go_ret
          exact ⟨rfl,Ext.refl _⟩
        · have h1i:(48:Int) ≤ (s[k].toNat:Int):=by omega
          have h2i:(57:Int) < (s[k].toNat:Int):=by omega
          clear hi hd hc
          go_wp2_with fail
          go_ret
          exact ⟨rfl,Ext.refl _⟩
        · have h1i:(48:Int) ≤ (s[k].toNat:Int):=by omega
          have h2i:(s[k].toNat:Int) ≤ 57:=by omega
          rw [decide_eq_true h1,decide_eq_true h2,Bool.and_self,Bool.true_and] at hi
          have HI2:=Lib.hid hi
          clear hi hd hc
          go_wp2_with fail
          go_round
          case rel => exact ⟨k + 1,by omega,by go_num,HI2⟩
          case measure => simp [intOf]; omega
      · exfalso
        have hi:=HI.out
        rw [List.drop_eq_nil_of_le (by rw [bsz]; omega)] at hi
        cases hi
   | true =>
     rw [ha,Bool.true_and] at hq2
     have HA:Hid ((s.data.toList.drop 0).all digB=true):=ha
     have hcase:(1 < s.size ∧ s[0]=48 ∧ q=5) ∨ (s.size ≤ 1 ∧ q=0) ∨ (1 < s.size ∧ s[0] ≠ 48 ∧ s.size ≤ 2000 ∧ q=0) ∨ (1 < s.size ∧ s[0] ≠ 48 ∧ 2000 < s.size ∧ q=2):=by
      by_cases h1:s.size ≤ 1
      · have h1s:s.size=1:=by omega
        refine .inr (.inl ⟨h1,?_⟩)
        rw [← hq2,h1s]; simp
      · by_cases h4:s[0]=48
        · refine .inl ⟨by omega,h4,?_⟩
          rw [← hq2,h4]
          have:¬ s.size=1:=by omega
          simp [this]
        · by_cases h5:2000 < s.size
          · refine .inr (.inr (.inr ⟨by omega,h4,h5,?_⟩))
            rw [← hq2]; simp [h4,h5]
          · refine .inr (.inr (.inl ⟨by omega,h4,by omega,?_⟩))
            rw [← hq2]; simp [h4,h5]
     have hz:s[0]=48 ∨ s[0] ≠ 48:=Decidable.em _
     clear hq2 ha hh hie h0
     have hstep:Hid (∀ k (h:k < s.size),(s.data.toList.drop k).all digB=true → (48:Int) ≤ (s[k].toNat:Int) ∧ (s[k].toNat:Int) ≤ 57 ∧ (s.data.toList.drop (k + 1)).all digB=true):=by
      intro k h hi
      rw [bdrop h,List.all_cons,Bool.and_eq_true,digB_iff] at hi
      exact ⟨by omega,by omega,hi.2⟩
     have h48:Hid (s[0]=48 → ((s[0].toNat:Int) == 48)=true):=by intro h; rw [h]; rfl
     have hn48:Hid (s[0] ≠ 48 → ((s[0].toNat:Int) == 48)=false):=by
      intro h
      rw [beq_eq_false_iff_ne]
      intro e
      apply h
      apply UInt8.toNat_inj.1
      have:(48:UInt8).toNat=48:=rfl
      omega
     clear hz
     rcases hcase with ⟨h1,h2,rfl⟩ | ⟨h1,rfl⟩ | ⟨h1,h2,h3,rfl⟩ | ⟨h1,h2,h3,rfl⟩
     · have hb:=h48.out h2
       have h1i:(1:Int) < (s.size:Int):=by omega
       clear h2 h48 hn48
       go_enter Tryz.func136,Tryz.ntmps136
       go_wp2_with fail
       go_loop [3] (fun i => ∃ k:Nat,k ≤ s.size ∧ i=.int .i64 k ∧ Hid ((s.data.toList.drop k).all digB=true)) (fun i => s.size - (intOf i).toNat)
       case atStart => exact ⟨0,Nat.zero_le _,rfl,HA⟩
       case round =>
        obtain ⟨k,hk,rfl,HI⟩:=hrel
        by_cases hlt:k < s.size
        · have hki:(k:Int) < (s.size:Int):=by omega
          obtain ⟨h1i,h2i,hi⟩:=hstep.out k hlt HI.out
          have HI2:=Lib.hid hi
          clear hi
          go_wp2_with fail
          go_round
          case rel => exact ⟨k + 1,by omega,by go_num,HI2⟩
          case measure => simp [intOf]; omega
        · have hki:(s.size:Int) ≤ (k:Int):=by omega
          clear HI
          go_wp2_with fail
          go_ret
          exact ⟨rfl,Ext.refl _⟩
     · have h1i:(s.size:Int) ≤ 1:=by omega
       clear h48 hn48
       go_enter Tryz.func136,Tryz.ntmps136
       go_wp2_with fail
       go_loop [3] (fun i => ∃ k:Nat,k ≤ s.size ∧ i=.int .i64 k ∧ Hid ((s.data.toList.drop k).all digB=true)) (fun i => s.size - (intOf i).toNat)
       case atStart => exact ⟨0,Nat.zero_le _,rfl,HA⟩
       case round =>
        obtain ⟨k,hk,rfl,HI⟩:=hrel
        by_cases hlt:k < s.size
        · have hki:(k:Int) < (s.size:Int):=by omega
          obtain ⟨h1i,h2i,hi⟩:=hstep.out k hlt HI.out
          have HI2:=Lib.hid hi
          clear hi
          go_wp2_with fail
          go_round
          case rel => exact ⟨k + 1,by omega,by go_num,HI2⟩
          case measure => simp [intOf]; omega
        · have hki:(s.size:Int) ≤ (k:Int):=by omega
          clear HI
          go_wp2_with fail
          go_ret
          exact ⟨rfl,Ext.refl _⟩
     all_goals
      have hb:=hn48.out h2
      have h1i:(1:Int) < (s.size:Int):=by omega
      clear h2 h48 hn48
      go_enter Tryz.func136,Tryz.ntmps136
      go_wp2_with fail
      go_loop [3] (fun i => ∃ k:Nat,k ≤ s.size ∧ i=.int .i64 k ∧ Hid ((s.data.toList.drop k).all digB=true)) (fun i => s.size - (intOf i).toNat)
      case atStart => exact ⟨0,Nat.zero_le _,rfl,HA⟩
      case round =>
       obtain ⟨k,hk,rfl,HI⟩:=hrel
       by_cases hlt:k < s.size
       · have hki:(k:Int) < (s.size:Int):=by omega
         obtain ⟨h1i,h2i,hi⟩:=hstep.out k hlt HI.out
         have HI2:=Lib.hid hi
         clear hi
         go_wp2_with fail
         go_round
         case rel => exact ⟨k + 1,by omega,by go_num,HI2⟩
         case measure => simp [intOf]; omega
       · have hki:(s.size:Int) ≤ (k:Int):=by omega
         clear HI
         go_wp2_with fail
         go_ret
         exact ⟨rfl,Ext.refl _⟩
def v10:List Nat → Nat
 | [] => 0
 | a :: t => a + 10 * v10 t
def D9 (l:List Nat):Prop:=∀ d ∈ l,d ≤ 9
def rd (l:List UInt8):List Nat:=l.reverse.map (fun b => b.toNat - 48)
def bl (ds:List Nat):List UInt8:=ds.reverse.map (fun d => (48 + d).toUInt8)
theorem v10_append (x y:List Nat):v10 (x ++ y)=v10 x + tenP x.length * v10 y:=by
 induction x with
 | nil => simp [v10,tenP]
 | cons a t ih =>
   rw [List.cons_append,v10,ih,v10,List.length_cons,tenP_succ,Nat.mul_add,Nat.mul_comm (tenP t.length) 10,Nat.mul_assoc]
   omega
theorem v10_snoc (x:List Nat) (d:Nat):v10 (x ++ [d])=v10 x + tenP x.length * d:=by
 rw [v10_append]; simp [v10]
theorem v10_lt {l:List Nat} (h:D9 l):v10 l < tenP l.length:=by
 induction l with
 | nil => exact Nat.one_pos
 | cons a t ih =>
   have h1:=ih (fun d hd => h d (List.mem_cons_of_mem _ hd))
   have h2:=h a (List.mem_cons_self ..)
   rw [v10,List.length_cons,tenP_succ]
   omega
theorem v10_drop (l:List Nat) (i:Nat):v10 (l.drop i)=l.getD i 0 + 10 * v10 (l.drop (i + 1)):=by
 by_cases h:i < l.length
 · rw [List.drop_eq_getElem_cons h,v10,List.getD_eq_getElem?_getD,List.getElem?_eq_getElem h]; rfl
 · rw [List.drop_eq_nil_of_le (by omega),List.drop_eq_nil_of_le (by omega),List.getD_eq_getElem?_getD,List.getElem?_eq_none (by omega)]; rfl
theorem v10_rd (l:List UInt8):v10 (rd l)=decF 0 l:=by
 have h:∀ m:List UInt8,v10 (rd m.reverse)=decF 0 m.reverse:=by
  intro m
  induction m with
  | nil => rfl
  | cons d t ih =>
    rw [List.reverse_cons,decF_append,decF_cons,decF_nil,← ih]
    unfold rd
    rw [List.reverse_append,List.reverse_reverse]
    simp only [List.reverse_cons,List.reverse_nil,List.nil_append,List.cons_append,List.map_cons,v10]
    omega
 have:=h l.reverse
 rwa [List.reverse_reverse] at this
theorem rd_length (l:List UInt8):(rd l).length=l.length:=by simp [rd]
theorem rd_D9 {l:List UInt8} (h:AllD l):D9 (rd l):=by
 intro d hd
 unfold rd at hd
 rw [List.mem_map] at hd
 obtain ⟨b,hb,rfl⟩:=hd
 have:=h b (List.mem_reverse.1 hb)
 omega
theorem rd_get {l:List UInt8} {k:Nat} (h:k < l.length):(rd l).getD k 0=(l[l.length - 1 - k]'(by omega)).toNat - 48:=by
 rw [List.getD_eq_getElem?_getD,List.getElem?_eq_getElem (by rw [rd_length]; exact h),Option.getD_some]
 unfold rd
 rw [List.getElem_map,List.getElem_reverse]
theorem rd_none {l:List UInt8} {k:Nat} (h:l.length ≤ k):(rd l).getD k 0=0:=by
 rw [List.getD_eq_getElem?_getD,List.getElem?_eq_none (by rw [rd_length]; exact h)]; rfl
theorem getD_le {l:List Nat} (h:D9 l) (k:Nat):l.getD k 0 ≤ 9:=by
 by_cases hk:k < l.length
 · rw [List.getD_eq_getElem?_getD,List.getElem?_eq_getElem hk]
   exact h _ (List.getElem_mem ..)
 · rw [List.getD_eq_getElem?_getD,List.getElem?_eq_none (by omega)]; exact Nat.zero_le _
theorem byte48 {d:Nat} (h:d ≤ 9):((48 + d).toUInt8).toNat=48 + d:=by
 simp [Nat.toUInt8,UInt8.toNat_ofNat']; omega
theorem bl_allD {ds:List Nat} (h:D9 ds):AllD (bl ds):=by
 intro b hb
 unfold bl at hb
 rw [List.mem_map] at hb
 obtain ⟨d,hd,rfl⟩:=hb
 have:=h d (List.mem_reverse.1 hd)
 rw [byte48 this]; omega
theorem rd_bl {ds:List Nat} (h:D9 ds):rd (bl ds)=ds:=by
 unfold rd bl
 rw [← List.map_reverse,List.reverse_reverse,List.map_map]
 conv => rhs; rw [← List.map_id ds]
 apply List.map_congr_left
 intro d hd
 show ((48 + d).toUInt8).toNat - 48=d
 rw [byte48 (h d hd)]; omega
theorem text_dd {ds:List Nat} (h:D9 ds):stripL (48 :: bl ds)=Lib.decDigits (v10 ds):=by
 have ha:AllD (48 :: bl ds):=by
  intro b hb
  rcases List.mem_cons.1 hb with rfl | hb
  · decide
  · exact bl_allD h b hb
 rw [stripL_dd ha (by simp),decF_cons]
 have:(0 * 10 + ((48:UInt8).toNat - 48))=0:=by decide
 rw [this,← v10_rd,rd_bl h]
def AddI (da db:List Nat) (i c:Nat) (out:List Nat) (S:Nat):Prop :=
 out.length=i ∧ D9 out ∧ c ≤ 1 ∧ v10 out + tenP i * (v10 (da.drop i) + v10 (db.drop i) + c)=S
theorem D9.snoc {l:List Nat} {d:Nat} (h:D9 l) (hd:d ≤ 9):D9 (l ++ [d]):=by
 intro x hx
 rcases List.mem_append.1 hx with hx | hx
 · exact h x hx
 · rw [List.mem_singleton] at hx; omega
theorem AddI.start (da db:List Nat):AddI da db 0 0 [] (v10 da + v10 db) :=
 ⟨rfl,fun d hd => (by cases hd),by omega,by simp [v10,tenP]⟩
theorem AddI.step {da db:List Nat} {i c:Nat} {out:List Nat} {S x:Nat} (ha:D9 da) (hb:D9 db) (h:AddI da db i c out S) (hx:da.getD i 0 + db.getD i 0 + c=x) :
 AddI da db (i + 1) (x / 10) (out ++ [x % 10]) S ∧ x ≤ 19:=by
 obtain ⟨h1,h2,h3,h4⟩:=h
 have ga:=getD_le ha i
 have gb:=getD_le hb i
 refine ⟨⟨by simp [h1],h2.snoc (by omega),by omega,?_⟩,by omega⟩
 rw [v10_snoc,h1,tenP_succ,← h4,v10_drop da i,v10_drop db i,Nat.mul_assoc,Nat.add_assoc,← Nat.mul_add]
 congr 2
 omega
theorem AddI.stop {da db:List Nat} {i:Nat} {out:List Nat} {S:Nat} (h:AddI da db i 0 out S) (ha:da.length ≤ i) (hb:db.length ≤ i):v10 out=S:=by
 obtain ⟨h1,h2,h3,h4⟩:=h
 rw [List.drop_eq_nil_of_le ha,List.drop_eq_nil_of_le hb] at h4
 simpa [v10] using h4
def SubI (da db:List Nat) (i c:Nat) (out:List Nat):Prop :=
 out.length=i ∧ D9 out ∧ c ≤ 1 ∧ v10 out + tenP i * v10 (da.drop i) + v10 db=v10 da + tenP i * (v10 (db.drop i) + c)
theorem SubI.start (da db:List Nat):SubI da db 0 0 [] :=
 ⟨rfl,fun d hd => (by cases hd),by omega,by simp [v10,tenP]⟩
theorem SubI.step {da db:List Nat} {i c c2 d:Nat} {out:List Nat} (h:SubI da db i c out) (hd:d ≤ 9) (hc:c2 ≤ 1) (hx:d + db.getD i 0 + c=da.getD i 0 + 10 * c2) :
 SubI da db (i + 1) c2 (out ++ [d]):=by
 obtain ⟨h1,h2,h3,h4⟩:=h
 refine ⟨by simp [h1],h2.snoc hd,hc,?_⟩
 rw [v10_drop da i,v10_drop db i] at h4
 rw [v10_snoc,h1,tenP_succ]
 have e:=congrArg (tenP i * ·) hx
 simp only [Nat.mul_add,Nat.mul_assoc] at e h4 ⊢
 omega
theorem SubI.stop {da db:List Nat} {i c:Nat} {out:List Nat} (h:SubI da db i c out) (ha:da.length=i) (hle:v10 db ≤ v10 da):v10 out=v10 da - v10 db:=by
 obtain ⟨h1,h2,h3,h4⟩:=h
 rw [List.drop_eq_nil_of_le (by omega)] at h4
 have h5:=v10_lt h2
 rw [h1] at h5
 simp only [v10,Nat.mul_zero,Nat.add_zero] at h4
 generalize v10 (db.drop i) + c=X at h4
 have:X=0:=by
  rcases Nat.eq_zero_or_pos X with h | h
  · exact h
  · have:tenP i * 1 ≤ tenP i * X:=Nat.mul_le_mul_left _ h
    omega
 subst this
 omega
theorem bytes_less {l m:List UInt8} (hl:AllD l) (hm:AllD m) (h:l.length=m.length):Op.bytesLess l m=decide (decF 0 l < decF 0 m):=by
 induction l generalizing m with
 | nil =>
   cases m with
   | nil => rfl
   | cons b y => simp at h
 | cons a x ih =>
   cases m with
   | nil => simp at h
   | cons b y =>
     have hx:AllD x:=fun c hc => hl c (List.mem_cons_of_mem _ hc)
     have hy:AllD y:=fun c hc => hm c (List.mem_cons_of_mem _ hc)
     have hn:x.length=y.length:=by simpa using h
     have ha:=hl a (List.mem_cons_self ..)
     have hb:=hm b (List.mem_cons_self ..)
     have lx:=decF_lt hx
     have ly:=decF_lt hy
     rw [Op.bytesLess,ih hx hy hn,decF_cons,decF_cons,Nat.zero_mul,Nat.zero_add,Nat.zero_add,decF_split x (a.toNat - 48),decF_split y (b.toNat - 48),hn]
     rw [hn] at lx
     generalize 10 ^ y.length=T at *
     obtain ⟨p,hp⟩:∃ p,a.toNat - 48=p:=⟨_,rfl⟩
     obtain ⟨q,hq⟩:∃ q,b.toNat - 48=q:=⟨_,rfl⟩
     rw [hp,hq]
     generalize decF 0 x=X at *
     generalize decF 0 y=Y at *
     have e1:(a < b) ↔ p < q:=by rw [UInt8.lt_iff_toNat_lt]; omega
     have e2:(a=b) ↔ p=q:=by rw [← UInt8.toNat_inj]; omega
     by_cases h1:p < q
     · have:(p + 1) * T ≤ q * T:=Nat.mul_le_mul_right _ h1
       rw [Nat.succ_mul] at this
       have h3:p * T + X < q * T + Y:=by omega
       simp [e1,h1,h3]
     · by_cases h2:p=q
       · subst h2
         have h3:¬ a < b:=by rw [e1]; omega
         have h4:a=b:=e2.2 rfl
         simp [h4]
       · have:(q + 1) * T ≤ p * T:=Nat.mul_le_mul_right _ (by omega)
         rw [Nat.succ_mul] at this
         have h3:¬ (p * T + X < q * T + Y):=by omega
         have h4:¬ a < b:=by rw [e1]; exact h1
         have h5:¬ a=b:=by rw [e2]; exact h2
         simp [h3,h4,h5]
theorem canon_ge {l:List UInt8} (h:Canon l) (h2:1 < l.length):10 ^ (l.length - 1) ≤ decF 0 l:=by
 obtain ⟨ha,hn,hh⟩:=h
 cases l with
 | nil => exact absurd rfl hn
 | cons b t =>
   have hb:=ha b (List.mem_cons_self ..)
   have hb2:b.toNat ≠ 48:=by
    intro e
    have e2:b=48:=UInt8.toNat_inj.1 e
    have:=hh (by rw [e2]; rfl)
    omega
   rw [decF_cons,decF_split,List.length_cons,Nat.add_sub_cancel,Nat.zero_mul,Nat.zero_add]
   have:1 * 10 ^ t.length ≤ (b.toNat - 48) * 10 ^ t.length:=Nat.mul_le_mul_right _ (by omega)
   omega
theorem canon_lt {l m:List UInt8} (hl:Canon l) (hm:Canon m) (h:l.length < m.length):decF 0 l < decF 0 m:=by
 have hp:0 < l.length:=List.length_pos_iff.2 hl.2.1
 have h1:=decF_lt hl.1
 have h2:=canon_ge hm (by omega)
 have h3:10 ^ l.length ≤ 10 ^ (m.length - 1):=Nat.pow_le_pow_right (by omega) (by omega)
 omega
theorem canon_eq {l m:List UInt8} (hl:Canon l) (hm:Canon m) (h:decF 0 l=decF 0 m):l=m:=by
 rw [canon_dd hl,canon_dd hm,h]
theorem bytes_of_list {r:ByteArray} {F:List UInt8} (h:r.data.toList=F):r=⟨F.toArray⟩:=by
 subst h
 cases r
 simp
theorem stripL_go {r:ByteArray} (h1:1 < r.size) (h:r[0]=48):stripL r.data.toList=stripL (r.data.toList.drop 1):=by
 have e:r.data.toList=r[0] :: r.data.toList.drop 1:=by
  have:=bdrop (s:=r) (k:=0) (by omega)
  rwa [List.drop_zero] at this
 have hl:(r.data.toList.drop 1).length=r.size - 1:=by rw [List.length_drop,bsz]
 rw [e,List.drop_succ_cons,List.drop_zero,stripL,if_pos ⟨h,fun e2 => by rw [e2] at hl; simp at hl; omega⟩]
theorem stripL_stop {r:ByteArray} (h:r.size ≤ 1 ∨ ∃ h:0 < r.size,r[0] ≠ 48):stripL r.data.toList=r.data.toList:=by
 by_cases h0:r.size=0
 · rw [List.eq_nil_of_length_eq_zero (show r.data.toList.length=0 by rw [bsz]; exact h0)]; rfl
 · have e:r.data.toList=r[0] :: r.data.toList.drop 1:=by
    have:=bdrop (s:=r) (k:=0) (by omega)
    rwa [List.drop_zero] at this
   have hl:(r.data.toList.drop 1).length=r.size - 1:=by rw [List.length_drop,bsz]
   rw [e,stripL,if_neg]
   rintro ⟨a,b⟩
   rcases h with h | ⟨_,h⟩
   · exact b (List.eq_nil_of_length_eq_zero (by rw [hl]; omega))
   · exact h a
set_option maxHeartbeats 800000 in
set_option maxRecDepth 100000 in
theorem strip_any (s:ByteArray) (w:World) (hs:s.size ≤ 9223372036854775807) (F:List UInt8) (hF:Hid (stripL s.data.toList=F)) :
 Calls Tryz.prog 145 #[.string s] w fun e w' => e=.returned (.string ⟨F.toArray⟩) ∧ Ext w w':=by
 go_enter Tryz.func145,Tryz.ntmps145
 go_wp2_with fail
 go_loop [0] (fun sv => ∃ (r:ByteArray),sv=.string r ∧ r.size ≤ 9223372036854775807 ∧ Hid (stripL r.data.toList=F)) (fun sv => strZ sv)
 case atStart => exact ⟨s,rfl,hs,hF⟩
 case round =>
  obtain ⟨r,rfl,hrs,HI⟩:=hrel
  by_cases h1:r.size ≤ 1
  · have hr:r=⟨F.toArray⟩:=bytes_of_list (by rw [← HI.out,stripL_stop (.inl h1)])
    have HR:=Lib.hid hr
    have h1i:(r.size:Int) ≤ 1:=by omega
    clear hr
    go_wp2_with fail
    go_ret
    exact ⟨congrArg (fun z => Ending.returned (.string z)) HR.out,Ext.refl _⟩
  · have h1i:(1:Int) < (r.size:Int):=by omega
    have hlt:0 < r.size:=by omega
    by_cases hz:r[0]=48
    · have hb:((r[0].toNat:Int) == 48)=true:=by rw [hz]; rfl
      obtain ⟨R,hR⟩:∃ R,r.extract 1 r.size=R:=⟨_,rfl⟩
      have hRl:R.data.toList=r.data.toList.drop 1:=by rw [← hR,ext_drop]
      have hRs:R.size=r.size - 1:=by rw [← bsz R,hRl,List.length_drop,bsz]
      have hnx:Hid (stripL R.data.toList=F):=by show _=_; rw [hRl,← stripL_go (by omega) hz]; exact HI.out
      have HRS:=Lib.hid hRs
      clear hz hRl hRs h1
      go_wp2_with fail
      go_round
      case rel => exact ⟨R,rfl,by have:=HRS.out; omega,hnx.out⟩
      case measure => have:=HRS.out; simp [strZ]; omega
    · have hb:((r[0].toNat:Int) == 48)=false:=by
       rw [beq_eq_false_iff_ne]
       intro e
       apply hz
       apply UInt8.toNat_inj.1
       have:(48:UInt8).toNat=48:=rfl
       omega
      have hr:r=⟨F.toArray⟩:=bytes_of_list (by rw [← HI.out,stripL_stop (.inr ⟨hlt,hz⟩)])
      have HR:=Lib.hid hr
      clear hz hr
      go_wp2_with fail
      go_ret
      exact ⟨congrArg (fun z => Ending.returned (.string z)) HR.out,Ext.refl _⟩
set_option maxHeartbeats 800000 in
set_option maxRecDepth 100000 in
theorem digit_any (s:ByteArray) (k:Nat) (w:World) (hs:s.size ≤ 9223372036854775807) (hk:k ≤ 9223372036854775807) (ha:AllD s.data.toList) (q:Nat) (hq:Hid ((rd s.data.toList).getD k 0=q)) :
 Calls Tryz.prog 129 #[.string s,.int .i64 k] w fun e w' => e=.returned (.int .i64 q) ∧ w=w':=by
 by_cases h:k < s.size
 · have hki:(k:Int) < (s.size:Int):=by omega
   obtain ⟨n,hn⟩:∃ n,s.size - 1 - k=n:=⟨_,rfl⟩
   have hnl:n < s.size:=by omega
   have hni:(s.size:Int) - 1 - (k:Int)=(n:Int):=by omega
   have hg:=rd_get (l:=s.data.toList) (k:=k) (by rw [bsz]; exact h)
   rw [hq.out] at hg
   simp only [bsz,hn] at hg
   have hg2:q=s[n].toNat - 48:=hg
   obtain ⟨c,hc⟩:∃ c:Nat,s[n].toNat=c:=⟨_,rfl⟩
   have hc48:48 ≤ c ∧ c ≤ 57:=by
    rw [← hc]
    exact ha _ (by rw [← Array.mem_def]; exact Array.getElem_mem (by exact hnl))
   rw [hc] at hg2
   have hci:(48:Int) ≤ (c:Int):=by omega
   have hci2:(c:Int) ≤ 57:=by omega
   have hqi:(c:Int) - 48=(q:Int):=by omega
   have hq9:(q:Int) ≤ 9:=by omega
   clear hq hn hg hg2 ha hc48
   go_enter Tryz.func129,Tryz.ntmps129
   go_wp2_with fail
   go_ret
   exact ⟨by first | rfl | simp [hc,hqi],rfl⟩
 · have hki:(s.size:Int) ≤ (k:Int):=by omega
   have hq0:q=0:=by rw [← hq.out]; exact rd_none (by rw [bsz]; omega)
   subst hq0
   clear hq h
   go_enter Tryz.func129,Tryz.ntmps129
   go_wp2_with fail
   go_ret
   exact ⟨rfl,rfl⟩
theorem info_u8':(Tryz.prog.info? 5).map (fun i => (i.zero,i.size,i.bytes))=some (some (.int .u8 0),1,1):=by kernel_rfl
theorem ei_u8':EI Tryz.prog 206 5 (.int .u8 0) 1 1:=⟨Tryz.underlying206,info_parts info_u8',rfl,by decide⟩
theorem info_int':(Tryz.prog.info? 3).map (fun i => (i.zero,i.size,i.bytes))=some (some (.int .i64 0),1,8):=by kernel_rfl
theorem ei_ints':EI Tryz.prog 51 3 (.int .i64 0) 1 8:=⟨Tryz.underlying51,info_parts info_int',rfl,by decide⟩
def encB (d:Nat):Value:=.int .u8 d
def encI (d:Nat):Value:=.int .i64 d
def bn (ds:List Nat):List Nat:=ds.reverse.map (48 + ·)
theorem bl_bn {ds:List Nat} (h:D9 ds):(bl ds).map (fun b => (b.toNat:Nat))=bn ds:=by
 unfold bl bn
 rw [List.map_map]
 apply List.map_congr_left
 intro d hd
 exact byte48 (h d (List.mem_reverse.1 hd))
theorem bn_take {ds:List Nat} {i d:Nat} (h:ds.take (i + 1)=ds.take i ++ [d]):bn (ds.take (i + 1))=(48 + d) :: bn (ds.take i):=by
 rw [h]; simp [bn]
abbrev DigV (w:World) (v:Value) (ds:List Nat):Prop:=RowOf encI w v ds
set_option maxHeartbeats 1600000 in
set_option maxRecDepth 100000 in
theorem dtext_any (v:Value) (ds:List Nat) (w:World) (hv:DigV w v ds) (hd:D9 ds) (hl:ds.length ≤ 1073741824) :
 Calls Tryz.prog 130 #[v] w fun e w' => e=.returned (.string (decT (v10 ds))) ∧ Ext w w':=by
 obtain ⟨wo,rfl⟩:∃ wo:World,wo=w:=⟨_,rfl⟩
 have HT:=Lib.hid (text_dd hd)
 have hts:decT (v10 ds)=⟨(Lib.decDigits (v10 ds)).toArray⟩:=rfl
 rw [hts]
 generalize Lib.decDigits (v10 ds)=F at *
 obtain ⟨ao,c,rfl,hlen,hc⟩:=hv.open
 have HC:=Lib.hid hc
 have HD:=Lib.hid hd
 clear hc hd hv hts
 go_enter Tryz.func130,Tryz.ntmps130
 go_wp2_with (first
  | (at_make; refine wp_make1 rfl rfl ei_u8' rfl rfl rfl ds.length rfl rfl (by omega) (by omega) ?_; intro w2 hO2 hX2))
 go_loopw [11] (fun iv wr => ∃ (i:Nat),i ≤ ds.length ∧ iv=.int .i64 i ∧ wr.ownsRow wo.heap.size 5 1 (.slice (some ⟨wo.heap.size,0,none⟩) ds.length ds.length) ds.length ((List.replicate (ds.length - i) 0 ++ bn (ds.take i)).map encB) ∧ Ext wo wr) (fun iv _ => ds.length - (intOf iv).toNat)
 case atStart => exact ⟨0,Nat.zero_le _,rfl,own_cast hO2 (by simp [encB,bn]) rfl,hX2⟩
 case round =>
  obtain ⟨i,hi,rfl,HO,X⟩:=hrel
  by_cases hlt:i < ds.length
  · obtain ⟨d,d1,d2,d3⟩:=get_lt hlt
    obtain ⟨b,off,rfl,hc0⟩:=(HC.out.ext X).at d1
    have hcell:wr.cell? ⟨b,off + i,none⟩=some (.int .i64 d):=hc0
    have hd9:=HD.out d (List.mem_of_getElem? d1.out)
    have hdi:(d:Int) ≤ 9:=by omega
    have hki:(i:Int) < (ds.length:Int):=by omega
    obtain ⟨j,hj⟩:∃ j,ds.length - 1 - i=j:=⟨_,rfl⟩
    have hjl:j < ds.length:=by omega
    have hji:(ds.length:Int) - 1 - (i:Int)=(j:Int):=by omega
    have hdm:(48 + (d:Int)) % 256=48 + (d:Int):=by omega
    have c1:=own_cell HO (j:=j) (x:=.int .u8 0) (by show _=_; rw [List.map_append,List.map_replicate,List.getElem?_append_left (by simp; omega),List.getElem?_replicate,if_pos (by omega)]; rfl)
    have f1:=HO.frozenAt j
    have s1:=HO.stored j (.int .u8 (48 + (d:Int)))
    have hset:((List.replicate (ds.length - i) 0 ++ bn (ds.take i)).map encB).set j (.int .u8 (48 + (d:Int)))=(List.replicate (ds.length - (i + 1)) 0 ++ bn (ds.take (i + 1))).map encB:=by
     rw [bn_take d3.out,show ds.length - i=j + 1 by omega,show ds.length - (i + 1)=j by omega,List.replicate_succ',List.append_assoc,List.map_append,List.set_append_right _ _ (by simp)]
     simp [encB]
    rw [hset] at s1
    have H1:=Lib.hid s1.1
    clear hc0 hj s1 hset hd9
    go_wp2_with fail
    go_roundw
    case rel => exact ⟨i + 1,by omega,by go_num,H1.out,X.setCell (Nat.le_refl _) _⟩
    case measure => simp [intOf]; omega
  · have hil:i=ds.length:=by omega
    subst hil
    have hcell:∀ j (hj:j < (bl ds).length),wr.cell? ((⟨wo.heap.size,0,none⟩:Addr).add j)=some (.int .u8 ((bl ds)[j].toNat:Int)):=by
     intro j hj
     have hbj:(bn ds)[j]?=some ((bl ds)[j].toNat):=by
      rw [← bl_bn HD.out,List.getElem?_map,List.getElem?_eq_getElem hj]; rfl
     have:=own_cell HO (j:=j) (x:=.int .u8 ((bl ds)[j].toNat:Nat)) (by show _=_; rw [Nat.sub_self,List.take_length]; simp only [List.replicate_zero,List.nil_append,List.getElem?_map,hbj]; rfl)
     by_cases hj0:j=0
     · subst hj0; simpa [Addr.add] using this
     · simpa [Addr.add,hj0] using this
    have hbl:(bl ds).length=ds.length:=by simp [bl]
    have hback:=run_convert_bytes_back (P:=Tryz.prog) wr 206 9 5 ⟨wo.heap.size,0,none⟩ ds.length (bl ds) Tryz.underlying206 Tryz.underlying5 Tryz.underlying9 hcell
    rw [hbl] at hback
    obtain ⟨T,hT⟩:∃ T:ByteArray,(⟨(bl ds).toArray⟩:ByteArray)=T:=⟨_,rfl⟩
    rw [hT] at hback
    have hTs:T.size=ds.length:=by rw [← hT,← hbl]; simp [ByteArray.size]
    have hTl:T.data.toList=bl ds:=by rw [← hT]
    have hS:Hid (stripL ((⟨#[48]⟩:ByteArray) ++ T).data.toList=F):=by
     show _=_
     rw [show ((⟨#[48]⟩:ByteArray) ++ T).data.toList=48 :: T.data.toList by simp,hTl]; exact HT.out
    have HS:=Lib.hid (fun W => strip_any ((⟨#[48]⟩:ByteArray) ++ T) W (by rw [ByteArray.size_append,hTs]; show 1 + ds.length ≤ _; omega) F hS)
    clear hTl hT hbl hcell hS
    go_wp2_with fail
    refine (HS.out _).mono ?_
    rintro e w3 ⟨rfl,X3⟩
    go_wp2_with fail
    go_ret
    exact ⟨rfl,X.trans X3⟩
def rdB (s:ByteArray):List Nat:=rd s.data.toList
theorem v10_rdB (s:ByteArray):v10 (rdB s)=numB s:=v10_rd _
set_option maxHeartbeats 1600000 in
set_option maxRecDepth 100000 in
theorem rNatAdd_any (a b:ByteArray) (w:World) (ha:AllD a.data.toList) (hb:AllD b.data.toList) (hla:a.size ≤ 1000000) (hlb:b.size ≤ 1000000) :
 Calls Tryz.prog 81 #[.string a,.string b] w fun e w' => e=.returned (.string (decT (numB a + numB b))) ∧ Ext w w':=by
 obtain ⟨wo,rfl⟩:∃ wo:World,wo=w:=⟨_,rfl⟩
 have HA:=Lib.hid (fun W k (hk:k ≤ 1000001) q hq => digit_any a k W (by omega) (by omega) ha q hq)
 have HB:=Lib.hid (fun W k (hk:k ≤ 1000001) q hq => digit_any b k W (by omega) (by omega) hb q hq)
 have HDA:=Lib.hid (rd_D9 ha)
 have HDB:=Lib.hid (rd_D9 hb)
 have hl1:=rd_length a.data.toList
 have hl2:=rd_length b.data.toList
 rw [bsz] at hl1 hl2
 have HL1:=Lib.hid hl1
 have HL2:=Lib.hid hl2
 obtain ⟨S,hS⟩:∃ S,numB a + numB b=S:=⟨_,rfl⟩
 rw [hS]
 have hst:=AddI.start (rd a.data.toList) (rd b.data.toList)
 rw [v10_rd,v10_rd] at hst
 have hst2:AddI (rd a.data.toList) (rd b.data.toList) 0 0 [] S:=by rw [← hS]; exact hst
 have HST:=Lib.hid hst2
 generalize rd a.data.toList=da at *
 generalize rd b.data.toList=db at *
 clear hst hst2 ha hb hl1 hl2 hS
 have hlai:(a.size:Int) ≤ 1000000:=by omega
 have hlbi:(b.size:Int) ≤ 1000000:=by omega
 go_enter Tryz.func81,Tryz.ntmps81
 go_wp2_with fail
 go_loopw [5,6,7] (fun o cv iv wr => ∃ (i c:Nat) (out:List Nat),i ≤ 1000001 ∧ Hid (i ≤ max a.size b.size + (1 - c)) ∧ iv=.int .i64 i ∧ cv=.int .i64 c ∧ c ≤ 1 ∧ wr.ownsRow wo.heap.size 3 1 o i (out.map encI) ∧ Ext wo wr ∧ Hid (AddI da db i c out S)) (fun _ cv iv _ => 2 * (max a.size b.size - (intOf iv).toNat) + (intOf cv).toNat)
 case atStart => exact ⟨0,0,[],Nat.zero_le _,Nat.zero_le _,rfl,rfl,Nat.zero_le _,World.ownsRow_nil _ _ _ _,Ext.refl _,HST.out⟩
 case round =>
  obtain ⟨i,c,out,hi,HM,rfl,rfl,hc,HO,X,HI⟩:=hrel
  have hci:(c:Int) ≤ 1:=by omega
  have hii:(i:Int) ≤ 1000001:=by omega
  have hsz:=X.size
  by_cases hgo:i < a.size ∨ i < b.size ∨ 0 < c
  · have hi2:i ≤ 1000000:=by have:=HM.out; omega
    obtain ⟨x,hx⟩:∃ x,da.getD i 0=x:=⟨_,rfl⟩
    obtain ⟨y,hy⟩:∃ y,db.getD i 0=y:=⟨_,rfl⟩
    obtain ⟨z,hz⟩:∃ z,x + y + c=z:=⟨_,rfl⟩
    obtain ⟨hstep,hz19⟩:=HI.out.step HDA.out HDB.out (x:=z) (by rw [hx,hy]; exact hz)
    have hx9:x ≤ 9:=by rw [← hx]; exact getD_le HDA.out i
    have hy9:y ≤ 9:=by rw [← hy]; exact getD_le HDB.out i
    have HAx:=Lib.hid (fun W => HA.out W i (by omega) x hx)
    have HBy:=Lib.hid (fun W => HB.out W i (by omega) y hy)
    obtain ⟨c2,hc2⟩:∃ c2,z / 10=c2:=⟨_,rfl⟩
    obtain ⟨r,hr⟩:∃ r,z % 10=r:=⟨_,rfl⟩
    rw [hc2,hr] at hstep
    have HSTEP:=Lib.hid hstep
    have hc21:c2 ≤ 1:=by omega
    have hzi:(x:Int) + (y:Int) + (c:Int)=(z:Int):=by omega
    have hzl:(z:Int) ≤ 19:=by omega
    have e1:(z:Int).tmod 10=(r:Int):=by rw [← hr]; exact (Int.ofNat_tmod z 10).symm
    have e2:(z:Int).tdiv 10=(c2:Int):=by rw [← hc2]; exact (Int.ofNat_tdiv z 10).symm
    have hxi:(x:Int) ≤ 9:=by omega
    have hyi:(y:Int) ≤ 9:=by omega
    have hmeas:Hid (i + 1 ≤ max a.size b.size + (1 - c2)):=by
     show _ ≤ _
     have hfin:i < max a.size b.size ∨ (max a.size b.size ≤ i ∧ c2=0):=by
      by_cases hm:i < max a.size b.size
      · exact .inl hm
      · refine .inr ⟨by omega,?_⟩
        have hx0:x=0:=by
         rw [← hx,List.getD_eq_getElem?_getD,List.getElem?_eq_none (by rw [HL1.out]; omega)]; rfl
        have hy0:y=0:=by
         rw [← hy,List.getD_eq_getElem?_getD,List.getElem?_eq_none (by rw [HL2.out]; omega)]; rfl
        omega
     have:=HM.out
     omega
    have hdec:Hid (2 * (max a.size b.size - (i + 1)) + c2 < 2 * (max a.size b.size - i) + c):=by
     show _ < _
     have:=hmeas.out
     have:=HM.out
     omega
    clear hstep hc2 hr hx hy hz19
    have hgo2:i < a.size ∨ (a.size ≤ i ∧ i < b.size) ∨ (a.size ≤ i ∧ b.size ≤ i ∧ 0 < c):=by omega
    clear hgo
    rcases hgo2 with hg | ⟨hg0,hg⟩ | ⟨hg0,hg1,hg⟩
    · have hg2:(i:Int) < (a.size:Int):=by omega
      clear hz
      go_wp2_with fail
      refine (HAx.out _).mono ?_
      rintro e w1 ⟨rfl,rfl⟩
      go_wp2_with fail
      refine (HBy.out _).mono ?_
      rintro e w2 ⟨rfl,rfl⟩
      go_wp2_with (at_builtin; refine wp_app1 (s:=.tmp 34) (x:=.tmp 37) (y:=.int .i64 r) rfl rfl ei_ints' HO rfl rfl rfl rfl (by omega) (by omega) (by omega) ?_; intro v' w' hown hgrew)
      go_roundw
      case rel => exact ⟨i + 1,c2,out ++ [r],by omega,hmeas,by go_num,rfl,hc21,own_cast hown (by simp [encI]) rfl,hgrew.extNew X HO (Nat.le_refl _),HSTEP.out⟩
      case measure => have:=hdec.out; simp [intOf]; omega
    · have hg02:(a.size:Int) ≤ (i:Int):=by omega
      have hg2:(i:Int) < (b.size:Int):=by omega
      clear hz
      go_wp2_with fail
      refine (HAx.out _).mono ?_
      rintro e w1 ⟨rfl,rfl⟩
      go_wp2_with fail
      refine (HBy.out _).mono ?_
      rintro e w2 ⟨rfl,rfl⟩
      go_wp2_with (at_builtin; refine wp_app1 (s:=.tmp 34) (x:=.tmp 37) (y:=.int .i64 r) rfl rfl ei_ints' HO rfl rfl rfl rfl (by omega) (by omega) (by omega) ?_; intro v' w' hown hgrew)
      go_roundw
      case rel => exact ⟨i + 1,c2,out ++ [r],by omega,hmeas,by go_num,rfl,hc21,own_cast hown (by simp [encI]) rfl,hgrew.extNew X HO (Nat.le_refl _),HSTEP.out⟩
      case measure => have:=hdec.out; simp [intOf]; omega
    · have hg02:(a.size:Int) ≤ (i:Int):=by omega
      have hg12:(b.size:Int) ≤ (i:Int):=by omega
      have hg2:(0:Int) < (c:Int):=by omega
      clear hz
      go_wp2_with fail
      refine (HAx.out _).mono ?_
      rintro e w1 ⟨rfl,rfl⟩
      go_wp2_with fail
      refine (HBy.out _).mono ?_
      rintro e w2 ⟨rfl,rfl⟩
      go_wp2_with (at_builtin; refine wp_app1 (s:=.tmp 34) (x:=.tmp 37) (y:=.int .i64 r) rfl rfl ei_ints' HO rfl rfl rfl rfl (by omega) (by omega) (by omega) ?_; intro v' w' hown hgrew)
      go_roundw
      case rel => exact ⟨i + 1,c2,out ++ [r],by omega,hmeas,by go_num,rfl,hc21,own_cast hown (by simp [encI]) rfl,hgrew.extNew X HO (Nat.le_refl _),HSTEP.out⟩
      case measure => have:=hdec.out; simp [intOf]; omega
  · have hg0:(a.size:Int) ≤ (i:Int):=by omega
    have hg1:(b.size:Int) ≤ (i:Int):=by omega
    have hc0:c=0:=by omega
    subst hc0
    have hv:=HI.out.stop (by rw [HL1.out]; omega) (by rw [HL2.out]; omega)
    have hol:=HI.out.1
    have hod:=HI.out.2.1
    have HT:=Lib.hid (dtext_any _ out wr (own_rowOf (enc:=encI) HO (by omega)) hod (by omega))
    rw [hv] at HT
    clear hgo hv hol hod
    go_wp2_with fail
    refine HT.out.mono ?_
    rintro e w1 ⟨rfl,X1⟩
    go_wp2_with fail
    go_ret
    exact ⟨rfl,X.trans X1⟩
set_option maxHeartbeats 1600000 in
set_option maxRecDepth 100000 in
theorem rNatSub_any (a b:ByteArray) (w:World) (ha:AllD a.data.toList) (hb:AllD b.data.toList) (hla:a.size ≤ 1000000) (hlb:b.size ≤ 1000000) (hle:numB b ≤ numB a) :
 Calls Tryz.prog 83 #[.string a,.string b] w fun e w' => e=.returned (.string (decT (numB a - numB b))) ∧ Ext w w':=by
 obtain ⟨wo,rfl⟩:∃ wo:World,wo=w:=⟨_,rfl⟩
 have HA:=Lib.hid (fun W k (hk:k ≤ 1000001) q hq => digit_any a k W (by omega) (by omega) ha q hq)
 have HB:=Lib.hid (fun W k (hk:k ≤ 1000001) q hq => digit_any b k W (by omega) (by omega) hb q hq)
 have HDA:=Lib.hid (rd_D9 ha)
 have HDB:=Lib.hid (rd_D9 hb)
 have hl1:=rd_length a.data.toList
 rw [bsz] at hl1
 have HL1:=Lib.hid hl1
 rw [← v10_rdB,← v10_rdB] at hle ⊢
 unfold rdB at hle ⊢
 have HST:=Lib.hid (SubI.start (rd a.data.toList) (rd b.data.toList))
 generalize rd a.data.toList=da at *
 generalize rd b.data.toList=db at *
 have HLE:=Lib.hid hle
 clear ha hb hl1 hle
 have hlai:(a.size:Int) ≤ 1000000:=by omega
 go_enter Tryz.func83,Tryz.ntmps83
 go_wp2_with fail
 go_loopw [5,6,11] (fun o cv iv wr => ∃ (i c:Nat) (out:List Nat),i ≤ a.size ∧ iv=.int .i64 i ∧ cv=.int .i64 c ∧ c ≤ 1 ∧ wr.ownsRow wo.heap.size 3 1 o i (out.map encI) ∧ Ext wo wr ∧ Hid (SubI da db i c out)) (fun _ _ iv _ => a.size - (intOf iv).toNat)
 case atStart => exact ⟨0,0,[],Nat.zero_le _,rfl,rfl,Nat.zero_le _,World.ownsRow_nil _ _ _ _,Ext.refl _,HST.out⟩
 case round =>
  obtain ⟨i,c,out,hi,rfl,rfl,hc,HO,X,HI⟩:=hrel
  have hci:(c:Int) ≤ 1:=by omega
  have hsz:=X.size
  by_cases hlt:i < a.size
  · have hki:(i:Int) < (a.size:Int):=by omega
    obtain ⟨x,hx⟩:∃ x,da.getD i 0=x:=⟨_,rfl⟩
    obtain ⟨y,hy⟩:∃ y,db.getD i 0=y:=⟨_,rfl⟩
    have hx9:x ≤ 9:=by rw [← hx]; exact getD_le HDA.out i
    have hy9:y ≤ 9:=by rw [← hy]; exact getD_le HDB.out i
    have HAx:=Lib.hid (fun W => HA.out W i (by omega) x hx)
    have HBy:=Lib.hid (fun W => HB.out W i (by omega) y hy)
    have hxi:(x:Int) ≤ 9:=by omega
    have hyi:(y:Int) ≤ 9:=by omega
    by_cases hneg:x < y + c
    · obtain ⟨d,hd⟩:∃ d,x + 10 - y - c=d:=⟨_,rfl⟩
      have hdi:(x:Int) - (y:Int) - (c:Int) + 10=(d:Int):=by omega
      have hlz:(x:Int) - (y:Int) - (c:Int) < 0:=by omega
      have hstep:=HI.out.step (d:=d) (c2:=1) (by omega) (by omega) (by rw [hx,hy]; omega)
      have HSTEP:=Lib.hid hstep
      clear hstep hd hx hy hneg
      go_wp2_with fail
      refine (HAx.out _).mono ?_
      rintro e w1 ⟨rfl,rfl⟩
      go_wp2_with fail
      refine (HBy.out _).mono ?_
      rintro e w2 ⟨rfl,rfl⟩
      go_wp2_with (at_builtin; refine wp_app1 (s:=.tmp 27) (x:=.tmp 29) (y:=.int .i64 d) rfl rfl ei_ints' HO rfl rfl rfl rfl (by omega) (by omega) (by omega) ?_; intro v' w' hown hgrew)
      go_roundw
      case rel => exact ⟨i + 1,1,out ++ [d],by omega,by go_num,rfl,by omega,own_cast hown (by simp [encI]) rfl,hgrew.extNew X HO (Nat.le_refl _),HSTEP.out⟩
      case measure => simp [intOf]; omega
    · obtain ⟨d,hd⟩:∃ d,x - y - c=d:=⟨_,rfl⟩
      have hdi:(x:Int) - (y:Int) - (c:Int)=(d:Int):=by omega
      have hdl:(d:Int) ≤ 9:=by omega
      have hstep:=HI.out.step (d:=d) (c2:=0) (by omega) (by omega) (by rw [hx,hy]; omega)
      have HSTEP:=Lib.hid hstep
      clear hstep hd hx hy hneg
      go_wp2_with fail
      refine (HAx.out _).mono ?_
      rintro e w1 ⟨rfl,rfl⟩
      go_wp2_with fail
      refine (HBy.out _).mono ?_
      rintro e w2 ⟨rfl,rfl⟩
      go_wp2_with (at_builtin; refine wp_app1 (s:=.tmp 27) (x:=.tmp 29) (y:=.int .i64 d) rfl rfl ei_ints' HO rfl rfl rfl rfl (by omega) (by omega) (by omega) ?_; intro v' w' hown hgrew)
      go_roundw
      case rel => exact ⟨i + 1,0,out ++ [d],by omega,by go_num,rfl,by omega,own_cast hown (by simp [encI]) rfl,hgrew.extNew X HO (Nat.le_refl _),HSTEP.out⟩
      case measure => simp [intOf]; omega
  · have hil:i=a.size:=by omega
    subst hil
    have hv:=HI.out.stop HL1.out HLE.out
    have hol:=HI.out.1
    have hod:=HI.out.2.1
    have HT:=Lib.hid (dtext_any _ out wr (own_rowOf (enc:=encI) HO (by omega)) hod (by omega))
    rw [hv] at HT
    clear hlt hv hol hod
    go_wp2_with fail
    refine HT.out.mono ?_
    rintro e w1 ⟨rfl,X1⟩
    go_wp2_with fail
    go_ret
    exact ⟨rfl,X.trans X1⟩
end Go.Proofs.YtcggohkbmhdohaaGreatDoor
