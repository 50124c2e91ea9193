/- texts merged: RatG RatH RatI RatJ -/
import Derived.Test.YtcggohkbmhdohaaGreatDoorRtA
import Derived.Test.YtcggohkbmhdohaaGreatDoorNtAC
namespace Go.Proofs.YtcggohkbmhdohaaGreatDoor
open Go.RowKit
set_option linter.unusedVariables false
theorem natV_one (w:World) (e:TypeId) (k:Nat) (hk:k=w.heap.size):NatV (w.alloc (.cells #[.int .u32 1] e)) (.slice (some ⟨k,0,none⟩) 1 1) 1:=by
 subst hk
 have h:=World.ownsRow_lit (base:=w.heap.size) (e:=e) (size:=1) w #[.int .u32 1] 1 (Nat.le_refl _) (by unfold maxLen; omega) (by simp)
 show RowOf encD _ _ (dig 1)
 rw [show dig 1=[1] by rw [dig_one (by omega) (by omega)]]
 exact own_rowOf (enc:=encD) (xs:=[1]) h (by omega)
theorem one_len:(1:Nat)=(dig 1).length:=by rw [dig_one (by omega) (by omega)]; rfl
set_option maxHeartbeats 3200000 in
set_option maxRecDepth 100000 in
theorem qOf_any (n:Int) (w:World) (h1:-9223372036854775808 ≤ n) (h2:n ≤ 9223372036854775807) :
 Calls Tryz.prog 72 #[.int .i64 n] w fun e w' => ∃ r,e=.returned r ∧ QV w' r ((n:Rat)) ∧ Ext w w':=by
 have HW:=Lib.hid (fun W => whole_any n W h1 h2)
 go_enter Tryz.func72,Tryz.ntmps72
 go_wp2_with fail
 refine (HW.out _).mono ?_
 rintro e w2 ⟨u,rfl,hu,X2⟩
 obtain ⟨q,ao,l,c,rfl,_,_,_⟩:=hu.opn
 have XA:=X2.alloc (.cells #[.int .u32 1] 167)
 have R:=res3 (w:=w) (g:=w.heap.size) rfl (Ext.refl w) XA
 have f0:=R.f0
 have c0:=R.c0
 have f1:=R.f1
 have c1:=R.c1
 have f2:=R.f2
 have e2:=R.c2
 have HQ:Hid (QV (w2.alloc (.cells #[.int .u32 1] 167)) (.agg #[.bool q,.slice ao l c,.slice (some ⟨w2.heap.size,0,none⟩) 1 1]) (n:Rat)) :=
  ⟨q,ao,l,c,_,_,_,rfl,hu.ext ((Ext.refl w2).alloc _),one_len,natV_one w2 _ _ rfl⟩
 have R:=Lib.hid R
 clear hu
 go_wp2_with fail
 refine bodyPost_ret (v:=.agg #[.bool q,.slice ao l c,.slice (some ⟨w2.heap.size,0,none⟩) 1 1]) (by simp [results,Tryz.results72,go_sem,R.out.d0,R.out.d1,R.out.d2]) rfl ?_
 exact ⟨_,rfl,R.out.q _ _ _ HQ.out,R.out.ext _ _ _⟩
def signT (z:Int) (s:ByteArray):ByteArray:=if z < 0 then ⟨#[45]⟩ ++ s else s
def ratT (q:Rat):ByteArray:=if q.den=1 then signT q.num (decT q.num.natAbs) else signT q.num (decT q.num.natAbs) ++ (⟨#[47]⟩ ++ decT q.den)
set_option maxHeartbeats 3200000 in
set_option maxRecDepth 100000 in
theorem qText_any (u:Value) (a:Rat) (w:World) (hu:QV w u a) (htab:TabPow w) (hl:(dig a.num.natAbs).length ≤ 100000000) (hl2:(dig a.den).length ≤ 100000000) (hs:(decT a.num.natAbs).size ≤ 4294967295) (hs2:(decT a.den).size ≤ 4294967295) :
 Calls Tryz.prog 91 #[u] w fun e w' => e=.returned (.string (ratT a)) ∧ Ext w w':=by
 obtain ⟨q,ao,l,c,bo,m,d,rfl,HN1,HL1,HD1⟩:=hu.opn
 have hqn:=(HN1.out w (Ext.refl w))
 obtain ⟨qq,ao',l',c',g1,hq,hlen,hnat⟩:=hqn
 clear hlen
 simp only [Value.agg.injEq,Array.mk.injEq,List.cons.injEq,Value.bool.injEq,Value.slice.injEq,and_true] at g1
 obtain ⟨rfl,rfl,rfl,rfl⟩:=g1
 have HT1:=Lib.hid (fun W (hx:Ext w W) => text_any _ _ W (hnat.ext hx) (tabPow_ext htab hx) (by omega) (by rw [← decT_size]; exact hs))
 have HT2:=Lib.hid (fun W (hx:Ext w W) => text_any _ _ W (HD1.out W hx) (tabPow_ext htab hx) (by omega) (by rw [← decT_size]; exact hs2))
 have HO:=Lib.hid (fun W (hx:Ext w W) => one_any _ _ W (HD1.out W hx))
 have hTx:Hid (ratT a=if a.den=1 then (if q=true then ⟨#[45]⟩ ++ decT a.num.natAbs else decT a.num.natAbs) else (if q=true then ⟨#[45]⟩ ++ decT a.num.natAbs else decT a.num.natAbs) ++ (⟨#[47]⟩ ++ decT a.den)):=by
  show _=_
  unfold ratT signT
  rw [hq]
  simp only [decide_eq_true_eq]
 have hs1i:((decT a.num.natAbs).size:Int) ≤ 4294967295:=by omega
 have hs2i:((decT a.den).size:Int) ≤ 4294967295:=by omega
 obtain ⟨T1,hT1⟩:∃ T,decT a.num.natAbs=T:=⟨_,rfl⟩
 obtain ⟨T2,hT2⟩:∃ T,decT a.den=T:=⟨_,rfl⟩
 rw [hT1] at HT1 hTx hs1i
 rw [hT2] at HT2 hTx hs2i
 obtain ⟨o,ho⟩:∃ o,decide (a.den=1)=o:=⟨_,rfl⟩
 rw [ho] at HO
 have hTo:Hid (ratT a=if o=true then (if q=true then ⟨#[45]⟩ ++ T1 else T1) else (if q=true then ⟨#[45]⟩ ++ T1 else T1) ++ (⟨#[47]⟩ ++ T2)):=by
  show _=_
  rw [hTx.out,← ho]
  simp only [decide_eq_true_eq]
 have k1:(w.alloc (.cells #[.bool q,.slice ao l c,.slice bo m d] 89)).cell? ⟨w.heap.size,0,none⟩=some (.bool q):=by simp [go_sem]
 have k3:(w.alloc (.cells #[.bool q,.slice ao l c,.slice bo m d] 89)).cell? ⟨w.heap.size,2,none⟩=some (.slice bo m d):=by simp [go_sem]
 clear hu hnat hq htab hl hl2 hs hs2 hT1 hT2 ho hTx
 rcases (show (q=false ∧ o=true) ∨ (q=false ∧ o=false) ∨ (q=true ∧ o=true) ∨ (q=true ∧ o=false) by cases q <;> cases o <;> simp) with ⟨rfl,rfl⟩ | ⟨rfl,rfl⟩ | ⟨rfl,rfl⟩ | ⟨rfl,rfl⟩
 · have hTo2:=hTo.out
   simp only [Bool.false_eq_true,if_false,if_true] at hTo2
   have HTO:=Lib.hid hTo2
   clear hTo hTo2
   go_enter Tryz.func91,Tryz.ntmps91
   go_wp2_with fail
   refine (HT1.out _ ((Ext.refl w).alloc _)).mono ?_
   rintro e w2 ⟨rfl,X2⟩
   have XA:=((Ext.refl w).alloc _).trans X2
   have j1:=X2.cell k1
   have j3:=X2.cell k3
   clear k1 k3
   go_wp2_with fail
   refine (HO.out _ XA).mono ?_
   rintro e w3 ⟨rfl,X3⟩
   have XB:=XA.trans X3
   have i3:=X3.cell j3
   clear j1 j3
   go_wp2_with fail
   go_ret
   exact ⟨by rw [HTO.out]; rfl,XB⟩
 · have hTo2:=hTo.out
   simp only [Bool.false_eq_true,if_false] at hTo2
   have HTO:=Lib.hid hTo2
   clear hTo hTo2
   go_enter Tryz.func91,Tryz.ntmps91
   go_wp2_with fail
   refine (HT1.out _ ((Ext.refl w).alloc _)).mono ?_
   rintro e w2 ⟨rfl,X2⟩
   have XA:=((Ext.refl w).alloc _).trans X2
   have j1:=X2.cell k1
   have j3:=X2.cell k3
   clear k1 k3
   go_wp2_with fail
   refine (HO.out _ XA).mono ?_
   rintro e w3 ⟨rfl,X3⟩
   have XB:=XA.trans X3
   have i3:=X3.cell j3
   clear j1 j3
   go_wp2_with fail
   refine (HT2.out _ XB).mono ?_
   rintro e w4 ⟨rfl,X4⟩
   go_wp2_with fail
   go_ret
   exact ⟨by rw [HTO.out]; rfl,XB.trans X4⟩
 · have hTo2:=hTo.out
   simp only [if_true] at hTo2
   have HTO:=Lib.hid hTo2
   clear hTo hTo2
   go_enter Tryz.func91,Tryz.ntmps91
   go_wp2_with fail
   refine (HT1.out _ ((Ext.refl w).alloc _)).mono ?_
   rintro e w2 ⟨rfl,X2⟩
   have XA:=((Ext.refl w).alloc _).trans X2
   have j1:=X2.cell k1
   have j3:=X2.cell k3
   clear k1 k3
   go_wp2_with fail
   refine (HO.out _ XA).mono ?_
   rintro e w3 ⟨rfl,X3⟩
   have XB:=XA.trans X3
   have i3:=X3.cell j3
   clear j1 j3
   go_wp2_with fail
   go_ret
   exact ⟨by rw [HTO.out]; rfl,XB⟩
 · have hTo2:=hTo.out
   simp only [Bool.false_eq_true,if_false,if_true] at hTo2
   have HTO:=Lib.hid hTo2
   clear hTo hTo2
   go_enter Tryz.func91,Tryz.ntmps91
   go_wp2_with fail
   refine (HT1.out _ ((Ext.refl w).alloc _)).mono ?_
   rintro e w2 ⟨rfl,X2⟩
   have XA:=((Ext.refl w).alloc _).trans X2
   have j1:=X2.cell k1
   have j3:=X2.cell k3
   clear k1 k3
   go_wp2_with fail
   refine (HO.out _ XA).mono ?_
   rintro e w3 ⟨rfl,X3⟩
   have XB:=XA.trans X3
   have i3:=X3.cell j3
   clear j1 j3
   go_wp2_with fail
   refine (HT2.out _ XB).mono ?_
   rintro e w4 ⟨rfl,X4⟩
   go_wp2_with fail
   go_ret
   exact ⟨by rw [HTO.out]; rfl,XB.trans X4⟩
theorem dd_of_dig {n k:Nat} (h:(dig n).length ≤ k):(Lib.decDigits n).length ≤ 10 * k + 1:=by
 apply dd_len_lt
 have h1:=lt_dig_len n
 have h2:(4294967296:Nat) ^ (dig n).length ≤ 4294967296 ^ k:=Nat.pow_le_pow_right (by omega) h
 have h3:(4294967296:Nat) ^ k ≤ (10 ^ 10) ^ k:=Nat.pow_le_pow_left (by decide) k
 rw [← Nat.pow_mul] at h3
 rw [Nat.pow_succ]
 omega
theorem dd_gt_of_dig {n k:Nat} (h:k < (dig n).length):9 * k < (Lib.decDigits n).length:=by
 have h1:=pow_le_of_dig_len h
 have h2:(10 ^ 9) ^ k ≤ (4294967296:Nat) ^ k:=Nat.pow_le_pow_left (by decide) k
 rw [← Nat.pow_mul] at h2
 have h3:=decF_lt (dd_allD n)
 rw [decF_dd] at h3
 rcases Nat.lt_or_ge (9 * k) (Lib.decDigits n).length with h4 | h4
 · exact h4
 · exfalso
   have:(10:Nat) ^ (Lib.decDigits n).length ≤ 10 ^ (9 * k):=Nat.pow_le_pow_right (by omega) h4
   omega
def fitsB (a:Rat):Bool:=decide ((decT a.num.natAbs).size ≤ 2000) && decide ((decT a.den).size ≤ 2000)
set_option maxHeartbeats 3200000 in
set_option maxRecDepth 100000 in
theorem qFits_any (u:Value) (a:Rat) (w:World) (hu:QV w u a) (htab:TabPow w) :
 Calls Tryz.prog 90 #[u,.int .i64 2000] w fun e w' => e=.returned (.bool (fitsB a)) ∧ Ext w w':=by
 obtain ⟨q,ao,l,c,bo,m,d,rfl,HN1,HL1,HD1⟩:=hu.opn
 obtain ⟨qq,ao',l',c',g1,hq,hlen,hnat⟩:=(HN1.out w (Ext.refl w))
 simp only [Value.agg.injEq,Array.mk.injEq,List.cons.injEq,Value.bool.injEq,Value.slice.injEq,and_true] at g1
 obtain ⟨rfl,rfl,rfl,rfl⟩:=g1
 have HLN:=Lib.hid hlen
 clear hlen hq
 have hli:(l:Int) ≤ 17592186044416:=by
  obtain ⟨ao3,c3,e,h3,_⟩:=hnat.open
  simp only [Value.slice.injEq] at e
  omega
 have hmi:(m:Int) ≤ 17592186044416:=by
  obtain ⟨ao3,c3,e,h3,_⟩:=(HD1.out w (Ext.refl w)).open
  simp only [Value.slice.injEq] at e
  omega
 obtain ⟨M,hM⟩:∃ M,max l m=M:=⟨_,rfl⟩
 have hMi:max (l:Int) (m:Int)=(M:Int):=by omega
 have k1:(w.alloc (.cells #[.bool q,.slice ao l c,.slice bo m d] 89)).cell? ⟨w.heap.size,1,none⟩=some (.slice ao l c):=by simp [go_sem]
 have k3:(w.alloc (.cells #[.bool q,.slice ao l c,.slice bo m d] 89)).cell? ⟨w.heap.size,2,none⟩=some (.slice bo m d):=by simp [go_sem]
 by_cases hbig:224 < M
 · have hf:fitsB a=false:=by
    unfold fitsB
    rcases (show 224 < l ∨ 224 < m by omega) with h | h
    · rw [HLN.out] at h
      have:=dd_gt_of_dig h
      rw [decide_eq_false (by rw [decT_size]; omega)]; rfl
    · rw [HL1.out] at h
      have:=dd_gt_of_dig h
      rw [decide_eq_false (p:=(decT a.den).size ≤ 2000) (by rw [decT_size]; omega),Bool.and_false]
   rw [hf]
   have hbi:(224:Int) < (M:Int):=by omega
   clear hu hnat htab hf hM hbig k1 k3
   go_enter Tryz.func90,Tryz.ntmps90
   go_wp2_with fail
   go_ret
   exact ⟨rfl,(Ext.refl w).alloc _⟩
 · have hbi:(M:Int) ≤ 224:=by omega
   have t1:(decT a.num.natAbs).size ≤ 2241:=by rw [decT_size]; exact dd_of_dig (k:=224) (by rw [← HLN.out]; omega)
   have t2:(decT a.den).size ≤ 2241:=by rw [decT_size]; exact dd_of_dig (k:=224) (by rw [← HL1.out]; omega)
   have HT1:=Lib.hid (fun W (hx:Ext w W) => text_any _ _ W (hnat.ext hx) (tabPow_ext htab hx) (by rw [← HLN.out]; omega) (by rw [← decT_size]; omega))
   have HT2:=Lib.hid (fun W (hx:Ext w W) => text_any _ _ W (HD1.out W hx) (tabPow_ext htab hx) (by rw [← HL1.out]; omega) (by rw [← decT_size]; omega))
   have hfd:fitsB a=(decide ((decT a.num.natAbs).size ≤ 2000) && decide ((decT a.den).size ≤ 2000)):=rfl
   rw [hfd]
   generalize decT a.num.natAbs=T1 at *
   generalize decT a.den=T2 at *
   have t1i:(T1.size:Int) ≤ 2241:=by omega
   have t2i:(T2.size:Int) ≤ 2241:=by omega
   clear hu hnat htab hM hbig t1 t2 hfd
   by_cases h1:T1.size ≤ 2000
   · have h1i:(T1.size:Int) ≤ 2000:=by omega
     rw [decide_eq_true h1,Bool.true_and]
     have hd:decide ((T2.size:Int) ≤ 2000)=decide (T2.size ≤ 2000):=by
      by_cases h:T2.size ≤ 2000
      · rw [decide_eq_true h,decide_eq_true (by omega)]
      · rw [decide_eq_false h,decide_eq_false (by omega)]
     have HDD:=Lib.hid hd
     clear hd
     go_enter Tryz.func90,Tryz.ntmps90
     go_wp2_with fail
     refine (HT1.out _ ((Ext.refl w).alloc _)).mono ?_
     rintro e w2 ⟨rfl,X2⟩
     have XA:=((Ext.refl w).alloc _).trans X2
     have j3:=X2.cell k3
     clear k1 k3
     go_wp2_with fail
     refine (HT2.out _ XA).mono ?_
     rintro e w3 ⟨rfl,X3⟩
     go_wp2_with fail
     go_ret
     exact ⟨by first | rfl | (rw [← HDD.out]; rfl) | simp,XA.trans X3⟩
   · have h1i:(2000:Int) < (T1.size:Int):=by omega
     rw [decide_eq_false h1,Bool.false_and]
     go_enter Tryz.func90,Tryz.ntmps90
     go_wp2_with fail
     refine (HT1.out _ ((Ext.refl w).alloc _)).mono ?_
     rintro e w2 ⟨rfl,X2⟩
     have XA:=((Ext.refl w).alloc _).trans X2
     clear k1 k3
     go_wp2_with fail
     go_ret
     exact ⟨rfl,XA⟩
def outF (a:Rat):ByteArray × Int:=if fitsB a=true then (ratT a,0) else (⟨#[]⟩,2)
set_option maxHeartbeats 3200000 in
set_option maxRecDepth 100000 in
theorem out_any (u:Value) (a:Rat) (w:World) (hu:QV w u a) (htab:TabPow w) :
 Calls Tryz.prog 48 #[u] w fun e w' => e=.returned (.tuple #[.string (outF a).1,.int .i64 (outF a).2]) ∧ Ext w w':=by
 have HF:=Lib.hid (fun W (hx:Ext w W) => qFits_any u a W (hu.ext hx) (tabPow_ext htab hx))
 have HTX:=Lib.hid (fun W (hx:Ext w W) (hf:fitsB a=true) => qText_any u a W (hu.ext hx) (tabPow_ext htab hx) (by
  unfold fitsB at hf
  rw [Bool.and_eq_true,decide_eq_true_eq,decide_eq_true_eq,decT_size,decT_size] at hf
  rcases Nat.lt_or_ge 224 (dig a.num.natAbs).length with h | h
  · have:=dd_gt_of_dig h; omega
  · omega) (by
  unfold fitsB at hf
  rw [Bool.and_eq_true,decide_eq_true_eq,decide_eq_true_eq,decT_size,decT_size] at hf
  rcases Nat.lt_or_ge 224 (dig a.den).length with h | h
  · have:=dd_gt_of_dig h; omega
  · omega) (by
  unfold fitsB at hf
  rw [Bool.and_eq_true,decide_eq_true_eq,decide_eq_true_eq] at hf
  omega) (by
  unfold fitsB at hf
  rw [Bool.and_eq_true,decide_eq_true_eq,decide_eq_true_eq] at hf
  omega))
 obtain ⟨q,ao,l,c,bo,m,d,rfl,_,_,_⟩:=hu.opn
 have k1:(w.alloc (.cells #[.bool q,.slice ao l c,.slice bo m d] 89)).cell? ⟨w.heap.size,0,none⟩=some (.bool q):=by simp [go_sem]
 have k2:(w.alloc (.cells #[.bool q,.slice ao l c,.slice bo m d] 89)).cell? ⟨w.heap.size,1,none⟩=some (.slice ao l c):=by simp [go_sem]
 have k3:(w.alloc (.cells #[.bool q,.slice ao l c,.slice bo m d] 89)).cell? ⟨w.heap.size,2,none⟩=some (.slice bo m d):=by simp [go_sem]
 clear hu htab
 by_cases hf:fitsB a=true
 · have HT:=Lib.hid (fun W hx => HTX.out W hx hf)
   have ho:outF a=(ratT a,0):=if_pos hf
   rw [ho]
   rw [hf] at HF
   generalize ratT a=T at *
   clear hf ho HTX
   go_enter Tryz.func48,Tryz.ntmps48
   go_wp2_with fail
   refine (HF.out _ ((Ext.refl w).alloc _)).mono ?_
   rintro e w2 ⟨rfl,X2⟩
   have XA:=((Ext.refl w).alloc _).trans X2
   have j1:=X2.cell k1
   have j2:=X2.cell k2
   have j3:=X2.cell k3
   clear k1 k2 k3
   go_wp2_with fail
   refine (HT.out _ XA).mono ?_
   rintro e w3 ⟨rfl,X3⟩
   go_wp2_with fail
   go_ret2
   exact ⟨rfl,XA.trans X3⟩
 · have ho:outF a=(⟨#[]⟩,2):=if_neg hf
   rw [ho]
   have hf2:fitsB a=false:=by simpa using hf
   rw [hf2] at HF
   clear hf ho HTX hf2
   go_enter Tryz.func48,Tryz.ntmps48
   go_wp2_with fail
   refine (HF.out _ ((Ext.refl w).alloc _)).mono ?_
   rintro e w2 ⟨rfl,X2⟩
   have XA:=((Ext.refl w).alloc _).trans X2
   clear k1 k2 k3
   go_wp2_with fail
   go_ret2
   exact ⟨rfl,XA⟩
end Go.Proofs.YtcggohkbmhdohaaGreatDoor
