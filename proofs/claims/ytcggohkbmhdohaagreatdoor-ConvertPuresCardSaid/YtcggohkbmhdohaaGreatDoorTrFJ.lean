/- texts merged: TrF TrG TrH TrI TrJ -/
import Derived.Test.YtcggohkbmhdohaaGreatDoorTrPl
import Derived.Test.YtcggohkbmhdohaaGreatDoorRtJ
import Derived.Test.YtcggohkbmhdohaaGreatDoorRatAL
import Derived.Test.YtcggohkbmhdohaaGreatDoorMpPr
import Derived.Deep.RegionHeld3
import Derived.BigQuiet
import Derived.Deep.DeepMust
namespace Go.Proofs.YtcggohkbmhdohaaGreatDoor
open Go.RowKit
set_option linter.unusedVariables false
theorem nextE_hit {n i:Nat} {l:List Int} {j:Nat} {k:Int} (hk:l[j]?=some k) (h0:¬ l.length=0) (h6:¬ 6 < l.length) (ho:outB n i k=true):nextE n i l=3:=by
 unfold nextE
 rw [if_neg h0,if_neg h6,if_pos (List.any_eq_true.2 ⟨k,List.mem_of_getElem? hk,ho⟩)]
theorem nextE_none {n i:Nat} {l:List Int} (h0:¬ l.length=0) (h6:¬ 6 < l.length) (ho:∀ k ∈ l,outB n i k=false):nextE n i l=0:=by
 unfold nextE
 rw [if_neg h0,if_neg h6,if_neg]
 intro e
 obtain ⟨k,hk,hb⟩:=List.any_eq_true.1 e
 rw [ho k hk] at hb; cases hb
theorem outB_false {n i:Nat} {k:Int} (h1:(i:Int) < k) (h2:k < (n:Int)):outB n i k=false:=by
 unfold outB
 rw [decide_eq_false (by omega),decide_eq_false (by omega)]; rfl
theorem outB_low {n i:Nat} {k:Int} (h1:¬ (i:Int) < k):outB n i k=true:=by
 unfold outB
 rw [decide_eq_true (by omega)]; rfl
theorem outB_high {n i:Nat} {k:Int} (h1:¬ k < (n:Int)):outB n i k=true:=by
 unfold outB
 rw [decide_eq_true (show (n:Int) ≤ k by omega),Bool.or_true]
set_option maxHeartbeats 1600000 in
set_option maxRecDepth 100000 in
theorem rNext_any (v:Value) (T:List Nd) (i:Nat) (x:Nd) (w:World) (hv:TreeIn w v T) (hx:Hid (T[i]?=some x)) :
 Calls Tryz.prog 97 #[v,.int .i64 (i:Int)] w fun e w' => e=.returned (.int .i64 (nextE T.length i x.next)) ∧ Ext w w':=by
 obtain ⟨wo,rfl⟩:∃ wo:World,wo=w:=⟨_,rfl⟩
 obtain ⟨ao,c,rfl,hlen,hn⟩:=hv.open
 obtain ⟨b,off,no,nc,oo,oc,rfl,c0,c1,c2,c3,c4,c5,hno,_,_⟩:=hn.at hx
 have hi:i < T.length:=(List.getElem?_eq_some_iff.1 hx.out).1
 have hii:(i:Int) < (T.length:Int):=by omega
 obtain ⟨l,hl⟩:∃ l,x.next=l:=⟨_,rfl⟩
 rw [hl] at c3 hno ⊢
 have HNO:=Lib.hid hno
 obtain ⟨Q,hQ⟩:∃ Q,nextE T.length i l=Q:=⟨_,rfl⟩
 have HQ:=Lib.hid hQ
 rw [hQ]
 generalize T.length=N at *
 clear hn hno hv hx hQ hl c0 c1 c2 c4 c5
 by_cases h0:l.length=0
 · have hq:Q=3:=by rw [← HQ.out]; unfold nextE; rw [if_pos h0]
   subst hq
   have h1:(l.length:Int)=0:=by omega
   clear h0
   go_enter Tryz.func97,Tryz.ntmps97
   go_wp2_with fail
   go_ret
   exact ⟨rfl,Ext.refl _⟩
 by_cases h6:6 < l.length
 · have hq:Q=2:=by rw [← HQ.out]; unfold nextE; rw [if_neg h0,if_pos h6]
   subst hq
   have h1:¬ (l.length:Int)=0:=by omega
   have h2:(6:Int) < (l.length:Int):=by omega
   clear h0 h6
   go_enter Tryz.func97,Tryz.ntmps97
   go_wp2_with fail
   go_ret
   exact ⟨rfl,Ext.refl _⟩
 have H0:=Lib.hid h0
 have H6:=Lib.hid h6
 have h1:¬ (l.length:Int)=0:=by omega
 have h2:¬ (6:Int) < (l.length:Int):=by omega
 clear h0 h6
 go_enter Tryz.func97,Tryz.ntmps97
 go_wp2_with fail
 go_loopw [24] (fun iv wr => ∃ (j:Nat),j ≤ l.length ∧ iv=.int .i64 j ∧ Ext wo wr ∧ Hid (∀ k ∈ l.take j,outB N i k=false)) (fun iv _ => l.length - (intOf iv).toNat)
 case atStart => exact ⟨0,Nat.zero_le _,rfl,Ext.refl _,fun k hk => by simp at hk⟩
 case round =>
  obtain ⟨j,hj,rfl,X,HI⟩:=hrel
  by_cases hlt:j < l.length
  · obtain ⟨k,d1,d2,d3⟩:=get_lt hlt
    obtain ⟨bn,bo,rfl,hc0⟩:=(HNO.out.ext X).at d1
    have hcell:wr.cell? ⟨bn,bo + j,none⟩=some (.int .i64 k):=hc0
    have hjj:(j:Int) < (l.length:Int):=by omega
    have HI2:=Lib.hid (fun (ho:outB N i k=false) => (fun k' hk' => by
     rw [d3.out] at hk'
     rcases List.mem_append.1 hk' with h | h
     · exact HI.out k' h
     · rw [List.mem_singleton.1 h]; exact ho:∀ k' ∈ l.take (j + 1),outB N i k'=false))
    by_cases hlo:(i:Int) < k
    · by_cases hhi:k < (N:Int)
      · clear hc0 d2 hlt
        have HO:=Lib.hid (outB_false hlo hhi)
        go_wp2_with fail
        go_roundw
        case rel => exact ⟨j + 1,by omega,by go_num,X,HI2.out HO.out⟩
        case measure => simp [intOf]; omega
      · have hq:Q=3:=by rw [← HQ.out]; exact nextE_hit d1.out H0.out H6.out (outB_high hhi)
        subst hq
        clear hc0 d2 hlt
        go_wp2_with fail
        go_ret
        exact ⟨rfl,X⟩
    · have hq:Q=3:=by rw [← HQ.out]; exact nextE_hit d1.out H0.out H6.out (outB_low hlo)
      subst hq
      clear hc0 d2 hlt
      go_wp2_with fail
      go_ret
      exact ⟨rfl,X⟩
  · have hq:Q=0:=by
     rw [← HQ.out]
     exact nextE_none H0.out H6.out fun k hk => HI.out k (by rw [List.take_of_length_le (by omega)]; exact hk)
    subst hq
    have hge:¬ (j:Int) < (l.length:Int):=by omega
    clear hlt
    go_wp2_with fail
    go_ret
    exact ⟨rfl,X⟩
set_option maxHeartbeats 1600000 in
set_option maxRecDepth 100000 in
theorem rBig_any (q:Rat) (k:Nat) (hk:k ≤ 800000) (hq:RB k q) (w:World) :
 Calls Tryz.prog 99 #[.string (ratT q)] w fun e w' => e=.returned (.bool (!fitsB q)) ∧ Ext w w':=by
 have HP:=rParts hk hq
 have hf:(!fitsB q)=(decide (2000 < (decT q.num.natAbs).size) || decide (2000 < (decT q.den).size)):=by
  unfold fitsB
  rw [Bool.not_and]
  congr 1
  · by_cases h:(decT q.num.natAbs).size ≤ 2000
    · rw [decide_eq_true h,decide_eq_false (by omega)]; rfl
    · rw [decide_eq_false h,decide_eq_true (by omega)]; rfl
  · by_cases h:(decT q.den).size ≤ 2000
    · rw [decide_eq_true h,decide_eq_false (by omega)]; rfl
    · rw [decide_eq_false h,decide_eq_true (by omega)]; rfl
 rw [hf]
 clear hf hq
 generalize decT q.num.natAbs=A at *
 generalize decT q.den=B at *
 by_cases h1:2000 < A.size
 · have g1:(2000:Int) < (A.size:Int):=by omega
   rw [decide_eq_true h1,Bool.true_or]
   clear h1
   go_enter Tryz.func99,Tryz.ntmps99
   go_wp2_with fail
   refine (HP.out _).mono ?_
   rintro e w2 ⟨rfl,X2⟩
   go_wp2_with fail
   go_ret
   exact ⟨rfl,X2⟩
 · have g1:decide ((2000:Int) < (A.size:Int))=false:=decide_eq_false (by omega)
   rw [decide_eq_false h1,Bool.false_or]
   clear h1
   by_cases h2:2000 < B.size
   · have g2:(2000:Int) < (B.size:Int):=by omega
     rw [decide_eq_true h2]
     clear h2
     go_enter Tryz.func99,Tryz.ntmps99
     go_wp2_with fail
     refine (HP.out _).mono ?_
     rintro e w2 ⟨rfl,X2⟩
     go_wp2_with fail
     go_ret
     exact ⟨rfl,X2⟩
   · have g2:decide ((2000:Int) < (B.size:Int))=false:=decide_eq_false (by omega)
     rw [decide_eq_false h2]
     clear h2
     go_enter Tryz.func99,Tryz.ntmps99
     go_wp2_with fail
     refine (HP.out _).mono ?_
     rintro e w2 ⟨rfl,X2⟩
     go_wp2_with fail
     go_ret
     exact ⟨rfl,X2⟩
theorem size_lt {n K:Nat} (h:(decT n).size ≤ K):n < 10 ^ K:=by
 have h1:=decF_lt (dd_allD n)
 rw [decF_dd] at h1
 rw [decT_size] at h
 exact Nat.lt_of_lt_of_le h1 (Nat.pow_le_pow_right (by omega) h)
theorem fits_RBK {q:Rat} (h:fitsB q=true) {K:Nat} (hK:K=2000):RB K q:=by
 unfold fitsB at h
 simp only [Bool.and_eq_true,decide_eq_true_eq] at h
 exact ⟨size_lt (by omega),size_lt (by omega)⟩
theorem errsL_ok {l:List ByteArray} (h:errsL l=0):∀ s ∈ l,RatOk s:=fun s hs => ratErr_ok (errsL_zero h s hs)
theorem oddsE_large {l:List ByteArray} (h:256 < l.length):oddsE l=2:=by
 unfold oddsE posL sumL; rw [if_pos h]; rfl
theorem oddsE_errs {l:List ByteArray} (h:¬ 256 < l.length) (h2:errsL l ≠ 0):oddsE l=errsL l:=by
 unfold oddsE posL sumL
 rw [if_neg h,if_pos h2]
 dsimp only
 rw [if_neg (show ¬ (errsL l=0 ∧ anyNeg l=true) from fun e => h2 e.1),if_pos h2]
theorem oddsE_sum {l:List ByteArray} (h:¬ 256 < l.length) (h2:errsL l=0):oddsE l =
 if (sumG 0 (l.map ratOf)).2 ≠ 0 then (sumG 0 (l.map ratOf)).2 else if anyNeg l=true then 4 else if ((ratT (sumG 0 (l.map ratOf)).1).toList == [49])=true then 0 else 3:=by
 have hp:posL l=((sumG 0 (l.map ratOf)).1,if (sumG 0 (l.map ratOf)).2=0 ∧ anyNeg l=true then 4 else (sumG 0 (l.map ratOf)).2):=by
  unfold posL sumL
  rw [if_neg h,if_neg (show ¬ errsL l ≠ 0 by simpa using h2)]
 unfold oddsE
 rw [hp]
 dsimp only
 generalize sumG 0 (l.map ratOf)=S
 obtain ⟨q,n⟩:=S
 dsimp only
 by_cases h3:n=0
 · subst h3
   rw [if_neg (show ¬ ((0:Int) ≠ 0) by simp)]
   by_cases h4:anyNeg l=true
   · have e:(if (0:Int)=0 ∧ anyNeg l=true then (4:Int) else 0)=4:=if_pos ⟨rfl,h4⟩
     rw [e,if_pos h4,if_pos (show (4:Int) ≠ 0 by decide)]
   · have e:(if (0:Int)=0 ∧ anyNeg l=true then (4:Int) else 0)=0:=if_neg (fun e => h4 e.2)
     rw [e,if_neg h4,if_neg (show ¬ ((0:Int) ≠ 0) by simp),ratT_is1]
     by_cases h5:q=((1:Int):Rat)
     · rw [if_neg (show ¬ cmpQ q ((1:Int):Rat) ≠ 0 from fun e => e ((cmpQ_zero _ _).2 h5)),if_pos (decide_eq_true h5)]
     · rw [if_pos (show cmpQ q ((1:Int):Rat) ≠ 0 from fun e => h5 ((cmpQ_zero _ _).1 e)),if_neg (by simpa using h5)]
 · have e:(if n=0 ∧ anyNeg l=true then (4:Int) else n)=n:=if_neg (fun e => h3 e.1)
   rw [e,if_pos h3,if_pos h3]
set_option maxHeartbeats 3200000 in
set_option maxRecDepth 100000 in
theorem rOddsError_any (v:Value) (l:List ByteArray) (w:World) (hv:Strs w v l) (hs:∀ s ∈ l,s.size ≤ 9223372036854775806) :
 Calls Tryz.prog 56 #[v] w fun e w' => e=.returned (.int .i64 (oddsE l)) ∧ Ext w w':=by
 obtain ⟨wo,rfl⟩:∃ wo:World,wo=w:=⟨_,rfl⟩
 have HRE:=Lib.hid (rRatErrors_any v l wo hv hs _ rfl)
 rw [show firstF (l.map ratErr)=errsL l from rfl] at HRE
 obtain ⟨ao,c,rfl,hlen,hc⟩:=hv.open
 have HC:=Lib.hid hc
 clear hc hv
 by_cases hl:256 < l.length
 · rw [oddsE_large hl]
   have h1:(256:Int) < (l.length:Int):=by omega
   clear hl
   go_enter Tryz.func56,Tryz.ntmps56
   go_wp2_with fail
   go_ret
   exact ⟨rfl,Ext.refl _⟩
 have h1:¬ (256:Int) < (l.length:Int):=by omega
 by_cases he:errsL l=0
 · rw [oddsE_sum hl he]
   have HOK:=Lib.hid (errsL_ok he)
   have HRB:Hid (∀ s ∈ l,RB 2000 (ratOf s)):=fun s hs => fits_RBK (fits_ok (HOK.out s hs)) rfl
   have HTX:Hid (∀ s ∈ l,s=ratT (ratOf s)):=fun s hs => text_ratT (HOK.out s hs)
   rw [he] at HRE
   obtain ⟨S,hS⟩:∃ S,sumG 0 (l.map ratOf)=S:=⟨_,rfl⟩
   have HS:=Lib.hid hS
   rw [hS]
   obtain ⟨Q,hQ⟩:∃ Q,(if S.2 ≠ 0 then S.2 else if anyNeg l=true then 4 else if ((ratT S.1).toList == [49])=true then 0 else 3)=Q:=⟨_,rfl⟩
   have HQ:=Lib.hid hQ
   rw [hQ]
   clear he hl hs hS hQ
   go_enter Tryz.func56,Tryz.ntmps56
   go_wp2_with fail
   refine HRE.out.mono ?_
   rintro e w1 ⟨rfl,X1⟩
   go_wp2_with fail
   go_loopw [4,19] (fun sv iv wr => ∃ (i:Nat) (a:Rat),i ≤ l.length ∧ iv=.int .i64 i ∧ sv=.string (ratT a) ∧ Hid (fitsB a=true) ∧ Hid (sumG a ((l.drop i).map ratOf)=S) ∧ Ext wo wr) (fun _ iv _ => l.length - (intOf iv).toNat)
   case atStart => exact ⟨0,0,Nat.zero_le _,rfl,by rw [ratT_zero],by show fitsB 0=true; decide +kernel,by show sumG 0 _=_; rw [List.drop_zero]; exact HS.out,X1⟩
   case round =>
    obtain ⟨i,a,hi,rfl,rfl,HF,HSG,X⟩:=hrel
    by_cases hlt:i < l.length
    · obtain ⟨s,d1,d2,d3⟩:=get_lt hlt
      obtain ⟨b,off,rfl,hc0⟩:=(HC.out.ext X).at d1
      have hcell:wr.cell? ⟨b,off + i,none⟩=some (.string s):=hc0
      have hki:(i:Int) < (l.length:Int):=by omega
      have hsm:=List.mem_of_getElem? d1.out
      have hsg:=HSG.out
      rw [d2.out,List.map_cons,sumG] at hsg
      have ha:=fits_RBK HF.out (K:=2000) rfl
      have hb:=HRB.out s hsm
      have HAD:=Lib.hid (fun W => rAdd_any (k:=2000) (m:=2000) (by omega) ha hb W)
      rw [← HTX.out s hsm] at HAD
      have HBG:=Lib.hid (fun W => rBig_any (a + ratOf s) 4001 (by omega) (RB_add ha hb) W)
      generalize ratOf s=q at *
      generalize ratT a=TA at *
      by_cases hf:fitsB (a + q)=true
      · rw [if_pos hf] at hsg
        have HSG2:=Lib.hid hsg
        rw [hf] at HBG
        have HF2:=Lib.hid hf
        clear hc0 hsg hf hlt d1 d2 d3 ha hb hsm
        go_wp2_with fail
        refine (HAD.out _).mono ?_
        rintro e w2 ⟨rfl,X2⟩
        go_wp2_with fail
        refine (HBG.out _).mono ?_
        rintro e w3 ⟨rfl,X3⟩
        go_wp2_with fail
        go_roundw
        case rel => exact ⟨i + 1,_,by omega,by go_num,rfl,HF2,HSG2,(X.trans X2).trans X3⟩
        case measure => simp [intOf]; omega
      · rw [if_neg hf] at hsg
        have hq:Q=2:=by
         rw [← HQ.out,← hsg]; rfl
        subst hq
        rw [show fitsB (a + q)=false from by simpa using hf] at HBG
        clear hc0 hsg hf hlt d1 d2 d3 ha hb hsm
        go_wp2_with fail
        refine (HAD.out _).mono ?_
        rintro e w2 ⟨rfl,X2⟩
        go_wp2_with fail
        refine (HBG.out _).mono ?_
        rintro e w3 ⟨rfl,X3⟩
        go_wp2_with fail
        go_ret
        exact ⟨rfl,(X.trans X2).trans X3⟩
    · have hil:l.length=i:=by omega
      have hsg:=HSG.out
      rw [← hil,List.drop_length] at hsg
      have hS2:S=(a,0):=hsg.symm
      subst hS2
      have hq:=HQ.out
      rw [if_neg (show ¬ ((a,(0:Int)):Rat × Int).2 ≠ 0 by simp)] at hq
      dsimp only at hq
      have HQ2:=Lib.hid hq
      obtain ⟨w5,rfl⟩:∃ w5:World,w5=wr:=⟨_,rfl⟩
      have hge:¬ (i:Int) < (l.length:Int):=by omega
      have HRB1:Hid (RB 2000 a):=fits_RBK HF.out rfl
      obtain ⟨TA,hTA⟩:∃ TA,ratT a=TA:=⟨_,rfl⟩
      rw [hTA] at HQ2 ⊢
      clear hlt hi hsg hq HQ HSG hTA
      go_wp2_with fail
      go_loopw [31] (fun iv wr => ∃ (j:Nat),j ≤ l.length ∧ iv=.int .i64 j ∧ Hid (∀ s ∈ l.take j,negB s=false) ∧ Ext wo wr) (fun iv _ => l.length - (intOf iv).toNat)
      case atStart => exact ⟨0,Nat.zero_le _,rfl,fun s hs => by simp at hs,X⟩
      case round =>
       obtain ⟨j,hj,rfl,HN,Y⟩:=hrel
       by_cases hlt:j < l.length
       · obtain ⟨s,d1,d2,d3⟩:=get_lt hlt
         obtain ⟨b,off,rfl,hc0⟩:=(HC.out.ext Y).at d1
         have hcell:wr.cell? ⟨b,off + j,none⟩=some (.string s):=hc0
         have hki:(j:Int) < (l.length:Int):=by omega
         have hsm:=List.mem_of_getElem? d1.out
         have HSI:=Lib.hid (fun W => rSign_any (k:=2000) (by omega) (HRB.out s hsm) W)
         rw [← HTX.out s hsm] at HSI
         have hnn:=negB_num (HOK.out s hsm)
         have HN2:=Lib.hid (fun (hb:negB s=false) => (fun s' hs' => by
          rw [d3.out] at hs'
          rcases List.mem_append.1 hs' with h | h
          · exact HN.out s' h
          · rw [List.mem_singleton.1 h]; exact hb:∀ s' ∈ l.take (j + 1),negB s'=false))
         have hsg:(ratOf s).num.sign < 0 ↔ (ratOf s).num < 0:=Int.sign_neg_iff
         generalize (ratOf s).num.sign=z at *
         by_cases hz:z < 0
         · have hq:Q=4:=by
            rw [← HQ2.out,if_pos]
            exact List.any_eq_true.2 ⟨s,hsm,by rw [hnn]; exact decide_eq_true (hsg.1 hz)⟩
           subst hq
           clear hc0 hlt d1 d2 d3 hsm hnn hsg
           go_wp2_with fail
           refine (HSI.out _).mono ?_
           rintro e w2 ⟨rfl,X2⟩
           go_wp2_with fail
           go_ret
           exact ⟨rfl,Y.trans X2⟩
         · have HB:Hid (negB s=false):=by
            show _=_
            rw [hnn]; exact decide_eq_false (fun e => hz (hsg.2 e))
           clear hc0 hlt d1 d2 d3 hsm hnn hsg
           go_wp2_with fail
           refine (HSI.out _).mono ?_
           rintro e w2 ⟨rfl,X2⟩
           go_wp2_with fail
           go_roundw
           case rel => exact ⟨j + 1,by omega,by go_num,HN2.out HB.out,Y.trans X2⟩
           case measure => simp [intOf]; omega
       · have hne:¬ anyNeg l=true:=fun e => by
          obtain ⟨s,hs,hb⟩:=List.any_eq_true.1 e
          rw [HN.out s (by rw [List.take_of_length_le (by omega)]; exact hs)] at hb; cases hb
         have hq:=HQ2.out
         rw [if_neg hne] at hq
         have hge2:¬ (j:Int) < (l.length:Int):=by omega
         cases ht:(TA.toList == [49]) with
         | true =>
           rw [ht,if_pos rfl] at hq
           have hb:(TA.toList != [49])=false:=by rw [bne,ht]; rfl
           subst hq
           clear hlt hne HN
           go_wp2_with fail
           go_ret
           exact ⟨rfl,Y⟩
         | false =>
           rw [ht,if_neg (by simp)] at hq
           have hb:(TA.toList != [49])=true:=by rw [bne,ht]; rfl
           subst hq
           clear hlt hne HN
           go_wp2_with fail
           go_ret
           exact ⟨rfl,Y⟩
 · rw [oddsE_errs hl he]
   have hb:(errsL l != 0)=true:=by simp [he]
   generalize errsL l=E at *
   clear hl hs he
   go_enter Tryz.func56,Tryz.ntmps56
   go_wp2_with fail
   refine HRE.out.mono ?_
   rintro e w1 ⟨rfl,X1⟩
   go_wp2_with fail
   go_ret
   exact ⟨rfl,X1⟩
set_option maxHeartbeats 3200000 in
set_option maxRecDepth 100000 in
theorem rNode_leaf (N i:Nat) (b off:Nat) (c:Nat) (kd pl inf:Int) (no oo:Option Addr) (nl ol nc oc:Nat) (pay:ByteArray) (R E O:Int) (wo:World) (hii:(i:Int) < (N:Int)) (hnl:nl ≤ 17592186044416) (hol:ol ≤ 17592186044416)
 (c0:wo.cell? ⟨b,off + i * 6,none⟩=some (.int .i64 kd)) (c1:wo.cell? ⟨b,off + i * 6 + 1,none⟩=some (.int .i64 pl)) (c2:wo.cell? ⟨b,off + i * 6 + 2,none⟩=some (.int .i64 inf))
 (c3:wo.cell? ⟨b,off + i * 6 + 3,none⟩=some (.slice no nl nc)) (c4:wo.cell? ⟨b,off + i * 6 + 4,none⟩=some (.slice oo ol oc)) (c5:wo.cell? ⟨b,off + i * 6 + 5,none⟩=some (.string pay))
 (HRE:Hid (∀ W,Calls Tryz.prog 96 #[.string pay] W fun e w' => e=.returned (.int .i64 R) ∧ Ext W w'))
 (HNX:Hid (∀ W,Ext wo W → Calls Tryz.prog 97 #[.slice (some ⟨b,off,none⟩) N c,.int .i64 (i:Int)] W fun e w' => e=.returned (.int .i64 E) ∧ Ext W w'))
 (HOD:Hid (∀ W,Ext wo W → Calls Tryz.prog 56 #[.slice oo ol oc] W fun e w' => e=.returned (.int .i64 O) ∧ Ext W w')) :
 Calls Tryz.prog 52 #[.slice (some ⟨b,off,none⟩) N c,.int .i64 (i:Int)] wo fun e w' => e=.returned (.int .i64 (
  if kd=0 then (if pl ≠ 0 ∨ inf ≠ 0 ∨ nl ≠ 0 ∨ ol ≠ 0 then 3 else R)
  else if kd=1 then (if pl ≠ 0 ∨ inf ≠ 0 ∨ pay.size ≠ 0 then 3 else if E ≠ 0 then E else if ol ≠ nl then 3 else O)
  else if kd=2 then (if ol ≠ 0 ∨ pay.size ≠ 0 then 3 else if (pl ≠ 0 ∧ pl ≠ 1) ∨ inf < 0 ∨ 9 < inf then 4 else E)
  else 1)) ∧ Ext wo w':=by
 have hpt:pay.size ≠ 0 → pay.toList.isEmpty=false:=fun h => by
  rw [List.isEmpty_eq_false_iff]
  intro e
  apply h
  have:=congrArg List.length e
  rw [Lib.toList_data] at this
  simpa using this
 have hpf:pay.size=0 → pay.toList.isEmpty=true:=fun h => by
  have:pay.toList=[]:=by
   rw [Lib.toList_data]
   exact List.eq_nil_of_length_eq_zero (by simpa using h)
  rw [this]; rfl
 have HPT:=Lib.hid hpt
 have HPF:=Lib.hid hpf
 clear hpt hpf
 by_cases k0:kd=0
 · subst k0
   rw [if_pos rfl]
   by_cases p0:pl=0
   · subst p0
     by_cases i0:inf=0
     · subst i0
       by_cases n0:nl=0 ∧ ol=0
       · obtain ⟨rfl,rfl⟩:=n0
         rw [if_neg (by simp)]
         go_enter Tryz.func52,Tryz.ntmps52
         go_wp2_with fail
         refine (HRE.out _).mono ?_
         rintro e w2 ⟨rfl,X2⟩
         go_wp2_with fail
         all_goals (go_ret; exact ⟨rfl,(Ext.alloc (Ext.refl _) _).trans X2⟩)
       · rw [if_pos (by omega)]
         have hs:(0:Int) < (nl:Int) + (ol:Int):=by omega
         clear n0
         go_enter Tryz.func52,Tryz.ntmps52
         go_wp2_with fail
         all_goals (go_ret; exact ⟨rfl,Ext.alloc (Ext.refl _) _⟩)
     · rw [if_pos (by omega)]
       go_enter Tryz.func52,Tryz.ntmps52
       go_wp2_with fail
       all_goals (go_ret; exact ⟨rfl,Ext.alloc (Ext.refl _) _⟩)
   · rw [if_pos (by omega)]
     go_enter Tryz.func52,Tryz.ntmps52
     go_wp2_with fail
     all_goals (go_ret; exact ⟨rfl,Ext.alloc (Ext.refl _) _⟩)
 rw [if_neg k0]
 by_cases k1:kd=1
 · subst k1
   rw [if_pos rfl]
   by_cases p0:pl=0
   · subst p0
     by_cases i0:inf=0
     · subst i0
       by_cases y0:pay.size=0
       · rw [if_neg (by omega)]
         have hp:=HPF.out y0
         clear y0
         by_cases e0:E=0
         · subst e0
           rw [if_neg (by simp)]
           by_cases l0:ol=nl
           · subst l0
             rw [if_neg (by simp)]
             go_enter Tryz.func52,Tryz.ntmps52
             go_wp2_with fail
             refine (HNX.out _ (Ext.alloc (Ext.refl _) _)).mono ?_
             rintro e w2 ⟨rfl,X2⟩
             have C0:w2.cell? ⟨wo.heap.size,0,none⟩=some (.int .i64 1):=X2.cell (by simp [World.cell?_alloc_new])
             have C3:w2.cell? ⟨wo.heap.size,3,none⟩=some (.slice no ol nc):=X2.cell (by simp [World.cell?_alloc_new])
             have C4:w2.cell? ⟨wo.heap.size,4,none⟩=some (.slice oo ol oc):=X2.cell (by simp [World.cell?_alloc_new])
             have Y2:Ext wo w2:=(Ext.alloc (Ext.refl _) _).trans X2
             go_wp2_with fail
             refine (HOD.out _ Y2).mono ?_
             rintro e w3 ⟨rfl,X3⟩
             go_wp2_with fail
             all_goals (go_ret; exact ⟨rfl,Y2.trans X3⟩)
           · rw [if_pos l0]
             have hl:¬ (ol:Int)=(nl:Int):=by omega
             clear l0
             go_enter Tryz.func52,Tryz.ntmps52
             go_wp2_with fail
             refine (HNX.out _ (Ext.alloc (Ext.refl _) _)).mono ?_
             rintro e w2 ⟨rfl,X2⟩
             have C0:w2.cell? ⟨wo.heap.size,0,none⟩=some (.int .i64 1):=X2.cell (by simp [World.cell?_alloc_new])
             have C3:w2.cell? ⟨wo.heap.size,3,none⟩=some (.slice no nl nc):=X2.cell (by simp [World.cell?_alloc_new])
             have C4:w2.cell? ⟨wo.heap.size,4,none⟩=some (.slice oo ol oc):=X2.cell (by simp [World.cell?_alloc_new])
             have Y2:Ext wo w2:=(Ext.alloc (Ext.refl _) _).trans X2
             go_wp2_with fail
             all_goals (go_ret; exact ⟨rfl,Y2⟩)
         · rw [if_pos e0]
           have hE:(E != 0)=true:=by simp [e0]
           clear e0
           go_enter Tryz.func52,Tryz.ntmps52
           go_wp2_with fail
           refine (HNX.out _ (Ext.alloc (Ext.refl _) _)).mono ?_
           rintro e w2 ⟨rfl,X2⟩
           have C0:w2.cell? ⟨wo.heap.size,0,none⟩=some (.int .i64 1):=X2.cell (by simp [World.cell?_alloc_new])
           have C3:w2.cell? ⟨wo.heap.size,3,none⟩=some (.slice no nl nc):=X2.cell (by simp [World.cell?_alloc_new])
           have C4:w2.cell? ⟨wo.heap.size,4,none⟩=some (.slice oo ol oc):=X2.cell (by simp [World.cell?_alloc_new])
           have Y2:Ext wo w2:=(Ext.alloc (Ext.refl _) _).trans X2
           go_wp2_with fail
           all_goals (go_ret; exact ⟨rfl,Y2⟩)
       · rw [if_pos (by omega)]
         have hp:=HPT.out y0
         clear y0
         go_enter Tryz.func52,Tryz.ntmps52
         go_wp2_with fail
         all_goals (go_ret; exact ⟨rfl,Ext.alloc (Ext.refl _) _⟩)
     · rw [if_pos (by omega)]
       go_enter Tryz.func52,Tryz.ntmps52
       go_wp2_with fail
       all_goals (go_ret; exact ⟨rfl,Ext.alloc (Ext.refl _) _⟩)
   · rw [if_pos (by omega)]
     go_enter Tryz.func52,Tryz.ntmps52
     go_wp2_with fail
     all_goals (go_ret; exact ⟨rfl,Ext.alloc (Ext.refl _) _⟩)
 rw [if_neg k1]
 by_cases k2:kd=2
 · subst k2
   rw [if_pos rfl]
   by_cases o0:ol=0
   · subst o0
     by_cases y0:pay.size=0
     · rw [if_neg (by omega)]
       have hp:=HPF.out y0
       clear y0
       by_cases b0:(pl ≠ 0 ∧ pl ≠ 1) ∨ inf < 0 ∨ 9 < inf
       · rw [if_pos b0]
         by_cases p0:pl=0
         · subst p0
           by_cases i0:inf < 0
           · clear b0
             go_enter Tryz.func52,Tryz.ntmps52
             go_wp2_with fail
             all_goals (go_ret; exact ⟨rfl,Ext.alloc (Ext.refl _) _⟩)
           · have i9:9 < inf:=by omega
             clear b0
             go_enter Tryz.func52,Tryz.ntmps52
             go_wp2_with fail
             all_goals (go_ret; exact ⟨rfl,Ext.alloc (Ext.refl _) _⟩)
         · by_cases p1:pl=1
           · subst p1
             by_cases i0:inf < 0
             · clear b0
               go_enter Tryz.func52,Tryz.ntmps52
               go_wp2_with fail
               all_goals (go_ret; exact ⟨rfl,Ext.alloc (Ext.refl _) _⟩)
             · have i9:9 < inf:=by omega
               clear b0
               go_enter Tryz.func52,Tryz.ntmps52
               go_wp2_with fail
               all_goals (go_ret; exact ⟨rfl,Ext.alloc (Ext.refl _) _⟩)
           · clear b0
             go_enter Tryz.func52,Tryz.ntmps52
             go_wp2_with fail
             all_goals (go_ret; exact ⟨rfl,Ext.alloc (Ext.refl _) _⟩)
       · rw [if_neg b0]
         have i0:¬ inf < 0:=by omega
         have i9:¬ 9 < inf:=by omega
         by_cases p0:pl=0
         · subst p0
           clear b0
           by_cases e0:E=0
           · subst e0
             go_enter Tryz.func52,Tryz.ntmps52
             go_wp2_with fail
             refine (HNX.out _ (Ext.alloc (Ext.refl _) _)).mono ?_
             rintro e w2 ⟨rfl,X2⟩
             have C0:w2.cell? ⟨wo.heap.size,0,none⟩=some (.int .i64 2):=X2.cell (by simp [World.cell?_alloc_new])
             have Y2:Ext wo w2:=(Ext.alloc (Ext.refl _) _).trans X2
             go_wp2_with fail
             all_goals (go_ret; exact ⟨rfl,Y2⟩)
           · skip
             have hE:(E != 0)=true:=by simp [e0]
             clear e0
             go_enter Tryz.func52,Tryz.ntmps52
             go_wp2_with fail
             refine (HNX.out _ (Ext.alloc (Ext.refl _) _)).mono ?_
             rintro e w2 ⟨rfl,X2⟩
             have C0:w2.cell? ⟨wo.heap.size,0,none⟩=some (.int .i64 2):=X2.cell (by simp [World.cell?_alloc_new])
             have Y2:Ext wo w2:=(Ext.alloc (Ext.refl _) _).trans X2
             go_wp2_with fail
             all_goals (go_ret; exact ⟨rfl,Y2⟩)
         · have p1:pl=1:=by omega
           subst p1
           clear b0
           by_cases e0:E=0
           · subst e0
             go_enter Tryz.func52,Tryz.ntmps52
             go_wp2_with fail
             refine (HNX.out _ (Ext.alloc (Ext.refl _) _)).mono ?_
             rintro e w2 ⟨rfl,X2⟩
             have C0:w2.cell? ⟨wo.heap.size,0,none⟩=some (.int .i64 2):=X2.cell (by simp [World.cell?_alloc_new])
             have Y2:Ext wo w2:=(Ext.alloc (Ext.refl _) _).trans X2
             go_wp2_with fail
             all_goals (go_ret; exact ⟨rfl,Y2⟩)
           · skip
             have hE:(E != 0)=true:=by simp [e0]
             clear e0
             go_enter Tryz.func52,Tryz.ntmps52
             go_wp2_with fail
             refine (HNX.out _ (Ext.alloc (Ext.refl _) _)).mono ?_
             rintro e w2 ⟨rfl,X2⟩
             have C0:w2.cell? ⟨wo.heap.size,0,none⟩=some (.int .i64 2):=X2.cell (by simp [World.cell?_alloc_new])
             have Y2:Ext wo w2:=(Ext.alloc (Ext.refl _) _).trans X2
             go_wp2_with fail
             all_goals (go_ret; exact ⟨rfl,Y2⟩)
     · rw [if_pos (by omega)]
       have hp:=HPT.out y0
       clear y0
       go_enter Tryz.func52,Tryz.ntmps52
       go_wp2_with fail
       all_goals (go_ret; exact ⟨rfl,Ext.alloc (Ext.refl _) _⟩)
   · rw [if_pos (by omega)]
     have hl:(0:Int) < (ol:Int):=by omega
     clear o0
     go_enter Tryz.func52,Tryz.ntmps52
     go_wp2_with fail
     all_goals (go_ret; exact ⟨rfl,Ext.alloc (Ext.refl _) _⟩)
 rw [if_neg k2]
 by_cases kn:kd < 0
 · skip
   go_enter Tryz.func52,Tryz.ntmps52
   go_wp2_with fail
   all_goals (go_ret; exact ⟨rfl,Ext.alloc (Ext.refl _) _⟩)
 · have kp:2 < kd:=by omega
   have k0b:¬ kd < 0:=by omega
   clear kn
   go_enter Tryz.func52,Tryz.ntmps52
   go_wp2_with fail
   all_goals (go_ret; exact ⟨rfl,Ext.alloc (Ext.refl _) _⟩)
theorem parents_take {T:List Nd} {k:Int} {i:Nat} {x:Nd} (hx:T[i]?=some x):parL k 0 (T.take (i + 1))=parL k 0 (T.take i) ++ hitsL i k x.next 0:=by
 obtain ⟨h1,h2⟩:=List.getElem?_eq_some_iff.1 hx
 rw [List.take_succ_eq_append_getElem h1,h2,parL_snoc,List.length_take,Nat.min_eq_left (by omega),Nat.zero_add]
theorem hits_take {i:Nat} {k n:Int} {l:List Int} {c:Nat} (hn:l[c]?=some n):hitsL i k (l.take (c + 1)) 0=hitsL i k (l.take c) 0 ++ (if n=k then [((i:Int),(c:Int))] else []):=by
 obtain ⟨h1,h2⟩:=List.getElem?_eq_some_iff.1 hn
 rw [List.take_succ_eq_append_getElem h1,h2,hitsL_snoc,List.length_take,Nat.min_eq_left (by omega),Nat.zero_add]
theorem hits_len (i:Nat) (k:Int):∀ (l:List Int) (c:Nat),(hitsL i k l c).length ≤ l.length
 | [],c => Nat.le_refl _
 | n :: t,c => by
   rw [hitsL]
   have:=hits_len i k t (c + 1)
   split
   · rw [List.length_cons,List.length_cons]; omega
   · rw [List.length_cons]; omega
def Slim (T:List Nd):Prop:=T.length ≤ 120 ∧ ∀ x ∈ T,x.next.length ≤ 6
theorem parL_len (k:Int):∀ (l:List Nd) (i:Nat),(∀ x ∈ l,x.next.length ≤ 6) → (parL k i l).length ≤ 6 * l.length
 | [],i,_ => Nat.le_refl _
 | x :: t,i,h => by
   rw [parL,List.length_append,List.length_cons]
   have h1:=hits_len i k x.next 0
   have h2:=h x (List.mem_cons_self ..)
   have h3:=parL_len k t (i + 1) fun y hy => h y (List.mem_cons_of_mem _ hy)
   omega
set_option maxHeartbeats 3200000 in
set_option maxRecDepth 100000 in
theorem rParents_any (v:Value) (T:List Nd) (k:Int) (w:World) (hv:TreeIn w v T) (hT:Slim T) :
 Calls Tryz.prog 53 #[v,.int .i64 k] w fun e w' => ∃ u,e=.returned u ∧ P2In w' u (parents T k) ∧ Ext w w':=by
 obtain ⟨wo,rfl⟩:∃ wo:World,wo=w:=⟨_,rfl⟩
 obtain ⟨ao,c,rfl,hlen,hn⟩:=hv.open
 have HN:=Lib.hid hn
 have HT:=Lib.hid hT
 have hl:=hT.1
 have HL:=Lib.hid (fun i (hi:i ≤ T.length) => (by
  have:=parL_len k (T.take i) 0 fun x hx => HT.out.2 x (List.mem_of_mem_take hx)
  rw [List.length_take] at this
  omega:(parL k 0 (T.take i)).length ≤ 720))
 clear hn hv hT
 go_enter Tryz.func53,Tryz.ntmps53
 go_wp2_with fail
 go_loopw [5,12] (fun ov iv wr => ∃ (i:Nat),i ≤ T.length ∧ iv=.int .i64 i ∧ Hid (P2O wr wo.heap.size ov (parL k 0 (T.take i))) ∧ Ext wo wr) (fun _ iv _ => T.length - (intOf iv).toNat)
 case atStart => exact ⟨0,Nat.zero_le _,rfl,by show P2O _ _ _ _; rw [List.take_zero]; exact P2O.nil _ _,Ext.refl _⟩
 case round =>
  obtain ⟨i,hi,rfl,HO,X⟩:=hrel
  by_cases hlt:i < T.length
  · obtain ⟨x,d1,d2,d3⟩:=get_lt hlt
    obtain ⟨b,off,no,nc,oo,oc,rfl,c0,c1,c2,c3,c4,c5,hno,_,_⟩:=HN.out.at d1
    have c0:=X.cell c0
    have c1:=X.cell c1
    have c2:=X.cell c2
    have c3:=X.cell c3
    have c4:=X.cell c4
    have c5:=X.cell c5
    have hii:(i:Int) < (T.length:Int):=by omega
    have HNO:=Lib.hid hno
    have hx6:=HT.out.2 x (List.mem_of_getElem? d1.out)
    have HPT:=Lib.hid (parents_take (k:=k) d1.out)
    have hli:=HL.out i (by omega)
    obtain ⟨pl,hpl⟩:∃ pl,parL k 0 (T.take i)=pl:=⟨_,rfl⟩
    rw [hpl] at HO HPT hli
    obtain ⟨kd,hkd⟩:∃ kd,x.kind=kd:=⟨_,rfl⟩
    obtain ⟨pp,hpp⟩:∃ pp,x.player=pp:=⟨_,rfl⟩
    obtain ⟨qq,hqq⟩:∃ qq,x.info=qq:=⟨_,rfl⟩
    obtain ⟨l,hll⟩:∃ l,x.next=l:=⟨_,rfl⟩
    obtain ⟨ol,hol⟩:∃ ol,x.odds.length=ol:=⟨_,rfl⟩
    obtain ⟨py,hpy⟩:∃ py,x.pay=py:=⟨_,rfl⟩
    rw [hkd] at c0
    rw [hpp] at c1
    rw [hqq] at c2
    rw [hll] at c3 HNO HPT hx6
    rw [hol] at c4
    rw [hpy] at c5
    clear hno d1 d2 d3 hlt hpl hkd hpp hqq hll hol hpy
    obtain ⟨wi,rfl⟩:∃ wi:World,wi=wr:=⟨_,rfl⟩
    go_wp2_with fail
    go_loopw [5,20] (fun ov jv wr => ∃ (j:Nat),j ≤ l.length ∧ jv=.int .i64 j ∧ Hid (P2O wr wo.heap.size ov (pl ++ hitsL i k (l.take j) 0)) ∧ Ext wo wr) (fun _ jv _ => l.length - (intOf jv).toNat)
    case atStart => exact ⟨0,Nat.zero_le _,rfl,by show P2O _ _ _ _; rw [List.take_zero,hitsL,List.append_nil]; exact HO.out.ext (Ext.alloc (Ext.refl _) _),X.alloc _⟩
    case round =>
     obtain ⟨j,hj,rfl,HO2,Y⟩:=hrel
     by_cases hlt2:j < l.length
     · obtain ⟨n,q1,q2,q3⟩:=get_lt hlt2
       obtain ⟨bn,bo,rfl,hc0⟩:=(HNO.out.ext Y).at q1
       have hcell:wr.cell? ⟨bn,bo + j,none⟩=some (.int .i64 n):=hc0
       have hjj:(j:Int) < (l.length:Int):=by omega
       have HHT:=Lib.hid (hits_take (i:=i) (k:=k) q1.out)
       have hlh:=hits_len i k (l.take j) 0
       rw [List.length_take,Nat.min_eq_left (by omega)] at hlh
       obtain ⟨hs,hhs⟩:∃ hs,hitsL i k (l.take j) 0=hs:=⟨_,rfl⟩
       rw [hhs] at HO2 HHT hlh
       by_cases hnk:n=k
       · rw [if_pos hnk] at HHT
         have HO3:=Lib.hid HO2.out
         unfold P2O at HO3
         have hln:(pl ++ hs).length ≤ 726:=by rw [List.length_append]; omega
         obtain ⟨N,hN⟩:∃ N,(pl ++ hs).length=N:=⟨_,rfl⟩
         rw [hN] at HO3 hln
         have HN2:=Lib.hid hN
         have hbk:wo.heap.size ≤ wr.heap.size:=Y.size
         have hnb:((n:Int) == (k:Int))=true:=by simp [hnk]
         clear hc0 q1 q2 q3 hlt2 hhs hN
         go_wp2_with (first | (at_builtin; refine wp_app2 rfl rfl ei_p2 HO3.out rfl rfl (by simp) rfl rfl (by omega) (by omega) (by simpa using hbk) ?_; intro v' w' hown hgrew))
         go_roundw
         case rel =>
          refine ⟨j + 1,by omega,by go_num,?_,hgrew.extNew Y HO3.out (Nat.le_refl _)⟩
          show P2O _ _ _ _
          unfold P2O
          rw [HHT.out,← List.append_assoc,flat2_app,List.length_append,HN2.out]
          exact hown
         case measure => simp [intOf]; omega
       · rw [if_neg hnk,List.append_nil] at HHT
         have hnb:((n:Int) == (k:Int))=false:=by rw [beq_eq_false_iff_ne]; exact hnk
         clear hc0 q1 q2 q3 hlt2 hhs
         go_wp2_with fail
         go_roundw
         case rel => exact ⟨j + 1,by omega,by go_num,by show P2O _ _ _ _; rw [HHT.out]; exact HO2.out,Y⟩
         case measure => simp [intOf]; omega
     · have hjl:l.length=j:=by omega
       have HO3:=HO2.out
       rw [List.take_of_length_le (by omega),← HPT.out] at HO3
       have HO4:=Lib.hid HO3
       have hge:¬ (j:Int) < (l.length:Int):=by omega
       clear hlt2 HO3
       go_wp2_with fail
       go_roundw
       case rel => exact ⟨i + 1,by omega,by go_num,HO4,Y⟩
       case measure => simp [intOf]; omega
  · have hil:T.length=i:=by omega
    have HO3:=HO.out
    rw [List.take_of_length_le (by omega)] at HO3
    have hll:=HL.out i (by omega)
    rw [List.take_of_length_le (by omega)] at hll
    have HO4:=Lib.hid (P2O.toIn HO3 (by omega))
    have hge:¬ (i:Int) < (T.length:Int):=by omega
    clear hlt HO3
    go_wp2_with fail
    go_ret
    exact ⟨_,rfl,HO4.out,X⟩
@[go_sem] theorem eq_pair2 (a b c d:Int) (w:World):(Op.equalIn 10000 101 (.agg #[.int .i64 a,.int .i64 b]) (.agg #[.int .i64 c,.int .i64 d])).run Tryz.prog w=.ok (a == c && b == d) w:=by
  have u3:=Tryz.underlying3
  have a3:=Tryz.isAgg3
  have z3:=Tryz.sizeOf3
  rw [show (10000:Nat)=9999 + 1 from rfl,Op.equalIn]
  simp only [Sem.run_bind,run_underlying Tryz.underlying101,Result.andThen_ok]
  simp only [Std.Legacy.Range.forIn_eq_forIn_range',Std.Legacy.Range.size,Nat.sub_zero,Nat.add_sub_cancel,Nat.div_one,List.range'_succ,List.range'_zero,List.forIn_cons,List.forIn_nil]
  go_simp
  by_cases h1:a=c <;> by_cases h2:b=d <;> simp [h1,h2]
theorem take_ne {α:Type} {ps qs:List α} {i:Nat} {p q:α} (h1:ps[i]?=some p) (h2:qs[i]?=some q) (h:p ≠ q):ps ≠ qs:=fun e => by
 rw [e,h2] at h1
 exact h (Option.some.inj h1).symm
def nI (p:Nat × Nat):Int × Int:=((p.1:Int),(p.2:Int))
def tailE (T:List Nd):Int:=if lostB T=true then 3 else if clashB T=true then 3 else 0
theorem treeE_nodes {T:List Nd} (h1:¬ 120 < T.length) (h2:¬ T.length=0):treeE T=if nodesE T.length 0 T ≠ 0 then nodesE T.length 0 T else tailE T:=by
 unfold treeE tailE
 rw [if_neg h1,if_neg h2]
theorem nodesE_at {n:Nat} {T:List Nd} {i:Nat} {x:Nd} (hx:Hid (T.drop i=x :: T.drop (i + 1))):nodesE n i (T.drop i)=if nodeE n i x ≠ 0 then nodeE n i x else nodesE n (i + 1) (T.drop (i + 1)):=by
 rw [hx.out,nodesE]
theorem slim_of {T:List Nd} (h1:T.length ≤ 120) (h:nodesE T.length 0 T=0):Slim T:=⟨h1,fun x hx => by
 obtain ⟨i,hi⟩:=List.mem_iff_getElem?.1 hx
 have hn:=nodesE_zero h i x hi
 rw [Nat.zero_add] at hn
 unfold nodeE at hn
 by_cases k0:x.kind=0
 · rw [if_pos k0] at hn
   by_cases hb:x.player ≠ 0 ∨ x.info ≠ 0 ∨ x.next.length ≠ 0 ∨ x.odds.length ≠ 0
   · rw [if_pos hb] at hn; cases hn
   · omega
 rw [if_neg k0] at hn
 by_cases k1:x.kind=1
 · rw [if_pos k1] at hn
   by_cases hb:x.player ≠ 0 ∨ x.info ≠ 0 ∨ x.pay.size ≠ 0
   · rw [if_pos hb] at hn; cases hn
   rw [if_neg hb] at hn
   by_cases hx:nextE T.length i x.next=0
   · exact (nextE_zero hx).2.1
   · rw [if_pos hx] at hn; exact absurd hn hx
 rw [if_neg k1] at hn
 by_cases k2:x.kind=2
 · rw [if_pos k2] at hn
   by_cases hb:x.odds.length ≠ 0 ∨ x.pay.size ≠ 0
   · rw [if_pos hb] at hn; cases hn
   rw [if_neg hb] at hn
   by_cases hr:(x.player ≠ 0 ∧ x.player ≠ 1) ∨ x.info < 0 ∨ 9 < x.info
   · rw [if_pos hr] at hn; cases hn
   · rw [if_neg hr] at hn
     exact (nextE_zero hn).2.1
 · rw [if_neg k2] at hn; cases hn⟩
theorem rNode_any (v:Value) (T:List Nd) (i:Nat) (x:Nd) (w:World) (hv:TreeIn w v T) (hz:TreeSz T) (hx:Hid (T[i]?=some x)) :
 Calls Tryz.prog 52 #[v,.int .i64 (i:Int)] w fun e w' => e=.returned (.int .i64 (nodeE T.length i x)) ∧ Ext w w':=by
 have hxm:=List.mem_of_getElem? hx.out
 have HNX:=Lib.hid (fun W (hX:Ext w W) => rNext_any v T i x W (hv.ext hX) hx)
 obtain ⟨ao,c,rfl,hlen,hn⟩:=hv.open
 obtain ⟨b,off,no,nc,oo,oc,rfl,c0,c1,c2,c3,c4,c5,hno,hod,hnx⟩:=hn.at hx
 have hi:i < T.length:=Valid.lt hx.out
 obtain ⟨_,_,_,h1,_⟩:=hnx.open
 obtain ⟨_,_,_,h2,_⟩:=hod.open
 exact rNode_leaf T.length i b off c x.kind x.player x.info no oo x.next.length x.odds.length nc oc x.pay (ratErr x.pay) (nextE T.length i x.next) (oddsE x.odds) w (by omega) h1 h2 c0 c1 c2 c3 c4 c5
  (Lib.hid fun W => rRatError_any x.pay W (hz x hxm).1) HNX (Lib.hid fun W hX => rOddsError_any _ x.odds W (hod.ext hX) (hz x hxm).2)
def noClash (T:List Nd) (i j:Nat):Prop:=∀ (a b:Nat) (x y:Nd),T[a]?=some x → T[b]?=some y → (a < i ∨ (a=i ∧ b < j)) → clash x y=false
theorem noClash_zero (T:List Nd):noClash T 0 0:=fun a b x y _ _ h => by omega
theorem noClash_next {T:List Nd} {i j:Nat} (h:noClash T i j) (hj:T.length ≤ j):noClash T (i + 1) 0:=fun a b x y hx hy hab => by
 have:=Valid.lt hy
 exact h a b x y hx hy (by omega)
theorem noClash_step {T:List Nd} {i j:Nat} {x y:Nd} (h:noClash T i j) (hx:T[i]?=some x) (hy:T[j]?=some y) (hc:clash x y=false):noClash T i (j + 1):=fun a b x' y' hx' hy' hab => by
 by_cases e:a=i ∧ b=j
 · obtain ⟨rfl,rfl⟩:=e
   rw [hx] at hx'
   rw [hy] at hy'
   cases hx'
   cases hy'
   exact hc
 · exact h a b x' y' hx' hy' (by omega)
theorem clashB_none {T:List Nd} {i j:Nat} (h:noClash T i j) (hi:T.length ≤ i):clashB T=false:=by
 rw [Bool.eq_false_iff]
 intro e
 obtain ⟨x,hx,e⟩:=List.any_eq_true.1 e
 obtain ⟨y,hy,e⟩:=List.any_eq_true.1 e
 obtain ⟨a,ha⟩:=List.mem_iff_getElem?.1 hx
 obtain ⟨b,hb⟩:=List.mem_iff_getElem?.1 hy
 have:=Valid.lt ha
 rw [h a b x y ha hb (by omega)] at e
 cases e
theorem clashB_hit {T:List Nd} {i j:Nat} {x y:Nd} (hx:T[i]?=some x) (hy:T[j]?=some y) (hc:clash x y=true):clashB T=true :=
 List.any_eq_true.2 ⟨x,List.mem_of_getElem? hx,List.any_eq_true.2 ⟨y,List.mem_of_getElem? hy,hc⟩⟩
theorem lostB_hit {T:List Nd} {k:Nat} (h0:0 < k) (hk:k < T.length) (hp:(parents T (k:Int)).length ≠ 1):lostB T=true :=
 List.any_eq_true.2 ⟨k,List.mem_range.2 hk,by simp [h0,hp]⟩
theorem lostB_none {T:List Nd} {k:Nat} (h:∀ j,0 < j → j < k → (parents T (j:Int)).length=1) (hk:T.length ≤ k):lostB T=false:=by
 rw [Bool.eq_false_iff]
 intro e
 obtain ⟨j,hj,e⟩:=List.any_eq_true.1 e
 have hj:=List.mem_range.1 hj
 simp only [Bool.and_eq_true,decide_eq_true_eq] at e
 exact e.2 (h j e.1 (by omega))
set_option maxHeartbeats 16000000 in
set_option maxRecDepth 100000 in
theorem rTreeError_any (v:Value) (T:List Nd) (w:World) (hv:TreeIn w v T) (hz:TreeSz T) :
 Calls Tryz.prog 13 #[v] w fun e w' => e=.returned (.int .i64 (treeE T)) ∧ Ext w w':=by
 obtain ⟨wo,rfl⟩:∃ wo:World,wo=w:=⟨_,rfl⟩
 have HNE:=Lib.hid (fun i x (hx:Hid (T[i]?=some x)) W (hX:Ext wo W) => rNode_any v T i x W (hv.ext hX) hz hx)
 have HPA:=Lib.hid (fun (hs:Slim T) (j:Nat) W (hX:Ext wo W) => rParents_any v T (j:Int) W (hv.ext hX) hs)
 obtain ⟨ao,c,rfl,hlen,hn⟩:=hv.open
 have HN:=Lib.hid hn
 clear hn hv hz
 by_cases h1:120 < T.length
 · have hq:treeE T=2:=by unfold treeE; rw [if_pos h1]
   rw [hq]
   have g1:(120:Int) < (T.length:Int):=by omega
   clear h1 hq HNE HPA HN
   go_enter Tryz.func13,Tryz.ntmps13
   go_wp2_with fail
   go_ret
   exact ⟨rfl,Ext.refl _⟩
 by_cases h2:T.length=0
 · have hq:treeE T=8:=by unfold treeE; rw [if_neg h1,if_pos h2]
   rw [hq]
   have g1:(T.length:Int)=0:=by omega
   clear h1 h2 hq HNE HPA HN
   go_enter Tryz.func13,Tryz.ntmps13
   go_wp2_with fail
   go_ret
   exact ⟨rfl,Ext.refl _⟩
 have g1:¬ (120:Int) < (T.length:Int):=by omega
 have g2:¬ (T.length:Int)=0:=by omega
 have g3:T.length ≤ 120:=by omega
 have hqe:=treeE_nodes h1 h2
 obtain ⟨Q,hQ⟩:∃ Q,treeE T=Q:=⟨_,rfl⟩
 rw [hQ] at hqe ⊢
 have HQ:=Lib.hid hqe
 clear hqe hQ h1 h2
 go_enter Tryz.func13,Tryz.ntmps13
 go_wp2_with fail
 go_loopw [18] (fun iv wr => ∃ (i:Nat),i ≤ T.length ∧ iv=.int .i64 i ∧ Hid (nodesE T.length i (T.drop i)=nodesE T.length 0 T) ∧ Ext wo wr) (fun iv _ => T.length - (intOf iv).toNat)
 case atStart => exact ⟨0,Nat.zero_le _,rfl,by show _=_; rw [List.drop_zero],Ext.refl _⟩
 case round =>
  obtain ⟨i,hi,rfl,HI,X⟩:=hrel
  by_cases hlt:i < T.length
  · obtain ⟨x,d1,d2,d3⟩:=get_lt hlt
    have hii:(i:Int) < (T.length:Int):=by omega
    have HC:=Lib.hid (HNE.out i x d1 wr X)
    have hns:=nodesE_at (n:=T.length) d2
    rw [HI.out] at hns
    obtain ⟨E,hE⟩:∃ E,nodeE T.length i x=E:=⟨_,rfl⟩
    rw [hE] at HC hns
    by_cases h0:E=0
    · subst h0
      rw [if_neg (show ¬ ((0:Int) ≠ 0) by simp)] at hns
      have HNS:=Lib.hid hns.symm
      clear hns hE d1 d2 d3 hlt
      go_wp2_with fail
      refine HC.out.mono ?_
      rintro e w2 ⟨rfl,X2⟩
      go_wp2_with fail
      go_roundw
      case rel => exact ⟨i + 1,by omega,by go_num,HNS,X.trans X2⟩
      case measure => simp [intOf]; omega
    · rw [if_pos h0] at hns
      have hq:Q=E:=by
       rw [HQ.out,hns,if_pos h0]
      subst hq
      have hb:(Q != 0)=true:=by simp [h0]
      clear hns hE d1 d2 d3 hlt h0
      go_wp2_with fail
      refine HC.out.mono ?_
      rintro e w2 ⟨rfl,X2⟩
      go_wp2_with fail
      go_ret
      exact ⟨rfl,X.trans X2⟩
  · have hns:nodesE T.length 0 T=0:=by
     rw [← HI.out,List.drop_eq_nil_of_le (by omega)]; rfl
    have HSL:=Lib.hid (slim_of g3 hns)
    have hq:=HQ.out
    rw [hns,if_neg (by simp)] at hq
    have HQT:=Lib.hid hq
    have HP:=Lib.hid (HPA.out HSL.out)
    have hge:¬ (i:Int) < (T.length:Int):=by omega
    clear hlt hns hq HQ HI HNE HPA
    go_wp2_with fail
    go_loopw [5] (fun kv wr => ∃ (k:Nat),kv=.int .i64 k ∧ Hid (0 < k) ∧ Hid (k ≤ T.length ∨ k=1) ∧ Hid (∀ j,0 < j → j < k → (parents T (j:Int)).length=1) ∧ Ext wo wr) (fun kv _ => T.length + 1 - (intOf kv).toNat)
    case atStart => exact ⟨1,rfl,Nat.one_pos,.inr rfl,fun j h1 h2 => by omega,X⟩
    case round =>
     obtain ⟨k,rfl,HK0,HK,HPP,Y⟩:=hrel
     by_cases hlt:k < T.length
     · have hkk:(k:Int) < (T.length:Int):=by omega
       have HC:=Lib.hid (HP.out k wr Y)
       by_cases hp:(parents T (k:Int)).length=1
       · have HPP2:Hid (∀ j,0 < j → j < k + 1 → (parents T (j:Int)).length=1):=fun j h1 h2 => by
          by_cases e:j=k
          · rw [e]; exact hp
          · exact HPP.out j h1 (by omega)
         go_wp2_with fail
         refine HC.out.mono ?_
         rintro e w2 ⟨u,rfl,hu,X2⟩
         obtain ⟨po,pc,rfl,_,_⟩:=hu.open
         rw [hp]
         clear hu hp HPP
         go_wp2_with fail
         go_roundw
         case rel => exact ⟨k + 1,by go_num,Nat.succ_pos _,.inl (by omega),HPP2,Y.trans X2⟩
         case measure => simp [intOf]; omega
       · have hq:Q=3:=by
          rw [HQT.out]
          unfold tailE
          rw [if_pos (lostB_hit HK0.out hlt hp)]
         subst hq
         have hb:(((parents T (k:Int)).length:Int) != 1)=true:=by rw [bne_iff_ne]; omega
         have HB:=Lib.hid hb
         clear hp hb
         go_wp2_with fail
         refine HC.out.mono ?_
         rintro e w2 ⟨u,rfl,hu,X2⟩
         obtain ⟨po,pc,rfl,_,_⟩:=hu.open
         have hb:=HB.out
         generalize (parents T (k:Int)).length=m at *
         clear hu
         go_wp2_with fail
         go_ret
         exact ⟨rfl,Y.trans X2⟩
     · have hlo:=lostB_none HPP.out (show T.length ≤ k by omega)
       have hq:=HQT.out
       unfold tailE at hq
       rw [hlo,if_neg (by simp)] at hq
       have HQC:=Lib.hid hq
       have hge2:¬ (k:Int) < (T.length:Int):=by omega
       clear hlt hlo hq HQT HPP HK HK0 HP HSL
       obtain ⟨w5,rfl⟩:∃ w5:World,w5=wr:=⟨_,rfl⟩
       go_wp2_with fail
       go_loopw [41] (fun iv wr => ∃ (i:Nat),i ≤ T.length ∧ iv=.int .i64 i ∧ Hid (noClash T i 0) ∧ Ext wo wr) (fun iv _ => T.length - (intOf iv).toNat)
       case atStart => exact ⟨0,Nat.zero_le _,rfl,noClash_zero T,Y⟩
       case round =>
        obtain ⟨i,hi3,rfl,HNC,X3⟩:=hrel
        by_cases hlt2:i < T.length
        · obtain ⟨x,d1,d2,d3⟩:=get_lt hlt2
          obtain ⟨b,off,no,nc,oo,oc,rfl,c0,c1,c2,c3,c4,c5,_,_,_⟩:=HN.out.at d1
          have c0:=X3.cell c0
          have c1:=X3.cell c1
          have c2:=X3.cell c2
          have c3:=X3.cell c3
          have c4:=X3.cell c4
          have c5:=X3.cell c5
          have hii:(i:Int) < (T.length:Int):=by omega
          obtain ⟨kx,hkx⟩:∃ kx,x.kind=kx:=⟨_,rfl⟩
          obtain ⟨px,hpx⟩:∃ px,x.player=px:=⟨_,rfl⟩
          obtain ⟨qx,hqx⟩:∃ qx,x.info=qx:=⟨_,rfl⟩
          obtain ⟨nx,hnx⟩:∃ nx,x.next.length=nx:=⟨_,rfl⟩
          obtain ⟨ox,hox⟩:∃ ox,x.odds.length=ox:=⟨_,rfl⟩
          obtain ⟨yx,hyx⟩:∃ yx,x.pay=yx:=⟨_,rfl⟩
          rw [hkx] at c0
          rw [hpx] at c1
          rw [hqx] at c2
          rw [hnx] at c3
          rw [hox] at c4
          rw [hyx] at c5
          have HX:=Lib.hid (And.intro hkx (And.intro hpx (And.intro hqx hnx)))
          have HD1:=Lib.hid d1.out
          clear hkx hpx hqx hnx hox hyx d1 d2 d3
          obtain ⟨wi,rfl⟩:∃ wi:World,wi=wr:=⟨_,rfl⟩
          have HCX:Hid (∀ W,Ext wi W → W.cell? ⟨b,off + i * 6 + 2,none⟩=some (.int .i64 qx)):=fun W hW => hW.cell c2
          go_wp2_with fail
          go_loopw [48] (fun jv wr => ∃ (j:Nat),j ≤ T.length ∧ jv=.int .i64 j ∧ Hid (noClash T i j) ∧ Ext (wi.alloc (.cells #[.int .i64 kx,.int .i64 px,.int .i64 qx,.slice no nx nc,.slice oo ox oc,.string yx] 79)) wr) (fun jv _ => T.length - (intOf jv).toNat)
          case atStart => exact ⟨0,Nat.zero_le _,rfl,HNC.out,Ext.refl _⟩
          case round =>
           obtain ⟨j,hj,rfl,HNJ,Z⟩:=hrel
           by_cases hlt3:j < T.length
           · obtain ⟨y,e1,e2,e3⟩:=get_lt hlt3
             obtain ⟨b',off',no',nc',oo',oc',hb',f0,f1,f2,f3,f4,f5,_,_,_⟩:=HN.out.at e1
             simp only [Option.some.injEq,Addr.mk.injEq,and_true] at hb'
             obtain ⟨rfl,rfl⟩:=hb'
             have XZ:Ext wo wr:=X3.trans (Ext.trans ((Ext.refl wi).alloc _) Z)
             have f0:=XZ.cell f0
             have f1:=XZ.cell f1
             have f2:=XZ.cell f2
             have f3:=XZ.cell f3
             have f4:=XZ.cell f4
             have f5:=XZ.cell f5
             have hjj:(j:Int) < (T.length:Int):=by omega
             obtain ⟨ky,hky⟩:∃ ky,y.kind=ky:=⟨_,rfl⟩
             obtain ⟨py,hpy⟩:∃ py,y.player=py:=⟨_,rfl⟩
             obtain ⟨qy,hqy⟩:∃ qy,y.info=qy:=⟨_,rfl⟩
             obtain ⟨ny,hny⟩:∃ ny,y.next.length=ny:=⟨_,rfl⟩
             obtain ⟨oy,hoy⟩:∃ oy,y.odds.length=oy:=⟨_,rfl⟩
             obtain ⟨yy,hyy⟩:∃ yy,y.pay=yy:=⟨_,rfl⟩
             rw [hky] at f0
             rw [hpy] at f1
             rw [hqy] at f2
             rw [hny] at f3
             rw [hoy] at f4
             rw [hyy] at f5
             have hcl:=@clash_iff x y
             rw [HX.out.1,HX.out.2.1,HX.out.2.2.1,HX.out.2.2.2,hky,hpy,hqy,hny] at hcl
             have HCL:=Lib.hid (fun (hc:¬ (kx=2 ∧ ky=2 ∧ px=py ∧ qx=qy ∧ nx ≠ ny)) => noClash_step HNJ.out HD1.out e1.out (by rw [Bool.eq_false_iff]; exact fun e => hc (hcl.1 e)))
             have HXY:=Lib.hid (fun (hc:kx=2 ∧ ky=2 ∧ px=py ∧ qx=qy ∧ nx ≠ ny) => clashB_hit HD1.out e1.out (hcl.2 hc))
             clear hcl hky hpy hqy hny hoy hyy e2 e3
             have HBX:Hid (∀ W,Ext wr W → W.cell? ⟨wi.heap.size,0,none⟩=some (.int .i64 kx) ∧ W.cell? ⟨wi.heap.size,1,none⟩=some (.int .i64 px) ∧ W.cell? ⟨wi.heap.size,2,none⟩=some (.int .i64 qx) ∧ W.cell? ⟨wi.heap.size,3,none⟩=some (.slice no nx nc)):=fun W hW =>
              ⟨(Z.trans hW).cell (by simp [World.cell?_alloc_new]),(Z.trans hW).cell (by simp [World.cell?_alloc_new]),(Z.trans hW).cell (by simp [World.cell?_alloc_new]),(Z.trans hW).cell (by simp [World.cell?_alloc_new])⟩
             obtain ⟨T7,hT7⟩:∃ T7,wr.heap.size=T7:=⟨_,rfl⟩
             obtain ⟨W1,hW1⟩:∃ W1,wr.alloc (.cells #[.int .i64 ky,.int .i64 py,.int .i64 qy,.slice no' ny nc',.slice oo' oy oc',.string yy] 79)=W1:=⟨_,rfl⟩
             have YA:Ext wr W1:=by rw [← hW1]; exact (Ext.refl wr).alloc _
             have y0:W1.cell? ⟨T7,0,none⟩=some (.int .i64 ky):=by rw [← hW1,← hT7]; simp [go_sem]
             have y1:W1.cell? ⟨T7,1,none⟩=some (.int .i64 py):=by rw [← hW1,← hT7]; simp [go_sem]
             have y2:W1.cell? ⟨T7,2,none⟩=some (.int .i64 qy):=by rw [← hW1,← hT7]; simp [go_sem]
             have y3:W1.cell? ⟨T7,3,none⟩=some (.slice no' ny nc'):=by rw [← hW1,← hT7]; simp [go_sem]
             obtain ⟨g0,g1,g2,g3⟩:=HBX.out _ YA
             have g4:=HCX.out _ (Ext.trans (Ext.trans ((Ext.refl wi).alloc _) Z) YA)
             have XA:=Lib.hid (XZ.trans YA)
             have ZA:=Lib.hid (Z.trans YA)
             clear XZ YA
             by_cases a1:kx=2
             · subst a1
               by_cases a2:ky=2
               · subst a2
                 by_cases a3:px=py
                 · subst a3
                   by_cases a4:qy=qx
                   · subst a4
                     by_cases a5:nx=ny
                     · subst a5
                       have HN2:=Lib.hid (HCL.out (by simp))
                       have g5:((nx:Int) != (nx:Int))=false:=by simp
                       clear HNJ HNC HXY e1 hlt2 hlt3
                       go_wp2_with fail
                       clear f0 f1 f2 f3 f4 f5 hW1 hT7 HBX HCX
                       go_quiet (fail)
                       go_wp2_with fail
                       go_roundw
                       case rel => exact ⟨j + 1,by omega,by go_num,HN2,ZA.out.drewN _⟩
                       case measure => simp [intOf]; omega
                     · have hcb:=HXY.out ⟨rfl,rfl,rfl,rfl,a5⟩
                       have hq:=HQC.out
                       rw [hcb,if_pos rfl] at hq
                       subst hq
                       have g5:((nx:Int) != (ny:Int))=true:=by rw [bne_iff_ne]; omega
                       clear HNJ HNC HXY e1 hlt2 hlt3 hcb a5
                       go_wp2_with fail
                       clear f0 f1 f2 f3 f4 f5 hW1 hT7 HBX HCX
                       go_quiet (fail)
                       go_wp2_with fail
                       go_ret
                       exact ⟨rfl,XA.out.drewN _⟩
                   · have HN2:=Lib.hid (HCL.out (fun h => a4 h.2.2.2.1.symm))
                     have bf1:(qy == qx)=false:=by rw [beq_eq_false_iff_ne]; exact a4
                     have bf2:decide (qy=qx)=false:=decide_eq_false a4
                     clear a4
                     clear HNJ HNC HXY e1 hlt2 hlt3
                     go_wp2_with fail
                     clear f0 f1 f2 f3 f4 f5 hW1 hT7 HBX HCX
                     go_quiet (fail)
                     go_wp2_with fail
                     go_roundw
                     case rel => exact ⟨j + 1,by omega,by go_num,HN2,ZA.out.drewN _⟩
                     case measure => simp [intOf]; omega
                 · have HN2:=Lib.hid (HCL.out (fun h => a3 h.2.2.1))
                   have bf1:(px == py)=false:=by rw [beq_eq_false_iff_ne]; exact a3
                   have bf2:decide (px=py)=false:=decide_eq_false a3
                   clear a3
                   clear HNJ HNC HXY e1 hlt2 hlt3
                   go_wp2_with fail
                   clear f0 f1 f2 f3 f4 f5 hW1 hT7 HBX HCX
                   go_quiet (fail)
                   go_wp2_with fail
                   go_roundw
                   case rel => exact ⟨j + 1,by omega,by go_num,HN2,ZA.out.drewN _⟩
                   case measure => simp [intOf]; omega
               · have HN2:=Lib.hid (HCL.out (fun h => a2 h.2.1))
                 have bf1:(ky == (2:Int))=false:=by rw [beq_eq_false_iff_ne]; exact a2
                 have bf2:decide (ky=(2:Int))=false:=decide_eq_false a2
                 clear a2
                 clear HNJ HNC HXY e1 hlt2 hlt3
                 go_wp2_with fail
                 clear f0 f1 f2 f3 f4 f5 hW1 hT7 HBX HCX
                 go_quiet (fail)
                 go_wp2_with fail
                 go_roundw
                 case rel => exact ⟨j + 1,by omega,by go_num,HN2,ZA.out.drewN _⟩
                 case measure => simp [intOf]; omega
             · have HN2:=Lib.hid (HCL.out (fun h => a1 h.1))
               have bf1:(kx == (2:Int))=false:=by rw [beq_eq_false_iff_ne]; exact a1
               have bf2:decide (kx=(2:Int))=false:=decide_eq_false a1
               clear a1
               clear HNJ HNC HXY e1 hlt2 hlt3
               go_wp2_with fail
               clear f0 f1 f2 f3 f4 f5 hW1 hT7 HBX HCX
               go_quiet (fail)
               go_wp2_with fail
               go_roundw
               case rel => exact ⟨j + 1,by omega,by go_num,HN2,ZA.out.drewN _⟩
               case measure => simp [intOf]; omega
           · have hge3:¬ (j:Int) < (T.length:Int):=by omega
             have HN3:=Lib.hid (noClash_next HNJ.out (show T.length ≤ j by omega))
             clear hlt3 HNJ
             go_wp2_with fail
             go_roundw
             case rel => exact ⟨i + 1,by omega,by go_num,HN3,X3.trans (Ext.trans ((Ext.refl wi).alloc _) Z)⟩
             case measure => simp [intOf]; omega
        · have hcb:=clashB_none HNC.out (show T.length ≤ i by omega)
          have hq:=HQC.out
          rw [hcb,if_neg (by simp)] at hq
          subst hq
          have hge3:¬ (i:Int) < (T.length:Int):=by omega
          clear hlt2 hcb
          go_wp2_with fail
          go_ret
          exact ⟨rfl,X3⟩
end Go.Proofs.YtcggohkbmhdohaaGreatDoor
