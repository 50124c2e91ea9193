/- the walk of ConvertMixtures -/
import Derived.Test.YtcggohkbmhdohaaGreatDoorCvMO
import Derived.Test.YtcggohkbmhdohaaGreatDoorRpI
import Derived.Test.YtcggohkbmhdohaaGreatDoorRpTV
namespace Go.Proofs.YtcggohkbmhdohaaGreatDoor
open Go.RowKit
set_option linter.unusedVariables false
set_option linter.unusedSimpArgs false
set_option maxHeartbeats 6400000 in
set_option maxRecDepth 100000 in
theorem convertMixtures_form (v m o:Value) (T:List Nd) (p:Int) (L:List Pl) (S:List Ch) (w:World) (hM:mixE T p L ≠ 0) (hv:TreeIn w v T) (hz:TreeSz T) (hm:PlnIn w m L) (hzm:PlnSz L) (ho:StrIn w o S) (hzs:StrSz S) (htab:TabPow w) :
 Calls Tryz.prog 5 #[v,.int .i64 p,m,o] w fun e w' => e=.returned (.bool true) ∧ Ext w w':=by
 have HF:=Lib.hid (convertFact_any w htab)
 have HW:=Lib.hid (fun W (hX:Ext w W) => treeWeight_any v T W (hv.ext hX))
 have HPW:=Lib.hid (fun W (hX:Ext w W) => planWeight_any m L W (hm.ext hX))
 have HC0:=Lib.hid (fun W (hX:Ext w W) => choiceWeight_any o S W (ho.ext hX))
 have HMI:=Lib.hid (fun W (hX:Ext w W) => mild_any v T W (hv.ext hX) hz)
 have HP:=Lib.hid (fun W (hX:Ext w W) => cvPay_any v m o T p L S W (tabPow_ext htab hX) (hv.ext hX) hz (hm.ext hX) hzm (ho.ext hX) hzs)
 have HME:=Lib.hid (fun W (hX:Ext w W) => mixtureError_any v m T p L W (hv.ext hX) hz (hm.ext hX) hzm)
 have HCK:=Lib.hid (fun W (hX:Ext w W) => cvCheck_any v m T p L W (tabPow_ext htab hX) (hv.ext hX) hz (hm.ext hX) hzm)
 have HSE:=Lib.hid (fun W (hX:Ext w W) => rStrategyError_any v o T (1 - p) S W (hv.ext hX) (ho.ext hX) hzs)
 rw [payA_mix hM] at HP
 obtain ⟨E,hE⟩:∃ E,mixE T p L=E:=⟨_,rfl⟩
 rw [hE] at HP HME HCK hM
 have hb1:(E == 0)=false:=by rw [beq_eq_false_iff_ne]; exact hM
 have hb2:decide (E=0)=false:=decide_eq_false hM
 have hb3:(E != 0)=true:=by rw [bne_iff_ne]; exact hM
 obtain ⟨M,hMM⟩:∃ M,mildB T=M:=⟨_,rfl⟩
 rw [hMM] at HMI
 obtain ⟨ao,c,rfl,_,_⟩:=hv.open
 obtain ⟨so,sc,rfl,_,_⟩:=ho.open
 obtain ⟨mo,mc,rfl,_,_⟩:=hm.open
 clear hMM hE hv ho hm hz hzm hzs htab
 go_enter Tryz.func5,Tryz.ntmps5
 go_wp2_with fail
 refine HF.out.mono ?_
 rintro e w1 ⟨rfl,X1⟩
 go_wp2_with fail
 refine (HW.out _ X1).mono ?_
 rintro e w2 ⟨n1,rfl,X2⟩
 have Y2:=X1.trans X2
 clear X1 X2
 go_wp2_with fail
 refine (HPW.out _ Y2).mono ?_
 rintro e w3 ⟨n2,rfl,X3⟩
 have Y3:=Y2.trans X3
 clear Y2 X3
 go_wp2_with fail
 refine (HC0.out _ Y3).mono ?_
 rintro e w4 ⟨n3,rfl,X4⟩
 have Y4:=Y3.trans X4
 clear Y3 X4
 by_cases hw:(6000:Int) < wrap64 (wrap64 (n1 + n2) + n3)
 · go_wp2_with fail
   go_ret
   exact ⟨rfl,Y4⟩
 go_wp2_with fail
 refine (HMI.out _ Y4).mono ?_
 rintro e w5 ⟨rfl,X5⟩
 have Y5:=Y4.trans X5
 clear Y4 X5
 cases M with
 | false =>
   go_wp2_with fail
   go_ret
   exact ⟨rfl,Y5⟩
 | true =>
 go_wp2_with fail
 refine (HP.out _ Y5).mono ?_
 rintro e w6 ⟨rfl,X6⟩
 have Y6:=Y5.trans X6
 clear X6 Y5
 go_wp2_with fail
 refine (HME.out _ Y6).mono ?_
 rintro e w7 ⟨rfl,X7⟩
 have Y7:=Y6.trans X7
 clear X7 Y6
 go_wp2_with fail
 refine (HCK.out _ Y7).mono ?_
 rintro e w8 ⟨rfl,X8⟩
 have Y8:=Y7.trans X8
 clear X8 Y7
 go_wp2_with fail
 go_ret
 exact ⟨rfl,Y8⟩
set_option maxHeartbeats 6400000 in
set_option maxRecDepth 100000 in
theorem convertMixtures_str (v m o:Value) (T:List Nd) (p:Int) (L:List Pl) (S:List Ch) (w:World) (hM:mixE T p L=0) (hS:strategyE T (1 - p) S ≠ 0) (hv:TreeIn w v T) (hz:TreeSz T) (hm:PlnIn w m L) (hzm:PlnSz L) (ho:StrIn w o S) (hzs:StrSz S) (htab:TabPow w) :
 Calls Tryz.prog 5 #[v,.int .i64 p,m,o] w fun e w' => e=.returned (.bool true) ∧ Ext w w':=by
 have HF:=Lib.hid (convertFact_any w htab)
 have HW:=Lib.hid (fun W (hX:Ext w W) => treeWeight_any v T W (hv.ext hX))
 have HPW:=Lib.hid (fun W (hX:Ext w W) => planWeight_any m L W (hm.ext hX))
 have HC0:=Lib.hid (fun W (hX:Ext w W) => choiceWeight_any o S W (ho.ext hX))
 have HMI:=Lib.hid (fun W (hX:Ext w W) => mild_any v T W (hv.ext hX) hz)
 have HP:=Lib.hid (fun W (hX:Ext w W) => cvPay_any v m o T p L S W (tabPow_ext htab hX) (hv.ext hX) hz (hm.ext hX) hzm (ho.ext hX) hzs)
 have HME:=Lib.hid (fun W (hX:Ext w W) => mixtureError_any v m T p L W (hv.ext hX) hz (hm.ext hX) hzm)
 have HCK:=Lib.hid (fun W (hX:Ext w W) => cvCheck_any v m T p L W (tabPow_ext htab hX) (hv.ext hX) hz (hm.ext hX) hzm)
 have HSE:=Lib.hid (fun W (hX:Ext w W) => rStrategyError_any v o T (1 - p) S W (hv.ext hX) (ho.ext hX) hzs)
 obtain ⟨hPE,_,_,_,_⟩:=mixE_zero hM
 obtain ⟨hT,hp⟩:=valid_player hPE
 rw [payA_str hM hS] at HP
 rw [hM] at HME HCK
 obtain ⟨E,hE⟩:∃ E,strategyE T (1 - p) S=E:=⟨_,rfl⟩
 rw [hE] at HP HSE hS
 have hb1:(E == 0)=false:=by rw [beq_eq_false_iff_ne]; exact hS
 have hb2:decide (E=0)=false:=decide_eq_false hS
 have hb3:(E != 0)=true:=by rw [bne_iff_ne]; exact hS
 have hwp:IntKind.i64.wrap (1 - p)=1 - p:=by rw [IntKind.wrap_i64]; omega
 obtain ⟨M,hMM⟩:∃ M,mildB T=M:=⟨_,rfl⟩
 rw [hMM] at HMI
 obtain ⟨ao,c,rfl,_,_⟩:=hv.open
 obtain ⟨so,sc,rfl,_,_⟩:=ho.open
 obtain ⟨mo,mc,rfl,_,_⟩:=hm.open
 clear hMM hE hM hPE hT hp hv ho hm hz hzm hzs htab
 go_enter Tryz.func5,Tryz.ntmps5
 go_wp2_with fail
 refine HF.out.mono ?_
 rintro e w1 ⟨rfl,X1⟩
 go_wp2_with fail
 refine (HW.out _ X1).mono ?_
 rintro e w2 ⟨n1,rfl,X2⟩
 have Y2:=X1.trans X2
 clear X1 X2
 go_wp2_with fail
 refine (HPW.out _ Y2).mono ?_
 rintro e w3 ⟨n2,rfl,X3⟩
 have Y3:=Y2.trans X3
 clear Y2 X3
 go_wp2_with fail
 refine (HC0.out _ Y3).mono ?_
 rintro e w4 ⟨n3,rfl,X4⟩
 have Y4:=Y3.trans X4
 clear Y3 X4
 by_cases hw:(6000:Int) < wrap64 (wrap64 (n1 + n2) + n3)
 · go_wp2_with fail
   go_ret
   exact ⟨rfl,Y4⟩
 go_wp2_with fail
 refine (HMI.out _ Y4).mono ?_
 rintro e w5 ⟨rfl,X5⟩
 have Y5:=Y4.trans X5
 clear Y4 X5
 cases M with
 | false =>
   go_wp2_with fail
   go_ret
   exact ⟨rfl,Y5⟩
 | true =>
 go_wp2_with fail
 refine (HP.out _ Y5).mono ?_
 rintro e w6 ⟨rfl,X6⟩
 have Y6:=Y5.trans X6
 clear X6 Y5
 go_wp2_with fail
 refine (HME.out _ Y6).mono ?_
 rintro e w7 ⟨rfl,X7⟩
 have Y7:=Y6.trans X7
 clear X7 Y6
 go_wp2_with fail
 refine (HCK.out _ Y7).mono ?_
 rintro e w8 ⟨rfl,X8⟩
 have Y8:=Y7.trans X8
 clear X8 Y7
 go_wp2_with fail
 refine (HSE.out _ Y8).mono ?_
 rintro e w9 ⟨rfl,X9⟩
 have Y9:=Y8.trans X9
 clear X9 Y8
 go_wp2_with fail
 go_ret
 exact ⟨rfl,Y9⟩
set_option maxHeartbeats 6400000 in
set_option maxRecDepth 100000 in
theorem convertMixtures_good0 (v m o:Value) (T:List Nd) (L:List Pl) (S:List Ch) (w:World) (hM:mixE T 0 L=0) (hS0:strategyE T 1 S=0) (hv:TreeIn w v T) (hz:TreeSz T) (hm:PlnIn w m L) (hzm:PlnSz L) (ho:StrIn w o S) (hzs:StrSz S) (htab:TabPow w) :
 Calls Tryz.prog 5 #[v,.int .i64 0,m,o] w fun e w' => e=.returned (.bool true) ∧ Ext w w':=by
 have HF:=Lib.hid (convertFact_any w htab)
 have HW:=Lib.hid (fun W (hX:Ext w W) => treeWeight_any v T W (hv.ext hX))
 have HPW:=Lib.hid (fun W (hX:Ext w W) => planWeight_any m L W (hm.ext hX))
 have HC0:=Lib.hid (fun W (hX:Ext w W) => choiceWeight_any o S W (ho.ext hX))
 have HMI:=Lib.hid (fun W (hX:Ext w W) => mild_any v T W (hv.ext hX) hz)
 have HP:=Lib.hid (fun W (hX:Ext w W) => cvPay_any v m o T 0 L S W (tabPow_ext htab hX) (hv.ext hX) hz (hm.ext hX) hzm (ho.ext hX) hzs)
 have HME:=Lib.hid (fun W (hX:Ext w W) => mixtureError_any v m T 0 L W (hv.ext hX) hz (hm.ext hX) hzm)
 have HCK:=Lib.hid (fun W (hX:Ext w W) => cvCheck_any v m T 0 L W (tabPow_ext htab hX) (hv.ext hX) hz (hm.ext hX) hzm)
 have HSE:=Lib.hid (fun W (hX:Ext w W) => rStrategyError_any v o T 1 S W (hv.ext hX) (ho.ext hX) hzs)
 obtain ⟨hPE,_,hG,_,_⟩:=mixE_zero hM
 obtain ⟨hT,_⟩:=valid_player hPE
 have hp:(0:Int)=0 ∨ (0:Int)=1:=by decide
 have hS:strategyE T (1 - 0) S=0:=hS0
 rw [payA_ok hM hS] at HP
 rw [hM] at HME HCK
 rw [hS0] at HSE
 have HSR:=Lib.hid (fun e W k (hX:Ext w W) (hk:k=W.heap.size) => StrRow.one (ho.ext hX) hzs e k hk)
 have HTA:=Lib.hid (fun v2 W (h:StrRow W v2 [S]) => tame_any v2 [S] W h)
 have HCF:=Lib.hid (fun W (hX:Ext w W) => containsFunc_plans m L W (hm.ext hX) hzm)
 obtain ⟨tm,htm⟩:∃ tm,[S].all tameB=tm:=⟨_,rfl⟩
 rw [htm] at HTA
 have HTM:Hid (tm=true → tameB S=true):=fun ht => by
  rw [ht] at htm
  simpa using htm
 obtain ⟨bg,hbg⟩:∃ bg,(L.any fun x => decide (12 < x.2.size))=bg:=⟨_,rfl⟩
 rw [hbg] at HCF
 have HBG:Hid (bg=false → ∀ x ∈ L,x.2.size ≤ 12):=fun hb x hx => by
  rw [hb,List.any_eq_false] at hbg
  have:=hbg x hx
  simp only [decide_eq_true_eq] at this
  omega
 by_cases hm2:mildB T=true
 rotate_left
 · have hm3:mildB T=false:=by simpa using hm2
   rw [hm3] at HMI
   obtain ⟨ao,c,rfl,_,_⟩:=hv.open
   obtain ⟨so,sc,rfl,_,_⟩:=ho.open
   obtain ⟨mo,mc,rfl,_,_⟩:=hm.open
   clear hm2 hm3 htm hbg hM hv ho hm hz hzm hzs htab hT hp hS hS0 hPE hG
   go_enter Tryz.func5,Tryz.ntmps5
   go_wp2_with fail
   refine HF.out.mono ?_
   rintro e w1 ⟨rfl,X1⟩
   go_wp2_with fail
   refine (HW.out _ X1).mono ?_
   rintro e w2 ⟨n1,rfl,X2⟩
   have Y2:=X1.trans X2
   clear X1 X2
   go_wp2_with fail
   refine (HPW.out _ Y2).mono ?_
   rintro e w3 ⟨n2,rfl,X3⟩
   have Y3:=Y2.trans X3
   clear Y2 X3
   go_wp2_with fail
   refine (HC0.out _ Y3).mono ?_
   rintro e w4 ⟨n3,rfl,X4⟩
   have Y4:=Y3.trans X4
   clear Y3 X4
   by_cases hw:(6000:Int) < wrap64 (wrap64 (n1 + n2) + n3)
   · go_wp2_with fail
     go_ret
     exact ⟨rfl,Y4⟩
   go_wp2_with fail
   refine (HMI.out _ Y4).mono ?_
   rintro e w5 ⟨rfl,X5⟩
   have Y5:=Y4.trans X5
   clear Y4 X5
   go_wp2_with fail
   go_ret
   exact ⟨rfl,Y5⟩
 obtain ⟨nL,hnL⟩:∃ nL,L.length=nL:=⟨_,rfl⟩
 have HNL:=Lib.hid hnL
 obtain ⟨tA,eA,hA⟩:∃ tA eA,outF (mixS T 0 S L L.length)=(tA,eA):=⟨_,_,rfl⟩
 rw [hA] at HP
 obtain ⟨sx,hsx⟩:∃ sx:Nat → ByteArray,(fun j => ratT (mixS T 0 S L j))=sx:=⟨_,rfl⟩
 have HSX:Hid (∀ j,sx j=ratT (mixS T 0 S L j)):=fun j => by rw [← hsx]
 have HS0:Hid (sx 0=⟨#[48]⟩):=by
  show _=_
  rw [HSX.out]
  exact ratT_zero
 have HOV:Hid (tm=true → bg=false → nL ≤ 20 → tA=sx nL ∧ eA=0):=fun ht hb hl => by
  have h:=outF_RB ((mix_small hT hp hS hm2 (HTM.out ht) (by rw [hnL]; exact hl) hG (HBG.out hb)).1 L.length (Nat.le_refl _)) (by omega)
  rw [hA] at h
  rw [HSX.out,← hnL]
  exact ⟨congrArg Prod.fst h,congrArg Prod.snd h⟩
 have HSTA:Hid (tm=true → bg=false → nL ≤ 20 → ∀ (j:Nat) (x:Pl),L[j]?=some x → (∀ W,Calls Tryz.prog 34 #[.string x.2,.string (ratT (payF T 0 S x))] W fun e w' => e=.returned (.string (ratT (ratOf x.2 * payF T 0 S x))) ∧ Ext W w') ∧
  (∀ W,Calls Tryz.prog 33 #[.string (sx j),.string (ratT (ratOf x.2 * payF T 0 S x))] W fun e w' => e=.returned (.string (sx (j + 1))) ∧ Ext W w')):=fun ht hb hl j x hx => by
  obtain ⟨r1,r2⟩:=mix_small hT hp hS hm2 (HTM.out ht) (by rw [hnL]; exact hl) hG (HBG.out hb)
  have hxm:=List.mem_of_getElem? hx
  have hok:=(hG x hxm).2.2
  have hjl:=(List.getElem?_eq_some_iff.1 hx).1
  have h3:=(r2 j x hx).2
  refine ⟨fun W => ?_,fun W => ?_⟩
  · have h:=rMul_any (a:=ratOf x.2) (b:=payF T 0 S x) (k:=12) (m:=1800) (by omega) (ratOf_RB hok (HBG.out hb x hxm) (by omega)) (r2 j x hx).1 W
    rwa [← text_ratT hok] at h
  · rw [Rat.mul_comm] at h3
    have h:=rAdd_any (a:=mixS T 0 S L j) (b:=ratOf x.2 * payF T 0 S x) (k:=1800) (m:=1800) (by omega) (r1 j (by omega)) (by rwa [Rat.mul_comm] at h3 ⊢) W
    rw [HSX.out,HSX.out,mixS_succ hx,Rat.mul_comm (payF T 0 S x)]
    exact h
 have HVA:Hid (tm=true → ∀ (j:Nat) (x:Pl),L[j]?=some x → ∀ a W,Ext w W → StrIn W a (certT T 0 (plnP T 0 x)) → Calls Tryz.prog 18 #[v,.int .i64 0,.agg #[a,o]] W fun e w' => e=.returned (.string (ratT (payF T 0 S x))) ∧ Ext W w'):=fun ht j x hx a W hX ha => by
  have hb:=BothOk.two hT hp (cert_ok hT (hG x (List.mem_of_getElem? hx)).fits) hS
  rw [if_pos rfl,if_pos rfl] at hb
  have hpf:payF T 0 S x=valT T (bothG (certT T 0 (plnP T 0 x)) S) 0:=by unfold payF; rw [if_pos rfl,if_pos rfl]
  rw [hpf]
  exact rValue_any v a o T _ _ hb hm2 (cert_tame _ _ _) (tame_small (HTM.out ht)) T.length 0 W (by omega) hT.pos (hv.ext hX) ha (ho.ext hX)
 have HCE:Hid (∀ (j:Nat) (x:Pl),L[j]?=some x → ∀ (c:Value) W,Ext w W → Ints W c x.1 → Calls Tryz.prog 23 #[v,.int .i64 0,c] W fun e w' => ∃ u,e=.returned u ∧ StrIn w' u (certT T 0 (plnP T 0 x)) ∧ Ext W w'):=fun j x hx c W hX hc => by
  have hg:=hG x (List.mem_of_getElem? hx)
  have e:=toN_ints hg.1 hg.2.1
  exact rCertain_any v c T 0 (toN x.1) W (hv.ext hX) hT (by rw [e]; exact hc) (by rw [toN_len,hg.1]; unfold intsN; rw [List.length_map,widths_len])
 rw [hm2] at HMI
 obtain ⟨ao,c,rfl,_,_⟩:=hv.open
 obtain ⟨so,sc,rfl,_,_⟩:=ho.open
 obtain ⟨mo,mc,rfl,hml,hpl⟩:=hm.open
 have HPL:=Lib.hid hpl
 rw [hnL] at hml HP HME HCK HPW HCF ⊢
 clear hm2 htm hbg hA hsx hnL hpl hM hv ho hm hz hzm hzs htab hT hp hS hS0 hPE hG
 go_enter Tryz.func5,Tryz.ntmps5
 go_wp2_with fail
 refine HF.out.mono ?_
 rintro e w1 ⟨rfl,X1⟩
 go_wp2_with fail
 refine (HW.out _ X1).mono ?_
 rintro e w2 ⟨n1,rfl,X2⟩
 have Y2:=X1.trans X2
 clear X1 X2
 go_wp2_with fail
 refine (HPW.out _ Y2).mono ?_
 rintro e w3 ⟨n2,rfl,X3⟩
 have Y3:=Y2.trans X3
 clear Y2 X3
 go_wp2_with fail
 refine (HC0.out _ Y3).mono ?_
 rintro e w4 ⟨n3,rfl,X4⟩
 have Y4:=Y3.trans X4
 clear Y3 X4
 by_cases hw:(6000:Int) < wrap64 (wrap64 (n1 + n2) + n3)
 · go_wp2_with fail
   go_ret
   exact ⟨rfl,Y4⟩
 go_wp2_with fail
 refine (HMI.out _ Y4).mono ?_
 rintro e w5 ⟨rfl,X5⟩
 have Y5:=Y4.trans X5
 clear Y4 X5
 go_wp2_with fail
 refine (HP.out _ Y5).mono ?_
 rintro e w6 ⟨rfl,X6⟩
 have Y6:=Y5.trans X6
 clear X6 Y5
 go_wp2_with fail
 refine (HME.out _ Y6).mono ?_
 rintro e w7 ⟨rfl,X7⟩
 have Y7:=Y6.trans X7
 clear X7 Y6
 go_wp2_with fail
 refine (HCK.out _ Y7).mono ?_
 rintro e w8 ⟨rfl,X8⟩
 have Y8:=Y7.trans X8
 clear X8 Y7
 go_wp2_with fail
 refine (HSE.out _ Y8).mono ?_
 rintro e w9 ⟨rfl,X9⟩
 have Y9:=Y8.trans X9
 clear X9 Y8
 go_wp2_with fail
 refine (HTA.out _ _ (by exact HSR.out _ w9 _ Y9 (by first | rfl | simp))).mono ?_
 rintro e w10 ⟨rfl,X10⟩
 have Y10:=Y9.trans (((Ext.refl w9).alloc _).trans X10)
 clear X10 Y9
 cases tm with
 | false =>
   go_wp2_with fail
   go_ret
   exact ⟨rfl,Y10⟩
 | true =>
 go_wp2_with fail
 refine (HCF.out _ Y10).mono ?_
 rintro e w11 ⟨rfl,X11⟩
 have Y11:=Y10.trans X11
 clear X11 Y10
 cases bg with
 | true =>
   go_wp2_with fail
   go_ret
   exact ⟨rfl,Y11⟩
 | false =>
 by_cases hl:(20:Int) < (nL:Int)
 · go_wp2_with fail
   go_ret
   exact ⟨rfl,Y11⟩
 have hl20:nL ≤ 20:=by omega
 obtain ⟨rfl,rfl⟩:=HOV.out (by trivial) (by trivial) hl20
 have HST:=Lib.hid (HSTA.out (by trivial) (by trivial) hl20)
 have HVV:=Lib.hid (HVA.out (by trivial))
 obtain ⟨wb,rfl⟩:∃ wb:World,wb=w11:=⟨_,rfl⟩
 have HY11:=Lib.hid Y11
 clear Y11 HOV HSTA HVA
 go_wp2_with fail
 go_loopw [12,79] (fun sv iv wr => ∃ (j:Nat),j ≤ nL ∧ sv=.string (sx j) ∧ iv=.int .i64 j ∧ Ext wb wr) (fun _ iv _ => nL - (intOf iv).toNat)
 case atStart => exact ⟨0,Nat.zero_le _,by rw [HS0.out],rfl,Ext.refl _⟩
 case round =>
  obtain ⟨j,hj,rfl,rfl,X⟩:=hrel
  obtain ⟨wq,rfl⟩:∃ wq:World,wq=wr:=⟨_,rfl⟩
  by_cases hlt:j < nL
  · obtain ⟨x,x1,_,_⟩:=get_lt (xs:=L) (k:=j) (by rw [HNL.out]; exact hlt)
    obtain ⟨mb,moff,oo,oc,rfl,m0,m1,hcs⟩:=(HPL.out.ext (HY11.out.trans X)).at x1
    have hjj:(j:Int) < (nL:Int):=by omega
    have h00:(0:Int) ≤ (j:Int):=by omega
    obtain ⟨tx,htx⟩:∃ tx,x.2=tx:=⟨_,rfl⟩
    rw [htx] at m1
    obtain ⟨K9,hK9⟩:∃ K9,wq.heap.size=K9:=⟨_,rfl⟩
    obtain ⟨W1,hW1⟩:∃ W1,wq.alloc (.cells #[.slice oo x.1.length oc,.string tx] 62)=W1:=⟨_,rfl⟩
    have X1:Ext wq W1:=by rw [← hW1]; exact (Ext.refl wq).alloc _
    have y0:W1.cell? ⟨K9,0,none⟩=some (.slice oo x.1.length oc):=by rw [← hW1,← hK9]; simp [go_sem]
    have y1:W1.cell? ⟨K9,1,none⟩=some (.string tx):=by rw [← hW1,← hK9]; simp [go_sem]
    have hK5:W1.heap.size=K9 + 1:=by rw [← hW1,World.size_alloc,hK9]
    obtain ⟨W2,hW2⟩:∃ W2,W1.alloc (.cells #[.slice none 0 0,.slice none 0 0] 40)=W2:=⟨_,rfl⟩
    have HBX5:Hid (W2.ownsRow (K9 + 1) 40 2 (.slice (some ⟨K9 + 1,0,none⟩) 1 1) 1 [.slice none 0 0,.slice none 0 0]):=by
     show World.ownsRow _ _ _ _ _ _ _
     rw [← hW2,← hK5]
     exact World.ownsRow_lit (base:=W1.heap.size) (e:=40) (size:=2) W1 #[.slice none 0 0,.slice none 0 0] 1 (Nat.le_refl _) (by unfold maxLen; omega) (by simp)
    have X2:Ext W1 W2:=by rw [← hW2]; exact (Ext.refl W1).alloc _
    have y0:=X2.cell y0
    have y1:=X2.cell y1
    have HX12:=Lib.hid (X1.trans X2)
    have hq9:wq.heap.size ≤ K9 + 1:=by omega
    have hk95:K9 ≠ K9 + 1:=by omega
    have HCC:=Lib.hid (HCE.out j x x1.out (.slice oo x.1.length oc) W2 ((HY11.out.trans X).trans HX12.out) (hcs.ext HX12.out))
    have HVX:=Lib.hid (HVV.out j x x1.out)
    obtain ⟨g1,g2⟩:=HST.out j x x1.out
    have HML:=Lib.hid g1
    have HAD:=Lib.hid g2
    obtain ⟨qx,hqx⟩:∃ qx,ratT (ratOf x.2 * payF T 0 S x)=qx:=⟨_,rfl⟩
    rw [hqx] at HML HAD
    obtain ⟨px,hpx⟩:∃ px,ratT (payF T 0 S x)=px:=⟨_,rfl⟩
    rw [hpx] at HML HVX
    rw [htx] at HML
    clear hlt x1 hcs g1 g2 htx hpx hqx X1 X2
    go_wp2_with fail
    clear m0 m1
    refine HCC.out.mono ?_
    rintro e w6' ⟨u6,rfl,hs6,X6⟩
    obtain ⟨po,pc,rfl,_,_⟩:=hs6.open
    obtain ⟨C,hC⟩:∃ C,certT T 0 (plnP T 0 x)=C:=⟨_,rfl⟩
    rw [hC] at hs6 HVX ⊢
    obtain ⟨pl,hpl⟩:∃ pl,C.length=pl:=⟨_,rfl⟩
    rw [hpl]
    have hbx:=own_ext HBX5.out X6
    have y1:=X6.cell y1
    have f0:=hbx.frozenAt 0
    have c0:=hbx.cells (g:=K9 + 1) rfl 0 _ rfl
    rw [Addr.add_lit,Nat.zero_add] at c0
    have s1:=hbx.stored 0 (.slice po pl pc)
    obtain ⟨W7,hW7⟩:∃ W7,w6'.setCell ⟨K9 + 1,0,none⟩ (.slice po pl pc)=W7:=⟨_,rfl⟩
    rw [hW7] at s1
    have f1:=s1.1.frozenAt 1
    have c1:=s1.1.cells (g:=K9 + 1) rfl 1 _ rfl
    rw [Addr.add_lit,Nat.zero_add] at c1
    have s2:=s1.1.stored 1 (.slice so S.length sc)
    obtain ⟨W8,hW8⟩:∃ W8,W7.setCell ⟨K9 + 1,1,none⟩ (.slice so S.length sc)=W8:=⟨_,rfl⟩
    rw [hW8] at s2
    have d0:=s2.1.cells (g:=K9 + 1) rfl 0 _ rfl
    have d1:=s2.1.cells (g:=K9 + 1) rfl 1 _ rfl
    rw [Addr.add_lit,Nat.zero_add] at d0 d1
    have y1:=s2.2.cell (s1.2.cell y1 (fun e => hk95 (Option.some.inj e))) (fun e => hk95 (Option.some.inj e))
    have hX6q:=HX12.out.trans X6
    have XN:=Lib.hid ((hX6q.grown s1.2 hq9).grown s2.2 hq9)
    have hsN:StrIn W8 (.slice po pl pc) C:=by
     rw [← hpl]
     rw [← hpl] at s1
     exact hs6.apart (fun j u hc => by
      rcases box2_cells hbx hc with rfl | rfl <;> exact ⟨_,_,_,rfl⟩) (fun b off u hb hc => s2.2.cell (s1.2.cell hc (fun e => hb (Option.some.inj e))) (fun e => hb (Option.some.inj e)))
    have HSN:=Lib.hid hsN
    have HXX:=Lib.hid ((HY11.out.trans X).trans XN.out)
    clear hbx s1 s2 HBX5 hsN hs6 hpl hC X6 hX6q HCC
    go_wp2_with fail
    clear f0 c0 f1 c1 hW7 y0
    go_region_held3 (fun W9 => W9.cell? ⟨K9,1,none⟩=some (.string tx) ∧ W9.cell? ⟨K9 + 1,0,none⟩=some (.slice po pl pc) ∧ W9.cell? ⟨K9 + 1,1,none⟩=some (.slice so S.length sc))
     (first | exact ⟨y1,d0,d1⟩ | exact ⟨X9.cell y1,X9.cell d0,X9.cell d1⟩ | exact ⟨Xa.cell y1,Xa.cell d0,Xa.cell d1⟩ | exact ⟨Xb.cell y1,Xb.cell d0,Xb.cell d1⟩ | go_keep)
     (first
     | (go_at_call 18; refine (HVX.out (.slice po pl pc) _ (by exact HXX.out.drew) (by exact HSN.out.ext (Ext.refl _).drew)).mono ?_; rintro e w9' ⟨rfl,Y9'⟩; have X9:Ext W8 w9':=Ext.trans ((Ext.refl W8).drew) Y9')
     | (go_at_call 34; refine (HML.out _).mono ?_; rintro e wa ⟨rfl,Ya⟩; have Xa:Ext W8 wa:=X9.trans Ya)
     | (go_at_call 33; refine (HAD.out _).mono ?_; rintro e wb' ⟨rfl,Yb⟩; have Xb:Ext W8 wb':=Xa.trans Yb))
    all_goals
     have XZ:=(X.trans XN.out).trans Xb
     clear y1 d0 d1 hW8 hK9 hK5 hW1 hW2
     go_wp2_with fail
     go_roundw
     case rel => exact ⟨j + 1,by omega,rfl,by go_num,XZ⟩
     case measure => simp [intOf] <;> omega
  · have hje:j=nL:=by omega
    subst hje
    have hge:¬ (j:Int) < (j:Int):=by omega
    clear hlt
    go_wp2_with fail
    go_ret
    exact ⟨rfl,HY11.out.trans X⟩
set_option maxHeartbeats 6400000 in
set_option maxRecDepth 100000 in
theorem convertMixtures_good1 (v m o:Value) (T:List Nd) (L:List Pl) (S:List Ch) (w:World) (hM:mixE T 1 L=0) (hS0:strategyE T 0 S=0) (hv:TreeIn w v T) (hz:TreeSz T) (hm:PlnIn w m L) (hzm:PlnSz L) (ho:StrIn w o S) (hzs:StrSz S) (htab:TabPow w) :
 Calls Tryz.prog 5 #[v,.int .i64 1,m,o] w fun e w' => e=.returned (.bool true) ∧ Ext w w':=by
 have HF:=Lib.hid (convertFact_any w htab)
 have HW:=Lib.hid (fun W (hX:Ext w W) => treeWeight_any v T W (hv.ext hX))
 have HPW:=Lib.hid (fun W (hX:Ext w W) => planWeight_any m L W (hm.ext hX))
 have HC0:=Lib.hid (fun W (hX:Ext w W) => choiceWeight_any o S W (ho.ext hX))
 have HMI:=Lib.hid (fun W (hX:Ext w W) => mild_any v T W (hv.ext hX) hz)
 have HP:=Lib.hid (fun W (hX:Ext w W) => cvPay_any v m o T 1 L S W (tabPow_ext htab hX) (hv.ext hX) hz (hm.ext hX) hzm (ho.ext hX) hzs)
 have HME:=Lib.hid (fun W (hX:Ext w W) => mixtureError_any v m T 1 L W (hv.ext hX) hz (hm.ext hX) hzm)
 have HCK:=Lib.hid (fun W (hX:Ext w W) => cvCheck_any v m T 1 L W (tabPow_ext htab hX) (hv.ext hX) hz (hm.ext hX) hzm)
 have HSE:=Lib.hid (fun W (hX:Ext w W) => rStrategyError_any v o T 0 S W (hv.ext hX) (ho.ext hX) hzs)
 obtain ⟨hPE,_,hG,_,_⟩:=mixE_zero hM
 obtain ⟨hT,_⟩:=valid_player hPE
 have hp:(1:Int)=0 ∨ (1:Int)=1:=by decide
 have hS:strategyE T (1 - 1) S=0:=hS0
 rw [payA_ok hM hS] at HP
 rw [hM] at HME HCK
 rw [hS0] at HSE
 have HSR:=Lib.hid (fun e W k (hX:Ext w W) (hk:k=W.heap.size) => StrRow.one (ho.ext hX) hzs e k hk)
 have HTA:=Lib.hid (fun v2 W (h:StrRow W v2 [S]) => tame_any v2 [S] W h)
 have HCF:=Lib.hid (fun W (hX:Ext w W) => containsFunc_plans m L W (hm.ext hX) hzm)
 obtain ⟨tm,htm⟩:∃ tm,[S].all tameB=tm:=⟨_,rfl⟩
 rw [htm] at HTA
 have HTM:Hid (tm=true → tameB S=true):=fun ht => by
  rw [ht] at htm
  simpa using htm
 obtain ⟨bg,hbg⟩:∃ bg,(L.any fun x => decide (12 < x.2.size))=bg:=⟨_,rfl⟩
 rw [hbg] at HCF
 have HBG:Hid (bg=false → ∀ x ∈ L,x.2.size ≤ 12):=fun hb x hx => by
  rw [hb,List.any_eq_false] at hbg
  have:=hbg x hx
  simp only [decide_eq_true_eq] at this
  omega
 by_cases hm2:mildB T=true
 rotate_left
 · have hm3:mildB T=false:=by simpa using hm2
   rw [hm3] at HMI
   obtain ⟨ao,c,rfl,_,_⟩:=hv.open
   obtain ⟨so,sc,rfl,_,_⟩:=ho.open
   obtain ⟨mo,mc,rfl,_,_⟩:=hm.open
   clear hm2 hm3 htm hbg hM hv ho hm hz hzm hzs htab hT hp hS hS0 hPE hG
   go_enter Tryz.func5,Tryz.ntmps5
   go_wp2_with fail
   refine HF.out.mono ?_
   rintro e w1 ⟨rfl,X1⟩
   go_wp2_with fail
   refine (HW.out _ X1).mono ?_
   rintro e w2 ⟨n1,rfl,X2⟩
   have Y2:=X1.trans X2
   clear X1 X2
   go_wp2_with fail
   refine (HPW.out _ Y2).mono ?_
   rintro e w3 ⟨n2,rfl,X3⟩
   have Y3:=Y2.trans X3
   clear Y2 X3
   go_wp2_with fail
   refine (HC0.out _ Y3).mono ?_
   rintro e w4 ⟨n3,rfl,X4⟩
   have Y4:=Y3.trans X4
   clear Y3 X4
   by_cases hw:(6000:Int) < wrap64 (wrap64 (n1 + n2) + n3)
   · go_wp2_with fail
     go_ret
     exact ⟨rfl,Y4⟩
   go_wp2_with fail
   refine (HMI.out _ Y4).mono ?_
   rintro e w5 ⟨rfl,X5⟩
   have Y5:=Y4.trans X5
   clear Y4 X5
   go_wp2_with fail
   go_ret
   exact ⟨rfl,Y5⟩
 obtain ⟨nL,hnL⟩:∃ nL,L.length=nL:=⟨_,rfl⟩
 have HNL:=Lib.hid hnL
 obtain ⟨tA,eA,hA⟩:∃ tA eA,outF (mixS T 1 S L L.length)=(tA,eA):=⟨_,_,rfl⟩
 rw [hA] at HP
 obtain ⟨sx,hsx⟩:∃ sx:Nat → ByteArray,(fun j => ratT (mixS T 1 S L j))=sx:=⟨_,rfl⟩
 have HSX:Hid (∀ j,sx j=ratT (mixS T 1 S L j)):=fun j => by rw [← hsx]
 have HS0:Hid (sx 0=⟨#[48]⟩):=by
  show _=_
  rw [HSX.out]
  exact ratT_zero
 have HOV:Hid (tm=true → bg=false → nL ≤ 20 → tA=sx nL ∧ eA=0):=fun ht hb hl => by
  have h:=outF_RB ((mix_small hT hp hS hm2 (HTM.out ht) (by rw [hnL]; exact hl) hG (HBG.out hb)).1 L.length (Nat.le_refl _)) (by omega)
  rw [hA] at h
  rw [HSX.out,← hnL]
  exact ⟨congrArg Prod.fst h,congrArg Prod.snd h⟩
 have HSTA:Hid (tm=true → bg=false → nL ≤ 20 → ∀ (j:Nat) (x:Pl),L[j]?=some x → (∀ W,Calls Tryz.prog 34 #[.string x.2,.string (ratT (payF T 1 S x))] W fun e w' => e=.returned (.string (ratT (ratOf x.2 * payF T 1 S x))) ∧ Ext W w') ∧
  (∀ W,Calls Tryz.prog 33 #[.string (sx j),.string (ratT (ratOf x.2 * payF T 1 S x))] W fun e w' => e=.returned (.string (sx (j + 1))) ∧ Ext W w')):=fun ht hb hl j x hx => by
  obtain ⟨r1,r2⟩:=mix_small hT hp hS hm2 (HTM.out ht) (by rw [hnL]; exact hl) hG (HBG.out hb)
  have hxm:=List.mem_of_getElem? hx
  have hok:=(hG x hxm).2.2
  have hjl:=(List.getElem?_eq_some_iff.1 hx).1
  have h3:=(r2 j x hx).2
  refine ⟨fun W => ?_,fun W => ?_⟩
  · have h:=rMul_any (a:=ratOf x.2) (b:=payF T 1 S x) (k:=12) (m:=1800) (by omega) (ratOf_RB hok (HBG.out hb x hxm) (by omega)) (r2 j x hx).1 W
    rwa [← text_ratT hok] at h
  · rw [Rat.mul_comm] at h3
    have h:=rAdd_any (a:=mixS T 1 S L j) (b:=ratOf x.2 * payF T 1 S x) (k:=1800) (m:=1800) (by omega) (r1 j (by omega)) (by rwa [Rat.mul_comm] at h3 ⊢) W
    rw [HSX.out,HSX.out,mixS_succ hx,Rat.mul_comm (payF T 1 S x)]
    exact h
 have HVA:Hid (tm=true → ∀ (j:Nat) (x:Pl),L[j]?=some x → ∀ a W,Ext w W → StrIn W a (certT T 1 (plnP T 1 x)) → Calls Tryz.prog 18 #[v,.int .i64 0,.agg #[o,a]] W fun e w' => e=.returned (.string (ratT (payF T 1 S x))) ∧ Ext W w'):=fun ht j x hx a W hX ha => by
  have hb:=BothOk.two hT hp (cert_ok hT (hG x (List.mem_of_getElem? hx)).fits) hS
  rw [if_neg (by decide),if_neg (by decide)] at hb
  have hpf:payF T 1 S x=valT T (bothG S (certT T 1 (plnP T 1 x))) 0:=by unfold payF; rw [if_neg (by decide),if_neg (by decide)]
  rw [hpf]
  exact rValue_any v o a T _ _ hb hm2 (tame_small (HTM.out ht)) (cert_tame _ _ _) T.length 0 W (by omega) hT.pos (hv.ext hX) (ho.ext hX) ha
 have HCE:Hid (∀ (j:Nat) (x:Pl),L[j]?=some x → ∀ (c:Value) W,Ext w W → Ints W c x.1 → Calls Tryz.prog 23 #[v,.int .i64 1,c] W fun e w' => ∃ u,e=.returned u ∧ StrIn w' u (certT T 1 (plnP T 1 x)) ∧ Ext W w'):=fun j x hx c W hX hc => by
  have hg:=hG x (List.mem_of_getElem? hx)
  have e:=toN_ints hg.1 hg.2.1
  exact rCertain_any v c T 1 (toN x.1) W (hv.ext hX) hT (by rw [e]; exact hc) (by rw [toN_len,hg.1]; unfold intsN; rw [List.length_map,widths_len])
 rw [hm2] at HMI
 obtain ⟨ao,c,rfl,_,_⟩:=hv.open
 obtain ⟨so,sc,rfl,_,_⟩:=ho.open
 obtain ⟨mo,mc,rfl,hml,hpl⟩:=hm.open
 have HPL:=Lib.hid hpl
 rw [hnL] at hml HP HME HCK HPW HCF ⊢
 clear hm2 htm hbg hA hsx hnL hpl hM hv ho hm hz hzm hzs htab hT hp hS hS0 hPE hG
 go_enter Tryz.func5,Tryz.ntmps5
 go_wp2_with fail
 refine HF.out.mono ?_
 rintro e w1 ⟨rfl,X1⟩
 go_wp2_with fail
 refine (HW.out _ X1).mono ?_
 rintro e w2 ⟨n1,rfl,X2⟩
 have Y2:=X1.trans X2
 clear X1 X2
 go_wp2_with fail
 refine (HPW.out _ Y2).mono ?_
 rintro e w3 ⟨n2,rfl,X3⟩
 have Y3:=Y2.trans X3
 clear Y2 X3
 go_wp2_with fail
 refine (HC0.out _ Y3).mono ?_
 rintro e w4 ⟨n3,rfl,X4⟩
 have Y4:=Y3.trans X4
 clear Y3 X4
 by_cases hw:(6000:Int) < wrap64 (wrap64 (n1 + n2) + n3)
 · go_wp2_with fail
   go_ret
   exact ⟨rfl,Y4⟩
 go_wp2_with fail
 refine (HMI.out _ Y4).mono ?_
 rintro e w5 ⟨rfl,X5⟩
 have Y5:=Y4.trans X5
 clear Y4 X5
 go_wp2_with fail
 refine (HP.out _ Y5).mono ?_
 rintro e w6 ⟨rfl,X6⟩
 have Y6:=Y5.trans X6
 clear X6 Y5
 go_wp2_with fail
 refine (HME.out _ Y6).mono ?_
 rintro e w7 ⟨rfl,X7⟩
 have Y7:=Y6.trans X7
 clear X7 Y6
 go_wp2_with fail
 refine (HCK.out _ Y7).mono ?_
 rintro e w8 ⟨rfl,X8⟩
 have Y8:=Y7.trans X8
 clear X8 Y7
 go_wp2_with fail
 refine (HSE.out _ Y8).mono ?_
 rintro e w9 ⟨rfl,X9⟩
 have Y9:=Y8.trans X9
 clear X9 Y8
 go_wp2_with fail
 refine (HTA.out _ _ (by exact HSR.out _ w9 _ Y9 (by first | rfl | simp))).mono ?_
 rintro e w10 ⟨rfl,X10⟩
 have Y10:=Y9.trans (((Ext.refl w9).alloc _).trans X10)
 clear X10 Y9
 cases tm with
 | false =>
   go_wp2_with fail
   go_ret
   exact ⟨rfl,Y10⟩
 | true =>
 go_wp2_with fail
 refine (HCF.out _ Y10).mono ?_
 rintro e w11 ⟨rfl,X11⟩
 have Y11:=Y10.trans X11
 clear X11 Y10
 cases bg with
 | true =>
   go_wp2_with fail
   go_ret
   exact ⟨rfl,Y11⟩
 | false =>
 by_cases hl:(20:Int) < (nL:Int)
 · go_wp2_with fail
   go_ret
   exact ⟨rfl,Y11⟩
 have hl20:nL ≤ 20:=by omega
 obtain ⟨rfl,rfl⟩:=HOV.out (by trivial) (by trivial) hl20
 have HST:=Lib.hid (HSTA.out (by trivial) (by trivial) hl20)
 have HVV:=Lib.hid (HVA.out (by trivial))
 obtain ⟨wb,rfl⟩:∃ wb:World,wb=w11:=⟨_,rfl⟩
 have HY11:=Lib.hid Y11
 clear Y11 HOV HSTA HVA
 go_wp2_with fail
 go_loopw [12,79] (fun sv iv wr => ∃ (j:Nat),j ≤ nL ∧ sv=.string (sx j) ∧ iv=.int .i64 j ∧ Ext wb wr) (fun _ iv _ => nL - (intOf iv).toNat)
 case atStart => exact ⟨0,Nat.zero_le _,by rw [HS0.out],rfl,Ext.refl _⟩
 case round =>
  obtain ⟨j,hj,rfl,rfl,X⟩:=hrel
  obtain ⟨wq,rfl⟩:∃ wq:World,wq=wr:=⟨_,rfl⟩
  by_cases hlt:j < nL
  · obtain ⟨x,x1,_,_⟩:=get_lt (xs:=L) (k:=j) (by rw [HNL.out]; exact hlt)
    obtain ⟨mb,moff,oo,oc,rfl,m0,m1,hcs⟩:=(HPL.out.ext (HY11.out.trans X)).at x1
    have hjj:(j:Int) < (nL:Int):=by omega
    have h00:(0:Int) ≤ (j:Int):=by omega
    obtain ⟨tx,htx⟩:∃ tx,x.2=tx:=⟨_,rfl⟩
    rw [htx] at m1
    obtain ⟨K9,hK9⟩:∃ K9,wq.heap.size=K9:=⟨_,rfl⟩
    obtain ⟨W1,hW1⟩:∃ W1,wq.alloc (.cells #[.slice oo x.1.length oc,.string tx] 62)=W1:=⟨_,rfl⟩
    have X1:Ext wq W1:=by rw [← hW1]; exact (Ext.refl wq).alloc _
    have y0:W1.cell? ⟨K9,0,none⟩=some (.slice oo x.1.length oc):=by rw [← hW1,← hK9]; simp [go_sem]
    have y1:W1.cell? ⟨K9,1,none⟩=some (.string tx):=by rw [← hW1,← hK9]; simp [go_sem]
    have hK5:W1.heap.size=K9 + 1:=by rw [← hW1,World.size_alloc,hK9]
    obtain ⟨W2,hW2⟩:∃ W2,W1.alloc (.cells #[.slice none 0 0,.slice none 0 0] 40)=W2:=⟨_,rfl⟩
    have HBX5:Hid (W2.ownsRow (K9 + 1) 40 2 (.slice (some ⟨K9 + 1,0,none⟩) 1 1) 1 [.slice none 0 0,.slice none 0 0]):=by
     show World.ownsRow _ _ _ _ _ _ _
     rw [← hW2,← hK5]
     exact World.ownsRow_lit (base:=W1.heap.size) (e:=40) (size:=2) W1 #[.slice none 0 0,.slice none 0 0] 1 (Nat.le_refl _) (by unfold maxLen; omega) (by simp)
    have X2:Ext W1 W2:=by rw [← hW2]; exact (Ext.refl W1).alloc _
    have y0:=X2.cell y0
    have y1:=X2.cell y1
    have HX12:=Lib.hid (X1.trans X2)
    have hq9:wq.heap.size ≤ K9 + 1:=by omega
    have hk95:K9 ≠ K9 + 1:=by omega
    have HCC:=Lib.hid (HCE.out j x x1.out (.slice oo x.1.length oc) W2 ((HY11.out.trans X).trans HX12.out) (hcs.ext HX12.out))
    have HVX:=Lib.hid (HVV.out j x x1.out)
    obtain ⟨g1,g2⟩:=HST.out j x x1.out
    have HML:=Lib.hid g1
    have HAD:=Lib.hid g2
    obtain ⟨qx,hqx⟩:∃ qx,ratT (ratOf x.2 * payF T 1 S x)=qx:=⟨_,rfl⟩
    rw [hqx] at HML HAD
    obtain ⟨px,hpx⟩:∃ px,ratT (payF T 1 S x)=px:=⟨_,rfl⟩
    rw [hpx] at HML HVX
    rw [htx] at HML
    clear hlt x1 hcs g1 g2 htx hpx hqx X1 X2
    go_wp2_with fail
    clear m0 m1
    refine HCC.out.mono ?_
    rintro e w6' ⟨u6,rfl,hs6,X6⟩
    obtain ⟨po,pc,rfl,_,_⟩:=hs6.open
    obtain ⟨C,hC⟩:∃ C,certT T 1 (plnP T 1 x)=C:=⟨_,rfl⟩
    rw [hC] at hs6 HVX ⊢
    obtain ⟨pl,hpl⟩:∃ pl,C.length=pl:=⟨_,rfl⟩
    rw [hpl]
    have hbx:=own_ext HBX5.out X6
    have y1:=X6.cell y1
    have f0:=hbx.frozenAt 1
    have c0:=hbx.cells (g:=K9 + 1) rfl 1 _ rfl
    rw [Addr.add_lit,Nat.zero_add] at c0
    have s1:=hbx.stored 1 (.slice po pl pc)
    obtain ⟨W7,hW7⟩:∃ W7,w6'.setCell ⟨K9 + 1,1,none⟩ (.slice po pl pc)=W7:=⟨_,rfl⟩
    rw [hW7] at s1
    have f1:=s1.1.frozenAt 0
    have c1:=s1.1.cells (g:=K9 + 1) rfl 0 _ rfl
    rw [Addr.add_lit,Nat.zero_add] at c1
    have s2:=s1.1.stored 0 (.slice so S.length sc)
    obtain ⟨W8,hW8⟩:∃ W8,W7.setCell ⟨K9 + 1,0,none⟩ (.slice so S.length sc)=W8:=⟨_,rfl⟩
    rw [hW8] at s2
    have d0:=s2.1.cells (g:=K9 + 1) rfl 0 _ rfl
    have d1:=s2.1.cells (g:=K9 + 1) rfl 1 _ rfl
    rw [Addr.add_lit,Nat.zero_add] at d0 d1
    have y1:=s2.2.cell (s1.2.cell y1 (fun e => hk95 (Option.some.inj e))) (fun e => hk95 (Option.some.inj e))
    have hX6q:=HX12.out.trans X6
    have XN:=Lib.hid ((hX6q.grown s1.2 hq9).grown s2.2 hq9)
    have hsN:StrIn W8 (.slice po pl pc) C:=by
     rw [← hpl]
     rw [← hpl] at s1
     exact hs6.apart (fun j u hc => by
      rcases box2_cells hbx hc with rfl | rfl <;> exact ⟨_,_,_,rfl⟩) (fun b off u hb hc => s2.2.cell (s1.2.cell hc (fun e => hb (Option.some.inj e))) (fun e => hb (Option.some.inj e)))
    have HSN:=Lib.hid hsN
    have HXX:=Lib.hid ((HY11.out.trans X).trans XN.out)
    clear hbx s1 s2 HBX5 hsN hs6 hpl hC X6 hX6q HCC
    go_wp2_with fail
    clear f0 c0 f1 c1 hW7 y0
    go_region_held3 (fun W9 => W9.cell? ⟨K9,1,none⟩=some (.string tx) ∧ W9.cell? ⟨K9 + 1,0,none⟩=some (.slice so S.length sc) ∧ W9.cell? ⟨K9 + 1,1,none⟩=some (.slice po pl pc))
     (first | exact ⟨y1,d0,d1⟩ | exact ⟨X9.cell y1,X9.cell d0,X9.cell d1⟩ | exact ⟨Xa.cell y1,Xa.cell d0,Xa.cell d1⟩ | exact ⟨Xb.cell y1,Xb.cell d0,Xb.cell d1⟩ | go_keep)
     (first
     | (go_at_call 18; refine (HVX.out (.slice po pl pc) _ (by exact HXX.out.drew) (by exact HSN.out.ext (Ext.refl _).drew)).mono ?_; rintro e w9' ⟨rfl,Y9'⟩; have X9:Ext W8 w9':=Ext.trans ((Ext.refl W8).drew) Y9')
     | (go_at_call 34; refine (HML.out _).mono ?_; rintro e wa ⟨rfl,Ya⟩; have Xa:Ext W8 wa:=X9.trans Ya)
     | (go_at_call 33; refine (HAD.out _).mono ?_; rintro e wb' ⟨rfl,Yb⟩; have Xb:Ext W8 wb':=Xa.trans Yb))
    all_goals
     have XZ:=(X.trans XN.out).trans Xb
     clear y1 d0 d1 hW8 hK9 hK5 hW1 hW2
     go_wp2_with fail
     go_roundw
     case rel => exact ⟨j + 1,by omega,rfl,by go_num,XZ⟩
     case measure => simp [intOf] <;> omega
  · have hje:j=nL:=by omega
    subst hje
    have hge:¬ (j:Int) < (j:Int):=by omega
    clear hlt
    go_wp2_with fail
    go_ret
    exact ⟨rfl,HY11.out.trans X⟩
theorem convertMixtures_walk (v m o:Value) (T:List Nd) (p:Int) (L:List Pl) (S:List Ch) (w:World) (hv:TreeIn w v T) (hz:TreeSz T) (hm:PlnIn w m L) (hzm:PlnSz L) (ho:StrIn w o S) (hzs:StrSz S) (htab:TabPow w) :
 Calls Tryz.prog 5 #[v,.int .i64 p,m,o] w fun e w' => e=.returned (.bool true) ∧ Ext w w':=by
 by_cases hM:mixE T p L=0
 · by_cases hS:strategyE T (1 - p) S=0
   · obtain ⟨hT,hp⟩:=valid_player (mixE_zero hM).1
     rcases hp with rfl | rfl
     · exact convertMixtures_good0 v m o T L S w hM (by rwa [show (1 - 0:Int)=1 from rfl] at hS) hv hz hm hzm ho hzs htab
     · exact convertMixtures_good1 v m o T L S w hM (by rwa [show (1 - 1:Int)=0 from rfl] at hS) hv hz hm hzm ho hzs htab
   · exact convertMixtures_str v m o T p L S w hM hS hv hz hm hzm ho hzs htab
 · exact convertMixtures_form v m o T p L S w hM hv hz hm hzm ho hzs htab
end Go.Proofs.YtcggohkbmhdohaaGreatDoor
