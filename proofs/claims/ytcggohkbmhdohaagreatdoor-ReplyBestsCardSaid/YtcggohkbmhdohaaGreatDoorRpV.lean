/- the walk of ReplyBests -/
import Derived.Test.YtcggohkbmhdohaaGreatDoorRpU
namespace Go.Proofs.YtcggohkbmhdohaaGreatDoor
open Go.RowKit
set_option linter.unusedVariables false
theorem ratT_nil (q:Rat):((ratT q).toList == [])=false:=by
 rw [beq_eq_false_iff_ne,Lib.toList_data,ratT_abs]
 intro h
 split at h
 · rw [bytes_data_append] at h; simp at h
 · rw [absT_data] at h
   exact dd_ne _ (List.append_eq_nil_iff.1 h).1
theorem box2_cells {w:World} {B g:Nat} {e:TypeId} {a b:Value} (h:w.ownsRow B e 2 (.slice (some ⟨g,0,none⟩) 1 1) 1 [a,b]) {j:Nat} {u:Value} (hc:w.cell? ⟨g,j,none⟩=some u):u=a ∨ u=b:=by
 rcases h.2 with ⟨e,_⟩ | ⟨g2,cap,cur,e,_,hg,_,_,hcs,ht⟩
 · simp at e
 · simp only [Value.slice.injEq,Option.some.injEq,Addr.mk.injEq,and_true,true_and] at e
   obtain ⟨rfl,rfl⟩:=e
   rw [cell_of_obj' hg] at hc
   have hl:cur.toList.length=2:=by simpa using hcs
   rw [List.take_of_length_le (by omega)] at ht
   have hm:u ∈ cur.toList:=by
    have:=(Array.getElem?_eq_some_iff.1 hc)
    obtain ⟨h1,rfl⟩:=this
    exact Array.mem_toList_iff.2 (Array.getElem_mem h1)
   rw [ht] at hm
   simpa using hm
theorem StrIn.apart {w w':World} {v:Value} {S:List Ch} (h:StrIn w v S) {K:Nat} (hb:∀ j u,w.cell? ⟨K,j,none⟩=some u → ∃ a n c,u=.slice a n c) (hk:∀ b off u,b ≠ K → w.cell? ⟨b,off,none⟩=some u → w'.cell? ⟨b,off,none⟩=some u):StrIn w' v S:=by
 obtain ⟨ao,c,h1,h2,h3,h4,h5⟩:=h
 refine ⟨ao,c,h1,h2,h3,h4,fun i x hx => ?_⟩
 obtain ⟨b,off,ov,e,k0,k1,k2⟩:=h5 i x hx
 have hbk:b ≠ K:=by
  rintro rfl
  obtain ⟨a,n,c,e2⟩:=hb _ _ k0
  cases e2
 refine ⟨b,off,ov,e,hk _ _ _ hbk k0,hk _ _ _ hbk k1,?_⟩
 obtain ⟨ao2,c2,g1,g2,g3,g4,g5⟩:=k2
 refine ⟨ao2,c2,g1,g2,g3,g4,fun j p hp => ?_⟩
 obtain ⟨b2,off2,e2,hc⟩:=g5 j p hp
 refine ⟨b2,off2,e2,hk _ _ _ ?_ hc⟩
 rintro rfl
 obtain ⟨a,n,c,e3⟩:=hb _ _ hc
 rw [List.getElem?_map] at hp
 obtain ⟨s,_,rfl⟩:=Option.map_eq_some_iff.1 hp
 cases e3
theorem prodL_pos {ws:List Nat} (h:∀ w ∈ ws,0 < w):0 < prodL ws:=by
 have:=prodL_take_pos h ws.length
 rwa [List.take_length] at this
theorem cert_sz (T:List Nd) (p:Int) (P:Int → Nat):StrSz (certT T p P):=fun c hc s hs => by
 have:=cert_tame T p P c hc s hs
 omega
set_option maxHeartbeats 6400000 in
set_option maxRecDepth 100000 in
theorem replyBests_err (v o:Value) (T:List Nd) (p:Int) (S:List Ch) (w:World) (hE:bestE T p S ≠ 0) (hv:TreeIn w v T) (hz:TreeSz T) (ho:StrIn w o S) (hzs:StrSz S) (htab:TabPow w) :
 Calls Tryz.prog 4 #[v,.int .i64 p,o] w fun e w' => e=.returned (.bool true) ∧ Ext w w':=by
 have HF:=Lib.hid (replyFact_any w htab)
 have HW:=Lib.hid (fun W (hX:Ext w W) => treeWeight_any v T W (hv.ext hX))
 have HC0:=Lib.hid (fun W (hX:Ext w W) => choiceWeight_any o S W (ho.ext hX))
 have HMI:=Lib.hid (fun W (hX:Ext w W) => mild_any v T W (hv.ext hX) hz)
 have HB:=Lib.hid (fun W (hX:Ext w W) => replyBest_any v o T p S W (tabPow_ext htab hX) (hv.ext hX) hz (ho.ext hX) hzs)
 have HRE:=Lib.hid (fun W (hX:Ext w W) => rRecallError_any v T p W (hv.ext hX) hz)
 have HSE:=Lib.hid (fun W (hX:Ext w W) => rStrategyError_any v o T (1 - p) S W (hv.ext hX) (ho.ext hX) hzs)
 have HBE:Hid (bestE T p S=bestE T p S):=rfl
 obtain ⟨M,hM⟩:∃ M,mildB T=M:=⟨_,rfl⟩
 rw [hM] at HMI
 obtain ⟨ao,c,rfl,_,_⟩:=hv.open
 obtain ⟨so,sc,rfl,_,_⟩:=ho.open
 obtain ⟨ER,hER⟩:∃ ER,recallE T p=ER:=⟨_,rfl⟩
 obtain ⟨ES,hES⟩:∃ ES,strategyE T (1 - p) S=ES:=⟨_,rfl⟩
 have hEE:bestE T p S=if ER ≠ 0 then ER else ES:=by unfold bestE; rw [hER,hES]
 have hwp:recallE T p=0 → IntKind.i64.wrap (1 - p)=1 - p:=fun h => by
  obtain ⟨_,_,hp,_⟩:=recall_ok h
  rw [IntKind.wrap_i64]; omega
 rw [hER] at HRE hwp
 rw [hES] at HSE
 rw [hEE] at hE
 clear HBE
 have HBE:=Lib.hid hEE
 clear hER hES hM hv ho hz hzs htab hEE
 by_cases hT0:ER=0
 · subst hT0
   have hwp:=hwp rfl
   rw [if_neg (by simp)] at hE HBE
   have hbn:(ES != 0)=true:=by rw [bne_iff_ne]; exact hE
   go_enter Tryz.func4,Tryz.ntmps4
   go_wp2_with fail
   refine HF.out.mono ?_
   rintro e w1 ⟨rfl,X1⟩
   go_wp2_with fail
   refine (HW.out _ X1).mono ?_
   rintro e w2 ⟨n1,rfl,X2⟩
   have Y2:=X1.trans X2
   clear X1 X2
   go_wp2_with fail
   refine (HC0.out _ Y2).mono ?_
   rintro e w3 ⟨n2,rfl,X3⟩
   have Y3:=Y2.trans X3
   clear Y2 X3
   by_cases hw:(6000:Int) < wrap64 (n1 + n2)
   · go_wp2_with fail
     go_ret
     exact ⟨rfl,Y3⟩
   go_wp2_with fail
   refine (HMI.out _ Y3).mono ?_
   rintro e w5 ⟨rfl,X5⟩
   have Y5:=Y3.trans X5
   clear Y3 X5
   cases M with
   | false =>
     go_wp2_with fail
     go_ret
     exact ⟨rfl,Y5⟩
   | true =>
   go_wp2_with fail
   refine (HB.out _ Y5).mono ?_
   rintro e w6 ⟨r6,rfl,h6⟩
   unfold BstPost at h6
   rw [HBE.out] at h6
   obtain ⟨X6,⟨_,rfl⟩ | ⟨h,_⟩ | ⟨h,_⟩⟩:=h6
   rotate_left
   · exact absurd h hE
   · exact absurd h hE
   have Y6:=Y5.trans X6
   clear X6 Y5
   go_wp2_with fail
   refine (HRE.out _ Y6).mono ?_
   rintro e w8 ⟨rfl,X8⟩
   have Y8:=Y6.trans X8
   clear X8 Y6
   go_wp2_with fail
   refine (HSE.out _ Y8).mono ?_
   rintro e w9 ⟨rfl,X9⟩
   have Y8:=Y8.trans X9
   clear X9
   go_wp2_with fail
   go_ret
   exact ⟨rfl,Y8⟩
 · have hbn:(ER == 0)=false:=by rw [beq_eq_false_iff_ne]; exact hT0
   have hbn2:(ER != 0)=true:=by rw [bne_iff_ne]; exact hT0
   rw [if_pos hT0] at hE HBE
   clear hwp
   go_enter Tryz.func4,Tryz.ntmps4
   go_wp2_with fail
   refine HF.out.mono ?_
   rintro e w1 ⟨rfl,X1⟩
   go_wp2_with fail
   refine (HW.out _ X1).mono ?_
   rintro e w2 ⟨n1,rfl,X2⟩
   have Y2:=X1.trans X2
   clear X1 X2
   go_wp2_with fail
   refine (HC0.out _ Y2).mono ?_
   rintro e w3 ⟨n2,rfl,X3⟩
   have Y3:=Y2.trans X3
   clear Y2 X3
   by_cases hw:(6000:Int) < wrap64 (n1 + n2)
   · go_wp2_with fail
     go_ret
     exact ⟨rfl,Y3⟩
   go_wp2_with fail
   refine (HMI.out _ Y3).mono ?_
   rintro e w5 ⟨rfl,X5⟩
   have Y5:=Y3.trans X5
   clear Y3 X5
   cases M with
   | false =>
     go_wp2_with fail
     go_ret
     exact ⟨rfl,Y5⟩
   | true =>
   go_wp2_with fail
   refine (HB.out _ Y5).mono ?_
   rintro e w6 ⟨r6,rfl,h6⟩
   unfold BstPost at h6
   rw [HBE.out] at h6
   obtain ⟨X6,⟨_,rfl⟩ | ⟨h,_⟩ | ⟨h,_⟩⟩:=h6
   rotate_left
   · exact absurd h hE
   · exact absurd h hE
   have Y6:=Y5.trans X6
   clear X6 Y5
   go_wp2_with fail
   refine (HRE.out _ Y6).mono ?_
   rintro e w8 ⟨rfl,X8⟩
   have Y8:=Y6.trans X8
   clear X8 Y6
   go_wp2_with fail
   go_ret
   exact ⟨rfl,Y8⟩
set_option maxHeartbeats 12800000 in
set_option maxRecDepth 100000 in
theorem replyBests_good0 (v o:Value) (T:List Nd) (S:List Ch) (w:World) (hE:bestE T 0 S=0) (hv:TreeIn w v T) (hz:TreeSz T) (ho:StrIn w o S) (hzs:StrSz S) (htab:TabPow w) :
 Calls Tryz.prog 4 #[v,.int .i64 0,o] w fun e w' => e=.returned (.bool true) ∧ Ext w w':=by
 have HF:=Lib.hid (replyFact_any w htab)
 have HW:=Lib.hid (fun W (hX:Ext w W) => treeWeight_any v T W (hv.ext hX))
 have HC0:=Lib.hid (fun W (hX:Ext w W) => choiceWeight_any o S W (ho.ext hX))
 have HMI:=Lib.hid (fun W (hX:Ext w W) => mild_any v T W (hv.ext hX) hz)
 have HB:=Lib.hid (fun W (hX:Ext w W) => replyBest_any v o T 0 S W (tabPow_ext htab hX) (hv.ext hX) hz (ho.ext hX) hzs)
 have HRE:=Lib.hid (fun W (hX:Ext w W) => rRecallError_any v T 0 W (hv.ext hX) hz)
 have HSE:=Lib.hid (fun W (hX:Ext w W) => rStrategyError_any v o T 1 S W (hv.ext hX) (ho.ext hX) hzs)
 obtain ⟨hT,hr,hp,hS0⟩:=bestE_zero hE
 have hS:strategyE T 1 S=0:=by
  have h:=hS0
  rwa [show (1 - 0:Int)=1 from rfl] at h
 have HBE:=Lib.hid hE
 have hre:recallE T 0=0:=by
  unfold bestE at hE
  by_cases h1:recallE T 0=0
  · exact h1
  · rw [if_pos h1] at hE; exact absurd hE h1
 rw [hre] at HRE
 rw [hS] at HSE
 have HSR:=Lib.hid (fun e W k (hX:Ext w W) (hk:k=W.heap.size) => StrRow.one (ho.ext hX) hzs e k hk)
 have HTA:=Lib.hid (fun v2 W (h:StrRow W v2 [S]) => tame_any v2 [S] W h)
 obtain ⟨tm,htm⟩:∃ tm,[S].all tameB=tm:=⟨_,rfl⟩
 rw [htm] at HTA
 have HTM:Hid (tm=true → tameB S=true):=fun ht => by
  rw [ht] at htm
  simpa using htm
 have hil:=infos_len T 0
 have HPU:=Lib.hid (fun W (hX:Ext w W) => rPures_any v T 0 40 W (by omega) (by omega) (hv.ext hX) hT)
 have HCE:=Lib.hid (fun (k:Nat) (c:Value) W (hX:Ext w W) (hc:Ints W c (intsN (pureN (widthsT T 0) k))) => rCertain_any v c T 0 (pureN (widthsT T 0) k) W (hv.ext hX) hT hc (by rw [pureN_len,widths_len]))
 have HSFA:=Lib.hid (fun (eo:Option Addr) (ec:Nat) W (hX:Ext w W) (hs:StrIn W (.slice eo (certT T 0 (bestP T 0 (sumsG T 0 S T.length))).length ec) (certT T 0 (bestP T 0 (sumsG T 0 S T.length)))) => (by
  have h:=rStrategyError_any v _ T 0 _ W (hv.ext hX) hs (cert_sz _ _ _)
  rw [cert_ok hT (fitsP_I hT (bestP_fits hT 0 _))] at h
  exact h:Calls Tryz.prog 15 #[v,.int .i64 0,.slice eo (certT T 0 (bestP T 0 (sumsG T 0 S T.length))).length ec] W fun e w' => e=.returned (.int .i64 0) ∧ Ext W w'))
 by_cases hm:mildB T=true
 rotate_left
 · have hm2:mildB T=false:=by simpa using hm
   rw [hm2] at HMI
   obtain ⟨ao,c,rfl,_,_⟩:=hv.open
   obtain ⟨so,sc,rfl,_,_⟩:=ho.open
   clear hm hm2 htm hE hv ho hz hzs htab hT hr hp hS0 hS hre
   go_enter Tryz.func4,Tryz.ntmps4
   go_wp2_with fail
   refine HF.out.mono ?_
   rintro e w1 ⟨rfl,X1⟩
   go_wp2_with fail
   refine (HW.out _ X1).mono ?_
   rintro e w2 ⟨n1,rfl,X2⟩
   have Y2:=X1.trans X2
   clear X1 X2
   go_wp2_with fail
   refine (HC0.out _ Y2).mono ?_
   rintro e w3 ⟨n2,rfl,X3⟩
   have Y3:=Y2.trans X3
   clear Y2 X3
   by_cases hw:(6000:Int) < wrap64 (n1 + n2)
   · go_wp2_with fail
     go_ret
     exact ⟨rfl,Y3⟩
   go_wp2_with fail
   refine (HMI.out _ Y3).mono ?_
   rintro e w5 ⟨rfl,X5⟩
   have Y5:=Y3.trans X5
   clear Y3 X5
   go_wp2_with fail
   go_ret
   exact ⟨rfl,Y5⟩
 have HOV:Hid (tm=true → outF (bestV T 0 S)=(ratT (bestV T 0 S),0)):=fun ht => outF_RB (k:=1600) ((best_RB hT hp hS0 (AllRB.small hT hS0 hm (HTM.out ht)) (by have:=mild_len hm; omega)).2.2 T.length 0 (Nat.le_refl _)) (by omega)
 have hP:=fun k => pure_fits (T:=T) (p:=0) k
 have HRBA:Hid (tm=true → ∀ k,RB 1500 (valT T (bothG (certT T 0 (ofL (infosT T 0) (pureN (widthsT T 0) k))) S) 0)):=fun ht k => by
  have hb:=BothOk.two hT hp (cert_ok hT (hP k)) hS0
  rw [if_pos rfl,if_pos rfl] at hb
  obtain ⟨x0,hx0⟩:∃ x,T[0]?=some x:=⟨T[0]'hT.pos,List.getElem?_eq_getElem hT.pos⟩
  exact (both_sizes hb hm (cert_tame _ _ _) (tame_small (HTM.out ht)) hx0).1
 have HFW:Hid (∀ k,worth T 0 (sumsG T 0 S T.length) (ofL (infosT T 0) (pureN (widthsT T 0) k)) 0=(valT T (bothG (certT T 0 (ofL (infosT T 0) (pureN (widthsT T 0) k))) S) 0)):=fun k => by
  have h:=worth_val hT hp hr (cert_sure hT (hP k)) hS0
  rwa [if_neg (by decide),if_pos rfl,if_pos rfl] at h
 have HVA:Hid (tm=true → ∀ k a W,Ext w W → StrIn W a (certT T 0 (ofL (infosT T 0) (pureN (widthsT T 0) k))) → Calls Tryz.prog 18 #[v,.int .i64 0,.agg #[a,o]] W fun e w' => e=.returned (.string (ratT (valT T (bothG (certT T 0 (ofL (infosT T 0) (pureN (widthsT T 0) k))) S) 0))) ∧ Ext W w'):=fun ht k a W hX ha => by
  have hb:=BothOk.two hT hp (cert_ok hT (hP k)) hS0
  rw [if_pos rfl,if_pos rfl] at hb
  exact rValue_any v a o T _ _ hb hm (cert_tame _ _ _) (tame_small (HTM.out ht)) T.length 0 W (by omega) hT.pos (hv.ext hX) (ha) (ho.ext hX)
 obtain ⟨fw,hfw⟩:∃ fw:Nat → Rat,(fun k => worth T 0 (sumsG T 0 S T.length) (ofL (infosT T 0) (pureN (widthsT T 0) k)) 0)=fw:=⟨_,rfl⟩
 have HFW:Hid (∀ k,fw k=(valT T (bothG (certT T 0 (ofL (infosT T 0) (pureN (widthsT T 0) k))) S) 0)):=fun k => by rw [← hfw]; exact HFW.out k
 have HRWA:Hid (tm=true → ∀ k,RB 1500 (fw k)):=fun ht k => by
  rw [HFW.out k]
  exact (HRBA.out ht k)
 have hN0:=prodL_pos (widths_pos T 0)
 have HFBA:Hid (tm=true → fw (maxAt fw 0 (prodL (widthsT T 0) - 1))=bestV T 0 S):=fun _ => by
  obtain ⟨h1,h2⟩:=pures_best hT hr (sumsG T 0 S T.length)
  rw [← hfw]
  exact maxAt_top h1 h2
 obtain ⟨ws,hws⟩:∃ ws,widthsT T 0=ws:=⟨_,rfl⟩
 have HWS:=Lib.hid hws
 obtain ⟨N,hN⟩:∃ N,prodL ws=N:=⟨_,rfl⟩
 have HNP:=Lib.hid hN
 rw [hws] at HCE HRBA HFW HVA hN0 HFBA
 rw [hN] at hN0 HFBA
 have HN0:=Lib.hid hN0
 rw [hm] at HMI
 obtain ⟨ao,c,rfl,_,_⟩:=hv.open
 obtain ⟨so,sc,rfl,_,_⟩:=ho.open
 clear hm htm hE hv ho hz hzs htab hT hr hp hS0 hS hre hP hfw hws hN
 go_enter Tryz.func4,Tryz.ntmps4
 go_wp2_with fail
 refine HF.out.mono ?_
 rintro e w1 ⟨rfl,X1⟩
 go_wp2_with fail
 refine (HW.out _ X1).mono ?_
 rintro e w2 ⟨n1,rfl,X2⟩
 have Y2:=X1.trans X2
 clear X1 X2
 go_wp2_with fail
 refine (HC0.out _ Y2).mono ?_
 rintro e w3 ⟨n2,rfl,X3⟩
 have Y3:=Y2.trans X3
 clear Y2 X3
 by_cases hw:(6000:Int) < wrap64 (n1 + n2)
 · go_wp2_with fail
   go_ret
   exact ⟨rfl,Y3⟩
 go_wp2_with fail
 refine (HMI.out _ Y3).mono ?_
 rintro e w5 ⟨rfl,X5⟩
 have Y5:=Y3.trans X5
 clear Y3 X5
 go_wp2_with fail
 refine (HB.out _ Y5).mono ?_
 rintro e w6 ⟨r6,rfl,h6⟩
 unfold BstPost at h6
 rw [HBE.out] at h6
 obtain ⟨X6,⟨h,_⟩ | h6⟩:=h6
 · exact absurd rfl h
 have HR6:Hid (∃ (t6:ByteArray) (a6:Value) (c6:Int),r6=.tuple #[.string t6,a6,.int .i64 c6] ∧ (tm=true → t6=ratT (bestV T 0 S) ∧ c6=0 ∧ StrIn w6 a6 (certT T 0 (bestP T 0 (sumsG T 0 S T.length))))):=by
  rcases h6 with ⟨_,h,rfl⟩ | ⟨_,h,a,rfl,ha⟩
  · exact ⟨_,_,_,rfl,fun ht => absurd (by rw [HOV.out ht]) h⟩
  · exact ⟨_,_,_,rfl,fun ht => ⟨by rw [HOV.out ht],rfl,ha⟩⟩
 obtain ⟨t6,a6,c6,rfl,h6'⟩:=HR6.out
 have HA6:=Lib.hid h6'
 have Y6:=Y5.trans X6
 clear h6 h6' X6 Y5 HR6
 go_wp2_with fail
 refine (HRE.out _ Y6).mono ?_
 rintro e w8 ⟨rfl,X8⟩
 have Y8:=Y6.trans X8
 have HX8:=Lib.hid X8
 clear X8 Y6
 go_wp2_with fail
 refine (HSE.out _ Y8).mono ?_
 rintro e w9 ⟨rfl,X9⟩
 have Y9:=Y8.trans X9
 have HX9:=Lib.hid (HX8.out.trans X9)
 clear X9 Y8 HX8
 go_wp2_with fail
 refine (HPU.out _ Y9).mono ?_
 rintro e w10 ⟨r10,rfl,h10⟩
 unfold PurPost at h10
 rw [HWS.out] at h10
 obtain ⟨X10,⟨hf,rfl⟩ | ⟨hf,a10,rfl,h10⟩⟩:=h10
 · have Y10:=Y9.trans X10
   clear X10 Y9
   go_wp2_with fail
   go_ret
   exact ⟨rfl,Y10⟩
 obtain ⟨us,hrow,hul,hur⟩:=h10
 obtain ⟨ao',ac',hao,_,_,_,hus⟩:=hrow
 subst hao
 have hul2:us.length=N:=by rw [hul]; unfold pursL; simp [HNP.out]
 have hfN:N ≤ 40:=by
  unfold fewB at hf
  rw [HNP.out] at hf
  simpa using hf
 rw [hul2]
 have HUS:=Lib.hid hus
 have HUR:=Lib.hid hur
 have HUL:=Lib.hid hul2
 have Y10:=Y9.trans X10
 have HX10:=Lib.hid (HX9.out.trans X10)
 clear hus hur hul hul2 X10 Y9 HX9 hf
 go_wp2_with fail
 refine (HTA.out _ _ (by exact HSR.out _ w10 _ Y10 (by first | rfl | simp))).mono ?_
 rintro e w11 ⟨rfl,X11⟩
 have Z11:=((Ext.refl w10).alloc _).trans X11
 have Y11:=Y10.trans Z11
 have HX11:=Lib.hid (HX10.out.trans Z11)
 have HZ11:=Lib.hid Z11
 clear X11 Y10 Z11 HX10
 cases tm with
 | false =>
   go_wp2_with fail
   go_ret
   exact ⟨rfl,Y11⟩
 | true =>
 obtain ⟨ht6,rfl,ha6⟩:=HA6.out rfl
 have HT6:=Lib.hid ht6
 have HS6:=Lib.hid (ha6.ext HX11.out)
 have HV:=Lib.hid (HVA.out rfl)
 have HFB:=Lib.hid (HFBA.out rfl)
 have HRB:=Lib.hid (HRBA.out rfl)
 have HRW:=Lib.hid (HRWA.out rfl)
 obtain ⟨eo,ec,rfl,_,_⟩:=ha6.open
 have HY11:=Lib.hid Y11
 clear ha6 ht6 HX11 HA6 Y11
 obtain ⟨wb,rfl⟩:∃ wb:World,wb=w11:=⟨_,rfl⟩
 go_wp2_with fail
 go_loopw [13,77] (fun mv iv wr => ∃ (k:Nat) (mt:ByteArray),k ≤ N ∧ iv=.int .i64 k ∧ mv=.string mt ∧ Hid (k=0 → mt=⟨#[]⟩) ∧ Hid (∀ j,k=j + 1 → mt=ratT (fw (maxAt fw 0 j))) ∧ Ext wb wr) (fun _ iv _ => N - (intOf iv).toNat)
 case atStart => exact ⟨0,⟨#[]⟩,Nat.zero_le _,rfl,rfl,fun _ => rfl,fun j h => by omega,Ext.refl _⟩
 case round =>
  obtain ⟨k,mt,hk,rfl,rfl,HM0,HM1,X⟩:=hrel
  obtain ⟨wq,rfl⟩:∃ wq:World,wq=wr:=⟨_,rfl⟩
  by_cases hlt:k < N
  · have hkk:(k:Int) < (N:Int):=by omega
    obtain ⟨uk,huk⟩:∃ uk,us[k]?=some uk:=⟨us[k]'(by rw [HUL.out]; exact hlt),List.getElem?_eq_getElem _⟩
    obtain ⟨ub,uoff,hub,u0⟩:=HUS.out k uk huk
    subst hub
    have u0:=(HZ11.out.trans X).cell u0
    have hui:=HUR.out k uk (intsN (pureN ws k)) huk (by unfold pursL; rw [List.getElem?_map,List.getElem?_range (by rw [HNP.out]; exact hlt)]; rfl)
    have hui2:=RowOf.ext hui (HZ11.out.trans X)
    obtain ⟨po0,pc0,rfl,_,_⟩:=hui.open
    obtain ⟨pl0,hpl0⟩:∃ n,(intsN (pureN ws k)).length=n:=⟨_,rfl⟩
    rw [hpl0] at u0 hui2
    obtain ⟨K9,hK9⟩:∃ K9,wq.heap.size=K9:=⟨_,rfl⟩
    have HBX5:Hid ((wq.alloc (.cells #[.slice none 0 0,.slice none 0 0] 40)).ownsRow K9 40 2 (.slice (some ⟨K9,0,none⟩) 1 1) 1 [.slice none 0 0,.slice none 0 0]):=by
     show World.ownsRow _ _ _ _ _ _ _
     rw [← hK9]
     exact World.ownsRow_lit (base:=wq.heap.size) (e:=40) (size:=2) wq #[.slice none 0 0,.slice none 0 0] 1 (Nat.le_refl _) (by unfold maxLen; omega) (by simp)
    have HX5:Hid (Ext wq (wq.alloc (.cells #[.slice none 0 0,.slice none 0 0] 40))):=(Ext.refl wq).alloc _
    have HCC:=Lib.hid (HCE.out k (.slice po0 pl0 pc0) _ (by exact (HY11.out.trans X).trans HX5.out) (by exact hui2.ext HX5.out))
    have hq9:wq.heap.size ≤ K9:=by omega
    clear hlt huk hui hui2 hpl0
    go_wp2_with fail
    clear u0
    refine HCC.out.mono ?_
    rintro e w6' ⟨u6,rfl,hs6,X6⟩
    obtain ⟨po,pc,rfl,_,_⟩:=hs6.open
    obtain ⟨C,hC⟩:∃ C,certT T 0 (ofL (infosT T 0) (pureN ws k))=C:=⟨_,rfl⟩
    rw [hC] at hs6 ⊢
    obtain ⟨pl,hpl⟩:∃ pl,C.length=pl:=⟨_,rfl⟩
    rw [hpl]
    have hbx:=own_ext HBX5.out X6
    have f0:=hbx.frozenAt 0
    have c0:=hbx.cells (g:=K9) rfl 0 _ rfl
    rw [Addr.add_lit,Nat.zero_add] at c0
    have s1:=hbx.stored 0 (.slice po pl pc)
    obtain ⟨W7,hW7⟩:∃ W7,w6'.setCell ⟨K9,0,none⟩ (.slice po pl pc)=W7:=⟨_,rfl⟩
    rw [hW7] at s1
    have f1:=s1.1.frozenAt 1
    have c1:=s1.1.cells (g:=K9) rfl 1 _ rfl
    rw [Addr.add_lit,Nat.zero_add] at c1
    have s2:=s1.1.stored 1 (.slice so S.length sc)
    obtain ⟨W8,hW8⟩:∃ W8,W7.setCell ⟨K9,1,none⟩ (.slice so S.length sc)=W8:=⟨_,rfl⟩
    rw [hW8] at s2
    have d0:=s2.1.cells (g:=K9) rfl 0 _ rfl
    have d1:=s2.1.cells (g:=K9) rfl 1 _ rfl
    rw [Addr.add_lit,Nat.zero_add] at d0 d1
    have hX6q:=Ext.trans HX5.out X6
    have XN:=Lib.hid ((hX6q.grown s1.2 hq9).grown s2.2 hq9)
    have hsN:StrIn W8 (.slice po pl pc) C:=by
     rw [← hpl]
     rw [← hpl] at s1
     exact hs6.apart (fun j u hc => by
      rcases box2_cells hbx hc with rfl | rfl <;> exact ⟨_,_,_,rfl⟩) (fun b off u hb hc => s2.2.cell (s1.2.cell hc (fun e => hb (Option.some.inj e))) (fun e => hb (Option.some.inj e)))
    have HRV:=Lib.hid (HV.out k (.slice po pl pc) W8 (by exact (HY11.out.trans X).trans XN.out) (by rw [hC]; exact hsN))
    have HQK:=Lib.hid (HRB.out k)
    have HFK:=Lib.hid (HFW.out k)
    obtain ⟨vk,hvk⟩:∃ vk,valT T (bothG (certT T 0 (ofL (infosT T 0) (pureN ws k))) S) 0=vk:=⟨_,rfl⟩
    rw [hvk] at HRV HQK HFK
    have HNG:=Lib.hid (fun W => rNeg_any (a:=vk) (k:=1500) (by omega) HQK.out W)
    have HFQ:Hid (vk=fw k):=by show _=_; exact HFK.out.symm
    clear hbx s1 s2 HBX5 hsN hs6 hpl hC hvk X6 hX6q HCC
    go_wp2_with fail
    clear f0 c0 f1 c1 hW7
    refine HRV.out.mono ?_
    rintro e w10' ⟨rfl,X10⟩
    have XN:=Lib.hid (XN.out.trans X10)
    clear X10 d0 d1 hW8 hK9
    rw [HFQ.out]
    cases k with
    | zero =>
      have hm0:=HM0.out rfl
      subst hm0
      have HN1:Hid (∀ j,0 + 1=j + 1 → ratT (fw 0)=ratT (fw (maxAt fw 0 j))):=fun j hj => by
       obtain rfl:j=0:=by omega
       rfl
      have XZ:=Lib.hid (X.trans XN.out)
      clear X
      go_wp2_with fail
      go_roundw
      case rel => exact ⟨0 + 1,_,by omega,by go_num,rfl,fun h => by omega,HN1,XZ.out⟩
      case measure => simp [intOf] <;> omega
    | succ j =>
      have hmj:=HM1.out j rfl
      subst hmj
      have hb0:=ratT_nil (fw (maxAt fw 0 j))
      have HCM:=Lib.hid (fun W => rCmp_any (a:=fw (j + 1)) (b:=fw (maxAt fw 0 j)) (k:=1500) (m:=1500) (by omega) (HRW.out _) (HRW.out _) W)
      rw [cmpQ_sub] at HCM
      have HGT:=Lib.hid (cmpQ_gt (fw (j + 1)) (fw (maxAt fw 0 j)))
      have HMX:Hid (fw (maxAt fw 0 (j + 1))=if fw (maxAt fw 0 j) < fw (j + 1) then fw (j + 1) else fw (maxAt fw 0 j)):=by
       show _=_
       rw [maxAt,Nat.zero_add,Nat.zero_add]
       split <;> rfl
      have XZ:=Lib.hid (X.trans XN.out)
      obtain ⟨A,hA⟩:∃ A,ratT (fw (j + 1))=A:=⟨_,rfl⟩
      obtain ⟨Bt,hBt⟩:∃ Bt,ratT (fw (maxAt fw 0 j))=Bt:=⟨_,rfl⟩
      have HAE:=Lib.hid hA
      have HBE2:=Lib.hid hBt
      rw [hA,hBt] at HCM
      rw [hBt] at hb0
      rw [hA,hBt]
      clear X hA hBt HM0 HM1
      go_wp2_with fail
      refine (HCM.out _).mono ?_
      rintro e w12 ⟨rfl,X12⟩
      have XZ:=Lib.hid (XZ.out.trans X12)
      clear X12 hb0
      by_cases hz:0 < cmpQ (fw (j + 1)) (fw (maxAt fw 0 j))
      · have HN1:Hid (∀ i,j + 1 + 1=i + 1 → A=ratT (fw (maxAt fw 0 i))):=fun i hi => by
         obtain rfl:i=j + 1:=by omega
         rw [HMX.out,if_pos (HGT.out.1 hz),HAE.out]
        clear HGT
        generalize cmpQ (fw (j + 1)) (fw (maxAt fw 0 j))=z at *
        go_wp2_with fail
        go_roundw
        case rel => exact ⟨j + 1 + 1,_,by omega,by go_num,rfl,fun h => by omega,HN1,XZ.out⟩
        case measure => simp [intOf] <;> omega
      · have HN1:Hid (∀ i,j + 1 + 1=i + 1 → Bt=ratT (fw (maxAt fw 0 i))):=fun i hi => by
         obtain rfl:i=j + 1:=by omega
         rw [HMX.out,if_neg (fun h => hz (HGT.out.2 h)),HBE2.out]
        clear HGT
        generalize cmpQ (fw (j + 1)) (fw (maxAt fw 0 j))=z at *
        have hz2:z ≤ 0:=by omega
        go_wp2_with fail
        go_roundw
        case rel => exact ⟨j + 1 + 1,_,by omega,by go_num,rfl,fun h => by omega,HN1,XZ.out⟩
        case measure => simp [intOf] <;> omega
  · have hke:k=N:=by omega
    subst hke
    have hge:¬ (k:Int) < (k:Int):=by omega
    have hmt:mt=t6:=by
     have h1:=HM1.out (k - 1) (by have:=HN0.out; omega)
     rw [h1,HT6.out,HFB.out]
    subst hmt
    have HSF:=Lib.hid (HSFA.out eo ec wq (by exact HY11.out.trans X) (by exact HS6.out.ext X))
    have XZ:=Lib.hid (HY11.out.trans X)
    clear hlt HM0 HM1 HT6 X
    go_wp2_with fail
    refine HSF.out.mono ?_
    rintro e w12 ⟨rfl,X12⟩
    have XE:=Lib.hid (XZ.out.trans X12)
    clear X12
    go_wp2_with fail
    go_ret
    exact ⟨rfl,XE.out⟩
set_option maxHeartbeats 12800000 in
set_option maxRecDepth 100000 in
theorem replyBests_good1 (v o:Value) (T:List Nd) (S:List Ch) (w:World) (hE:bestE T 1 S=0) (hv:TreeIn w v T) (hz:TreeSz T) (ho:StrIn w o S) (hzs:StrSz S) (htab:TabPow w) :
 Calls Tryz.prog 4 #[v,.int .i64 1,o] w fun e w' => e=.returned (.bool true) ∧ Ext w w':=by
 have HF:=Lib.hid (replyFact_any w htab)
 have HW:=Lib.hid (fun W (hX:Ext w W) => treeWeight_any v T W (hv.ext hX))
 have HC0:=Lib.hid (fun W (hX:Ext w W) => choiceWeight_any o S W (ho.ext hX))
 have HMI:=Lib.hid (fun W (hX:Ext w W) => mild_any v T W (hv.ext hX) hz)
 have HB:=Lib.hid (fun W (hX:Ext w W) => replyBest_any v o T 1 S W (tabPow_ext htab hX) (hv.ext hX) hz (ho.ext hX) hzs)
 have HRE:=Lib.hid (fun W (hX:Ext w W) => rRecallError_any v T 1 W (hv.ext hX) hz)
 have HSE:=Lib.hid (fun W (hX:Ext w W) => rStrategyError_any v o T 0 S W (hv.ext hX) (ho.ext hX) hzs)
 obtain ⟨hT,hr,hp,hS0⟩:=bestE_zero hE
 have hS:strategyE T 0 S=0:=by
  have h:=hS0
  rwa [show (1 - 1:Int)=0 from rfl] at h
 have HBE:=Lib.hid hE
 have hre:recallE T 1=0:=by
  unfold bestE at hE
  by_cases h1:recallE T 1=0
  · exact h1
  · rw [if_pos h1] at hE; exact absurd hE h1
 rw [hre] at HRE
 rw [hS] at HSE
 have HSR:=Lib.hid (fun e W k (hX:Ext w W) (hk:k=W.heap.size) => StrRow.one (ho.ext hX) hzs e k hk)
 have HTA:=Lib.hid (fun v2 W (h:StrRow W v2 [S]) => tame_any v2 [S] W h)
 obtain ⟨tm,htm⟩:∃ tm,[S].all tameB=tm:=⟨_,rfl⟩
 rw [htm] at HTA
 have HTM:Hid (tm=true → tameB S=true):=fun ht => by
  rw [ht] at htm
  simpa using htm
 have hil:=infos_len T 1
 have HPU:=Lib.hid (fun W (hX:Ext w W) => rPures_any v T 1 40 W (by omega) (by omega) (hv.ext hX) hT)
 have HCE:=Lib.hid (fun (k:Nat) (c:Value) W (hX:Ext w W) (hc:Ints W c (intsN (pureN (widthsT T 1) k))) => rCertain_any v c T 1 (pureN (widthsT T 1) k) W (hv.ext hX) hT hc (by rw [pureN_len,widths_len]))
 have HSFA:=Lib.hid (fun (eo:Option Addr) (ec:Nat) W (hX:Ext w W) (hs:StrIn W (.slice eo (certT T 1 (bestP T 1 (sumsG T 1 S T.length))).length ec) (certT T 1 (bestP T 1 (sumsG T 1 S T.length)))) => (by
  have h:=rStrategyError_any v _ T 1 _ W (hv.ext hX) hs (cert_sz _ _ _)
  rw [cert_ok hT (fitsP_I hT (bestP_fits hT 1 _))] at h
  exact h:Calls Tryz.prog 15 #[v,.int .i64 1,.slice eo (certT T 1 (bestP T 1 (sumsG T 1 S T.length))).length ec] W fun e w' => e=.returned (.int .i64 0) ∧ Ext W w'))
 by_cases hm:mildB T=true
 rotate_left
 · have hm2:mildB T=false:=by simpa using hm
   rw [hm2] at HMI
   obtain ⟨ao,c,rfl,_,_⟩:=hv.open
   obtain ⟨so,sc,rfl,_,_⟩:=ho.open
   clear hm hm2 htm hE hv ho hz hzs htab hT hr hp hS0 hS hre
   go_enter Tryz.func4,Tryz.ntmps4
   go_wp2_with fail
   refine HF.out.mono ?_
   rintro e w1 ⟨rfl,X1⟩
   go_wp2_with fail
   refine (HW.out _ X1).mono ?_
   rintro e w2 ⟨n1,rfl,X2⟩
   have Y2:=X1.trans X2
   clear X1 X2
   go_wp2_with fail
   refine (HC0.out _ Y2).mono ?_
   rintro e w3 ⟨n2,rfl,X3⟩
   have Y3:=Y2.trans X3
   clear Y2 X3
   by_cases hw:(6000:Int) < wrap64 (n1 + n2)
   · go_wp2_with fail
     go_ret
     exact ⟨rfl,Y3⟩
   go_wp2_with fail
   refine (HMI.out _ Y3).mono ?_
   rintro e w5 ⟨rfl,X5⟩
   have Y5:=Y3.trans X5
   clear Y3 X5
   go_wp2_with fail
   go_ret
   exact ⟨rfl,Y5⟩
 have HOV:Hid (tm=true → outF (bestV T 1 S)=(ratT (bestV T 1 S),0)):=fun ht => outF_RB (k:=1600) ((best_RB hT hp hS0 (AllRB.small hT hS0 hm (HTM.out ht)) (by have:=mild_len hm; omega)).2.2 T.length 0 (Nat.le_refl _)) (by omega)
 have hP:=fun k => pure_fits (T:=T) (p:=1) k
 have HRBA:Hid (tm=true → ∀ k,RB 1500 (valT T (bothG S (certT T 1 (ofL (infosT T 1) (pureN (widthsT T 1) k)))) 0)):=fun ht k => by
  have hb:=BothOk.two hT hp (cert_ok hT (hP k)) hS0
  rw [if_neg (by decide),if_neg (by decide)] at hb
  obtain ⟨x0,hx0⟩:∃ x,T[0]?=some x:=⟨T[0]'hT.pos,List.getElem?_eq_getElem hT.pos⟩
  exact (both_sizes hb hm (tame_small (HTM.out ht)) (cert_tame _ _ _) hx0).1
 have HFW:Hid (∀ k,worth T 1 (sumsG T 1 S T.length) (ofL (infosT T 1) (pureN (widthsT T 1) k)) 0=-(valT T (bothG S (certT T 1 (ofL (infosT T 1) (pureN (widthsT T 1) k)))) 0)):=fun k => by
  have h:=worth_val hT hp hr (cert_sure hT (hP k)) hS0
  rwa [if_pos rfl,if_neg (by decide),if_neg (by decide)] at h
 have HVA:Hid (tm=true → ∀ k a W,Ext w W → StrIn W a (certT T 1 (ofL (infosT T 1) (pureN (widthsT T 1) k))) → Calls Tryz.prog 18 #[v,.int .i64 0,.agg #[o,a]] W fun e w' => e=.returned (.string (ratT (valT T (bothG S (certT T 1 (ofL (infosT T 1) (pureN (widthsT T 1) k)))) 0))) ∧ Ext W w'):=fun ht k a W hX ha => by
  have hb:=BothOk.two hT hp (cert_ok hT (hP k)) hS0
  rw [if_neg (by decide),if_neg (by decide)] at hb
  exact rValue_any v o a T _ _ hb hm (tame_small (HTM.out ht)) (cert_tame _ _ _) T.length 0 W (by omega) hT.pos (hv.ext hX) (ho.ext hX) (ha)
 obtain ⟨fw,hfw⟩:∃ fw:Nat → Rat,(fun k => worth T 1 (sumsG T 1 S T.length) (ofL (infosT T 1) (pureN (widthsT T 1) k)) 0)=fw:=⟨_,rfl⟩
 have HFW:Hid (∀ k,fw k=-(valT T (bothG S (certT T 1 (ofL (infosT T 1) (pureN (widthsT T 1) k)))) 0)):=fun k => by rw [← hfw]; exact HFW.out k
 have HRWA:Hid (tm=true → ∀ k,RB 1500 (fw k)):=fun ht k => by
  rw [HFW.out k]
  exact RB_neg (HRBA.out ht k)
 have hN0:=prodL_pos (widths_pos T 1)
 have HFBA:Hid (tm=true → fw (maxAt fw 0 (prodL (widthsT T 1) - 1))=bestV T 1 S):=fun _ => by
  obtain ⟨h1,h2⟩:=pures_best hT hr (sumsG T 1 S T.length)
  rw [← hfw]
  exact maxAt_top h1 h2
 obtain ⟨ws,hws⟩:∃ ws,widthsT T 1=ws:=⟨_,rfl⟩
 have HWS:=Lib.hid hws
 obtain ⟨N,hN⟩:∃ N,prodL ws=N:=⟨_,rfl⟩
 have HNP:=Lib.hid hN
 rw [hws] at HCE HRBA HFW HVA hN0 HFBA
 rw [hN] at hN0 HFBA
 have HN0:=Lib.hid hN0
 rw [hm] at HMI
 obtain ⟨ao,c,rfl,_,_⟩:=hv.open
 obtain ⟨so,sc,rfl,_,_⟩:=ho.open
 clear hm htm hE hv ho hz hzs htab hT hr hp hS0 hS hre hP hfw hws hN
 go_enter Tryz.func4,Tryz.ntmps4
 go_wp2_with fail
 refine HF.out.mono ?_
 rintro e w1 ⟨rfl,X1⟩
 go_wp2_with fail
 refine (HW.out _ X1).mono ?_
 rintro e w2 ⟨n1,rfl,X2⟩
 have Y2:=X1.trans X2
 clear X1 X2
 go_wp2_with fail
 refine (HC0.out _ Y2).mono ?_
 rintro e w3 ⟨n2,rfl,X3⟩
 have Y3:=Y2.trans X3
 clear Y2 X3
 by_cases hw:(6000:Int) < wrap64 (n1 + n2)
 · go_wp2_with fail
   go_ret
   exact ⟨rfl,Y3⟩
 go_wp2_with fail
 refine (HMI.out _ Y3).mono ?_
 rintro e w5 ⟨rfl,X5⟩
 have Y5:=Y3.trans X5
 clear Y3 X5
 go_wp2_with fail
 refine (HB.out _ Y5).mono ?_
 rintro e w6 ⟨r6,rfl,h6⟩
 unfold BstPost at h6
 rw [HBE.out] at h6
 obtain ⟨X6,⟨h,_⟩ | h6⟩:=h6
 · exact absurd rfl h
 have HR6:Hid (∃ (t6:ByteArray) (a6:Value) (c6:Int),r6=.tuple #[.string t6,a6,.int .i64 c6] ∧ (tm=true → t6=ratT (bestV T 1 S) ∧ c6=0 ∧ StrIn w6 a6 (certT T 1 (bestP T 1 (sumsG T 1 S T.length))))):=by
  rcases h6 with ⟨_,h,rfl⟩ | ⟨_,h,a,rfl,ha⟩
  · exact ⟨_,_,_,rfl,fun ht => absurd (by rw [HOV.out ht]) h⟩
  · exact ⟨_,_,_,rfl,fun ht => ⟨by rw [HOV.out ht],rfl,ha⟩⟩
 obtain ⟨t6,a6,c6,rfl,h6'⟩:=HR6.out
 have HA6:=Lib.hid h6'
 have Y6:=Y5.trans X6
 clear h6 h6' X6 Y5 HR6
 go_wp2_with fail
 refine (HRE.out _ Y6).mono ?_
 rintro e w8 ⟨rfl,X8⟩
 have Y8:=Y6.trans X8
 have HX8:=Lib.hid X8
 clear X8 Y6
 go_wp2_with fail
 refine (HSE.out _ Y8).mono ?_
 rintro e w9 ⟨rfl,X9⟩
 have Y9:=Y8.trans X9
 have HX9:=Lib.hid (HX8.out.trans X9)
 clear X9 Y8 HX8
 go_wp2_with fail
 refine (HPU.out _ Y9).mono ?_
 rintro e w10 ⟨r10,rfl,h10⟩
 unfold PurPost at h10
 rw [HWS.out] at h10
 obtain ⟨X10,⟨hf,rfl⟩ | ⟨hf,a10,rfl,h10⟩⟩:=h10
 · have Y10:=Y9.trans X10
   clear X10 Y9
   go_wp2_with fail
   go_ret
   exact ⟨rfl,Y10⟩
 obtain ⟨us,hrow,hul,hur⟩:=h10
 obtain ⟨ao',ac',hao,_,_,_,hus⟩:=hrow
 subst hao
 have hul2:us.length=N:=by rw [hul]; unfold pursL; simp [HNP.out]
 have hfN:N ≤ 40:=by
  unfold fewB at hf
  rw [HNP.out] at hf
  simpa using hf
 rw [hul2]
 have HUS:=Lib.hid hus
 have HUR:=Lib.hid hur
 have HUL:=Lib.hid hul2
 have Y10:=Y9.trans X10
 have HX10:=Lib.hid (HX9.out.trans X10)
 clear hus hur hul hul2 X10 Y9 HX9 hf
 go_wp2_with fail
 refine (HTA.out _ _ (by exact HSR.out _ w10 _ Y10 (by first | rfl | simp))).mono ?_
 rintro e w11 ⟨rfl,X11⟩
 have Z11:=((Ext.refl w10).alloc _).trans X11
 have Y11:=Y10.trans Z11
 have HX11:=Lib.hid (HX10.out.trans Z11)
 have HZ11:=Lib.hid Z11
 clear X11 Y10 Z11 HX10
 cases tm with
 | false =>
   go_wp2_with fail
   go_ret
   exact ⟨rfl,Y11⟩
 | true =>
 obtain ⟨ht6,rfl,ha6⟩:=HA6.out rfl
 have HT6:=Lib.hid ht6
 have HS6:=Lib.hid (ha6.ext HX11.out)
 have HV:=Lib.hid (HVA.out rfl)
 have HFB:=Lib.hid (HFBA.out rfl)
 have HRB:=Lib.hid (HRBA.out rfl)
 have HRW:=Lib.hid (HRWA.out rfl)
 obtain ⟨eo,ec,rfl,_,_⟩:=ha6.open
 have HY11:=Lib.hid Y11
 clear ha6 ht6 HX11 HA6 Y11
 obtain ⟨wb,rfl⟩:∃ wb:World,wb=w11:=⟨_,rfl⟩
 go_wp2_with fail
 go_loopw [13,77] (fun mv iv wr => ∃ (k:Nat) (mt:ByteArray),k ≤ N ∧ iv=.int .i64 k ∧ mv=.string mt ∧ Hid (k=0 → mt=⟨#[]⟩) ∧ Hid (∀ j,k=j + 1 → mt=ratT (fw (maxAt fw 0 j))) ∧ Ext wb wr) (fun _ iv _ => N - (intOf iv).toNat)
 case atStart => exact ⟨0,⟨#[]⟩,Nat.zero_le _,rfl,rfl,fun _ => rfl,fun j h => by omega,Ext.refl _⟩
 case round =>
  obtain ⟨k,mt,hk,rfl,rfl,HM0,HM1,X⟩:=hrel
  obtain ⟨wq,rfl⟩:∃ wq:World,wq=wr:=⟨_,rfl⟩
  by_cases hlt:k < N
  · have hkk:(k:Int) < (N:Int):=by omega
    obtain ⟨uk,huk⟩:∃ uk,us[k]?=some uk:=⟨us[k]'(by rw [HUL.out]; exact hlt),List.getElem?_eq_getElem _⟩
    obtain ⟨ub,uoff,hub,u0⟩:=HUS.out k uk huk
    subst hub
    have u0:=(HZ11.out.trans X).cell u0
    have hui:=HUR.out k uk (intsN (pureN ws k)) huk (by unfold pursL; rw [List.getElem?_map,List.getElem?_range (by rw [HNP.out]; exact hlt)]; rfl)
    have hui2:=RowOf.ext hui (HZ11.out.trans X)
    obtain ⟨po0,pc0,rfl,_,_⟩:=hui.open
    obtain ⟨pl0,hpl0⟩:∃ n,(intsN (pureN ws k)).length=n:=⟨_,rfl⟩
    rw [hpl0] at u0 hui2
    obtain ⟨K9,hK9⟩:∃ K9,wq.heap.size=K9:=⟨_,rfl⟩
    have HBX5:Hid ((wq.alloc (.cells #[.slice none 0 0,.slice none 0 0] 40)).ownsRow K9 40 2 (.slice (some ⟨K9,0,none⟩) 1 1) 1 [.slice none 0 0,.slice none 0 0]):=by
     show World.ownsRow _ _ _ _ _ _ _
     rw [← hK9]
     exact World.ownsRow_lit (base:=wq.heap.size) (e:=40) (size:=2) wq #[.slice none 0 0,.slice none 0 0] 1 (Nat.le_refl _) (by unfold maxLen; omega) (by simp)
    have HX5:Hid (Ext wq (wq.alloc (.cells #[.slice none 0 0,.slice none 0 0] 40))):=(Ext.refl wq).alloc _
    have HCC:=Lib.hid (HCE.out k (.slice po0 pl0 pc0) _ (by exact (HY11.out.trans X).trans HX5.out) (by exact hui2.ext HX5.out))
    have hq9:wq.heap.size ≤ K9:=by omega
    clear hlt huk hui hui2 hpl0
    go_wp2_with fail
    clear u0
    refine HCC.out.mono ?_
    rintro e w6' ⟨u6,rfl,hs6,X6⟩
    obtain ⟨po,pc,rfl,_,_⟩:=hs6.open
    obtain ⟨C,hC⟩:∃ C,certT T 1 (ofL (infosT T 1) (pureN ws k))=C:=⟨_,rfl⟩
    rw [hC] at hs6 ⊢
    obtain ⟨pl,hpl⟩:∃ pl,C.length=pl:=⟨_,rfl⟩
    rw [hpl]
    have hbx:=own_ext HBX5.out X6
    have f0:=hbx.frozenAt 1
    have c0:=hbx.cells (g:=K9) rfl 1 _ rfl
    rw [Addr.add_lit,Nat.zero_add] at c0
    have s1:=hbx.stored 1 (.slice po pl pc)
    obtain ⟨W7,hW7⟩:∃ W7,w6'.setCell ⟨K9,1,none⟩ (.slice po pl pc)=W7:=⟨_,rfl⟩
    rw [hW7] at s1
    have f1:=s1.1.frozenAt 0
    have c1:=s1.1.cells (g:=K9) rfl 0 _ rfl
    rw [Addr.add_lit,Nat.zero_add] at c1
    have s2:=s1.1.stored 0 (.slice so S.length sc)
    obtain ⟨W8,hW8⟩:∃ W8,W7.setCell ⟨K9,0,none⟩ (.slice so S.length sc)=W8:=⟨_,rfl⟩
    rw [hW8] at s2
    have d0:=s2.1.cells (g:=K9) rfl 0 _ rfl
    have d1:=s2.1.cells (g:=K9) rfl 1 _ rfl
    rw [Addr.add_lit,Nat.zero_add] at d0 d1
    have hX6q:=Ext.trans HX5.out X6
    have XN:=Lib.hid ((hX6q.grown s1.2 hq9).grown s2.2 hq9)
    have hsN:StrIn W8 (.slice po pl pc) C:=by
     rw [← hpl]
     rw [← hpl] at s1
     exact hs6.apart (fun j u hc => by
      rcases box2_cells hbx hc with rfl | rfl <;> exact ⟨_,_,_,rfl⟩) (fun b off u hb hc => s2.2.cell (s1.2.cell hc (fun e => hb (Option.some.inj e))) (fun e => hb (Option.some.inj e)))
    have HRV:=Lib.hid (HV.out k (.slice po pl pc) W8 (by exact (HY11.out.trans X).trans XN.out) (by rw [hC]; exact hsN))
    have HQK:=Lib.hid (HRB.out k)
    have HFK:=Lib.hid (HFW.out k)
    obtain ⟨vk,hvk⟩:∃ vk,valT T (bothG S (certT T 1 (ofL (infosT T 1) (pureN ws k)))) 0=vk:=⟨_,rfl⟩
    rw [hvk] at HRV HQK HFK
    have HNG:=Lib.hid (fun W => rNeg_any (a:=vk) (k:=1500) (by omega) HQK.out W)
    have HFQ:Hid (-vk=fw k):=by show _=_; exact HFK.out.symm
    clear hbx s1 s2 HBX5 hsN hs6 hpl hC hvk X6 hX6q HCC
    go_wp2_with fail
    clear f0 c0 f1 c1 hW7
    refine HRV.out.mono ?_
    rintro e w10' ⟨rfl,X10⟩
    have XN:=Lib.hid (XN.out.trans X10)
    clear X10 d0 d1 hW8 hK9
    go_wp2_with fail
    refine (HNG.out _).mono ?_
    rintro e w11 ⟨rfl,X11⟩
    have XN:=Lib.hid (XN.out.trans X11)
    clear X11
    rw [HFQ.out]
    cases k with
    | zero =>
      have hm0:=HM0.out rfl
      subst hm0
      have HN1:Hid (∀ j,0 + 1=j + 1 → ratT (fw 0)=ratT (fw (maxAt fw 0 j))):=fun j hj => by
       obtain rfl:j=0:=by omega
       rfl
      have XZ:=Lib.hid (X.trans XN.out)
      clear X
      go_wp2_with fail
      go_roundw
      case rel => exact ⟨0 + 1,_,by omega,by go_num,rfl,fun h => by omega,HN1,XZ.out⟩
      case measure => simp [intOf] <;> omega
    | succ j =>
      have hmj:=HM1.out j rfl
      subst hmj
      have hb0:=ratT_nil (fw (maxAt fw 0 j))
      have HCM:=Lib.hid (fun W => rCmp_any (a:=fw (j + 1)) (b:=fw (maxAt fw 0 j)) (k:=1500) (m:=1500) (by omega) (HRW.out _) (HRW.out _) W)
      rw [cmpQ_sub] at HCM
      have HGT:=Lib.hid (cmpQ_gt (fw (j + 1)) (fw (maxAt fw 0 j)))
      have HMX:Hid (fw (maxAt fw 0 (j + 1))=if fw (maxAt fw 0 j) < fw (j + 1) then fw (j + 1) else fw (maxAt fw 0 j)):=by
       show _=_
       rw [maxAt,Nat.zero_add,Nat.zero_add]
       split <;> rfl
      have XZ:=Lib.hid (X.trans XN.out)
      obtain ⟨A,hA⟩:∃ A,ratT (fw (j + 1))=A:=⟨_,rfl⟩
      obtain ⟨Bt,hBt⟩:∃ Bt,ratT (fw (maxAt fw 0 j))=Bt:=⟨_,rfl⟩
      have HAE:=Lib.hid hA
      have HBE2:=Lib.hid hBt
      rw [hA,hBt] at HCM
      rw [hBt] at hb0
      rw [hA,hBt]
      clear X hA hBt HM0 HM1
      go_wp2_with fail
      refine (HCM.out _).mono ?_
      rintro e w12 ⟨rfl,X12⟩
      have XZ:=Lib.hid (XZ.out.trans X12)
      clear X12 hb0
      by_cases hz:0 < cmpQ (fw (j + 1)) (fw (maxAt fw 0 j))
      · have HN1:Hid (∀ i,j + 1 + 1=i + 1 → A=ratT (fw (maxAt fw 0 i))):=fun i hi => by
         obtain rfl:i=j + 1:=by omega
         rw [HMX.out,if_pos (HGT.out.1 hz),HAE.out]
        clear HGT
        generalize cmpQ (fw (j + 1)) (fw (maxAt fw 0 j))=z at *
        go_wp2_with fail
        go_roundw
        case rel => exact ⟨j + 1 + 1,_,by omega,by go_num,rfl,fun h => by omega,HN1,XZ.out⟩
        case measure => simp [intOf] <;> omega
      · have HN1:Hid (∀ i,j + 1 + 1=i + 1 → Bt=ratT (fw (maxAt fw 0 i))):=fun i hi => by
         obtain rfl:i=j + 1:=by omega
         rw [HMX.out,if_neg (fun h => hz (HGT.out.2 h)),HBE2.out]
        clear HGT
        generalize cmpQ (fw (j + 1)) (fw (maxAt fw 0 j))=z at *
        have hz2:z ≤ 0:=by omega
        go_wp2_with fail
        go_roundw
        case rel => exact ⟨j + 1 + 1,_,by omega,by go_num,rfl,fun h => by omega,HN1,XZ.out⟩
        case measure => simp [intOf] <;> omega
  · have hke:k=N:=by omega
    subst hke
    have hge:¬ (k:Int) < (k:Int):=by omega
    have hmt:mt=t6:=by
     have h1:=HM1.out (k - 1) (by have:=HN0.out; omega)
     rw [h1,HT6.out,HFB.out]
    subst hmt
    have HSF:=Lib.hid (HSFA.out eo ec wq (by exact HY11.out.trans X) (by exact HS6.out.ext X))
    have XZ:=Lib.hid (HY11.out.trans X)
    clear hlt HM0 HM1 HT6 X
    go_wp2_with fail
    refine HSF.out.mono ?_
    rintro e w12 ⟨rfl,X12⟩
    have XE:=Lib.hid (XZ.out.trans X12)
    clear X12
    go_wp2_with fail
    go_ret
    exact ⟨rfl,XE.out⟩
theorem replyBests_walk (v o:Value) (T:List Nd) (p:Int) (S:List Ch) (w:World) (hv:TreeIn w v T) (hz:TreeSz T) (ho:StrIn w o S) (hzs:StrSz S) (htab:TabPow w) :
 Calls Tryz.prog 4 #[v,.int .i64 p,o] w fun e w' => e=.returned (.bool true) ∧ Ext w w':=by
 by_cases hE:bestE T p S=0
 · obtain ⟨_,_,hp,_⟩:=bestE_zero hE
   rcases hp with rfl | rfl
   · exact replyBests_good0 v o T S w hE hv hz ho hzs htab
   · exact replyBests_good1 v o T S w hE hv hz ho hzs htab
 · exact replyBests_err v o T p S w hE hv hz ho hzs htab
end Go.Proofs.YtcggohkbmhdohaaGreatDoor
