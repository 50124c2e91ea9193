/- texts merged: CvE CvF CvG CvH -/
import Derived.Test.YtcggohkbmhdohaaGreatDoorCvAD
import Derived.Test.YtcggohkbmhdohaaGreatDoorRpPR
import Derived.Test.YtcggohkbmhdohaaGreatDoorRpTV
namespace Go.Proofs.YtcggohkbmhdohaaGreatDoor
open Go.RowKit
set_option linter.unusedVariables false
set_option linter.unusedSimpArgs false
theorem cert_sz2 (T:List Nd) (p:Int) (P:Int → Nat):StrSz (certT T p P):=fun e he s hs => Nat.le_trans (cert_tame T p P e he s hs) (by decide)
theorem pay_of0 {v a o:Value} {T:List Nd} {p:Int} {S:List Ch} {x:Pl} {W:World} (hT:Valid T) (hp:p=0) (hS:strategyE T (1 - p) S=0) (hG:GoodP T p x) (hv:TreeIn W v T) (hz:TreeSz T) (ho:StrIn W o S) (hzs:StrSz S) (ha:StrIn W a (certT T p (plnP T p x))) :
 Calls Tryz.prog 49 #[v,a,o] W fun e w' => ∃ r,e=.returned r ∧ QV w' r (payF T p S x) ∧ Ext W w':=by
 have hB:=BothOk.two (S:=S) hT (.inl hp) (cert_ok hT hG.fits) hS
 unfold payF
 rw [if_pos hp,if_pos hp] at hB ⊢
 exact replyOf_any v a o T _ S W hB hv hz ha ho (cert_sz2 _ _ _) hzs
theorem pay_of1 {v a o:Value} {T:List Nd} {p:Int} {S:List Ch} {x:Pl} {W:World} (hT:Valid T) (hp:p=1) (hS:strategyE T (1 - p) S=0) (hG:GoodP T p x) (hv:TreeIn W v T) (hz:TreeSz T) (ho:StrIn W o S) (hzs:StrSz S) (ha:StrIn W a (certT T p (plnP T p x))) :
 Calls Tryz.prog 49 #[v,o,a] W fun e w' => ∃ r,e=.returned r ∧ QV w' r (payF T p S x) ∧ Ext W w':=by
 have hB:=BothOk.two (S:=S) hT (.inr hp) (cert_ok hT hG.fits) hS
 have h0:¬ p=0:=by omega
 unfold payF
 rw [if_neg h0,if_neg h0] at hB ⊢
 exact replyOf_any v o a T S _ W hB hv hz ho ha hzs (cert_sz2 _ _ _)
set_option maxHeartbeats 6400000 in
set_option maxRecDepth 100000 in
theorem pay_ok (v m o:Value) (T:List Nd) (p:Int) (L:List Pl) (S:List Ch) (w:World) (htab:TabPow w) (hM:mixE T p L=0) (hS:strategyE T (1 - p) S=0) (hv:TreeIn w v T) (hz:TreeSz T) (hm:PlnIn w m L) (hzm:PlnSz L) (ho:StrIn w o S) (hzs:StrSz S) :
 Calls Tryz.prog 28 #[v,.int .i64 p,m,o] w fun e w' => e=.returned (.tuple #[.string (outF (mixS T p S L L.length)).1,.int .i64 (outF (mixS T p S L L.length)).2]) ∧ Ext w w':=by
 obtain ⟨hPE,hL128,hG,_,_⟩:=mixE_zero hM
 obtain ⟨hT,hp⟩:=valid_player hPE
 have HCK:=Lib.hid (cvCheck_any v m T p L w htab hv hz hm hzm)
 rw [hM] at HCK
 have HST:=Lib.hid (fun W (hX:Ext w W) => strategy_any v o T (1 - p) S W (tabPow_ext htab hX) (hv.ext hX) hT (ho.ext hX) hzs)
 rw [hS] at HST
 have HSE:=Lib.hid (fun W (hX:Ext w W) => sets_any v T p W (hv.ext hX))
 have HO0:=Lib.hid (fun W => qOf_any 0 W (by omega) (by omega))
 have HF1:=Lib.hid (setsP_valid hT p)
 have HF2:=Lib.hid (setsP_snd hT p)
 obtain ⟨B,hB⟩:∃ B,B=1000000:=⟨_,rfl⟩
 have HSZ:=Lib.hid (mix_RB hT hp hS hL128 hG hB)
 have hB2:B ≤ 1000000:=by omega
 clear hB
 have HR0:=Lib.hid (fun (h:p=0) (x:Pl) (hx:x ∈ L) (a:Value) W (hX:Ext w W) ha => pay_of0 (a:=a) hT h hS (hG x hx) (hv.ext hX) hz (ho.ext hX) hzs ha)
 have HR1:=Lib.hid (fun (h:p=1) (x:Pl) (hx:x ∈ L) (a:Value) W (hX:Ext w W) ha => pay_of1 (a:=a) hT h hS (hG x hx) (hv.ext hX) hz (ho.ext hX) hzs ha)
 have HGD:=Lib.hid hG
 have HFT:=Lib.hid (fun (x:Pl) (hx:x ∈ L) => (hG x hx).fits)
 have HTB:=Lib.hid htab
 have HWL:=Lib.hid (fun (q:Int) => widthT_le hT p q)
 have HWP:Hid (∀ q ∈ infosT T p,0 < widthT T p q):=fun q hq => info_pos hq
 have HZM:=Lib.hid hzm
 have hnd:=infosT_nodup T p
 have HPQ:=Lib.hid (fun (x:Pl) (i:Nat) (q:Int) (h:(infosT T p)[i]?=some q) => ofL_at hnd (l:=toN x.1) h)
 have hil:=infos_len T p
 have hwl:(intsN (widthsT T p)).length=(infosT T p).length:=by unfold intsN; rw [List.length_map,widths_len]
 have HWN:=Lib.hid hwl
 have hwp:IntKind.i64.wrap (1 - p)=1 - p:=by rw [IntKind.wrap_i64]; omega
 obtain ⟨vo,vc,rfl,_,_⟩:=hv.open
 obtain ⟨so,sc,rfl,_,_⟩:=ho.open
 obtain ⟨mo,mc,rfl,hml,hpl⟩:=hm.open
 have HPL:=Lib.hid hpl
 obtain ⟨N,hN⟩:∃ N,L.length=N:=⟨_,rfl⟩
 have HN:=Lib.hid hN
 rw [hN] at hml hL128 HSZ HCK ⊢
 obtain ⟨n,hn⟩:∃ n,(infosT T p).length=n:=⟨_,rfl⟩
 have HNN:=Lib.hid hn
 rw [hn] at hil HWN
 have HM1:=Lib.hid (fun (j:Nat) (x:Pl) (h:L[j]?=some x) => mixS_succ (T:=T) (p:=p) (S:=S) h)
 obtain ⟨M,hMM⟩:∃ M,mixS T p S L=M:=⟨_,rfl⟩
 rw [hMM] at HSZ HM1 ⊢
 obtain ⟨ot,oe,hot⟩:∃ ot oe,outF (M N)=(ot,oe):=⟨_,_,rfl⟩
 have HOT:=Lib.hid hot
 rw [hot]
 dsimp only
 have HM0:Hid (M 0=0):=by show _=_; rw [← hMM]; rfl
 have HPP:=Lib.hid hp
 clear hp hM hS hPE hT hG hv hz ho hzs hm hzm htab hnd hwl hpl hN hn hMM hot
 go_enter Tryz.func28,Tryz.ntmps28
 go_wp2_with fail
 refine HCK.out.mono ?_
 rintro e w2 ⟨rfl,X2⟩
 go_wp2_with fail
 refine (HST.out _ X2).mono ?_
 rintro e w3 ⟨rfl,X3⟩
 go_wp2_with fail
 refine (HSE.out _ (X2.trans X3)).mono ?_
 rintro e w8 ⟨_,rfl,av,bv,rfl,ha,hb,X8⟩
 rw [HF1.out] at ha
 rw [HF2.out] at hb
 obtain ⟨ao,ac,rfl,_,hA⟩:=ha.open
 obtain ⟨bo,bc,rfl,_,hBB⟩:=hb.open
 rw [List.length_map,HNN.out]
 have HA:=Lib.hid hA
 have HB:=Lib.hid hBB
 have HX8:=Lib.hid ((X2.trans X3).trans X8)
 clear ha hb hA hBB X2 X3 X8 HCK HST HSE
 go_wp2_with fail
 refine (HO0.out _).mono ?_
 rintro e w4 ⟨u4,rfl,h4,X4⟩
 obtain ⟨s2,ao3,l2,c3,bo2,m2,d2,rfl,_,_,_⟩:=h4.opn
 obtain ⟨O,hO⟩:∃ O,w4.heap.size=O:=⟨_,rfl⟩
 obtain ⟨W4,hW4⟩:∃ W4,w4.alloc (.cells #[.bool s2,.slice ao3 l2 c3,.slice bo2 m2 d2] 89)=W4:=⟨_,rfl⟩
 have HA4:Hid (Acc W4 O s2 ao3 l2 c3 bo2 m2 d2 (M 0)):=by show Acc _ _ _ _ _ _ _ _ _ _; rw [← hW4,HM0.out]; exact Acc.new h4 hO
 have XW:Ext w4 W4:=by rw [← hW4]; exact (Ext.refl w4).alloc _
 have HX4:=Lib.hid (X4.trans XW)
 have hO1:w8.heap.size ≤ O:=by rw [← hO]; exact X4.size
 clear h4 X4 XW
 go_wp2_with fail
 clear hW4 hO
 go_loopw [47] (fun iv wr => ∃ (i:Nat) (s:Bool) (xo:Option Addr) (xl xc:Nat) (yo:Option Addr) (yl yc:Nat),i ≤ N ∧ iv=.int .i64 i ∧ Hid (Acc wr O s xo xl xc yo yl yc (M i)) ∧ Ext w8 wr) (fun iv _ => N - (intOf iv).toNat)
 case atStart => exact ⟨0,s2,ao3,l2,c3,bo2,m2,d2,Nat.zero_le _,rfl,HA4,HX4.out⟩
 case round =>
  clear HA4 HX4
  obtain ⟨i,s,xo,xl,xc,yo,yl,yc,hi,rfl,HA1,X⟩:=hrel
  obtain ⟨wq,rfl⟩:∃ wq:World,wq=wr:=⟨_,rfl⟩
  by_cases hlt:i < N
  · obtain ⟨x,x1,x2,_⟩:=get_lt (xs:=L) (k:=i) (by rw [HN.out]; exact hlt)
    have hxm:=List.mem_of_getElem? x1.out
    obtain ⟨mb,moff,oo,oc,rfl,m0,m1,hcs⟩:=(HPL.out.ext (HX8.out.trans X)).at x1
    have hg:=HGD.out x hxm
    have hft:=HFT.out x hxm
    have hxl:x.1.length=n:=by rw [hg.1,HWN.out]
    have hii:(i:Int) < (N:Int):=by omega
    have hin:=toN_ints hg.1 hg.2.1
    have hok:=hg.2.2
    have hsx:=HZM.out x hxm
    have HMS:=Lib.hid (HM1.out i x x1.out)
    have HBI:=Lib.hid (HSZ.out.1 i (by omega))
    have HB1:=Lib.hid ((HSZ.out.2 i x x1.out).1)
    have HB3:=Lib.hid ((HSZ.out.2 i x x1.out).2)
    have HPX:=Lib.hid (HPQ.out x)
    have HFX:Hid (∀ q ∈ infosT T p,plnP T p x q < widthT T p q):=hft
    have HE0:=Lib.hid (fun h => HR0.out h x hxm)
    have HE1:=Lib.hid (fun h => HR1.out h x hxm)
    have HCT:=Lib.hid (fun (i:Nat) (q:Int) (h:(infosT T p)[i]?=some q) => certT_take (P:=plnP T p x) h)
    have hcl:(certT T p (plnP T p x)).length=n:=by unfold certT; rw [List.length_map,HNN.out]
    have HPX:Hid (∀ (k:Nat) (q:Int),(infosT T p)[k]?=some q → plnP T p x q=(toN x.1).getD k 0):=HPX.out
    obtain ⟨nl,hnl⟩:∃ nl,toN x.1=nl:=⟨_,rfl⟩
    rw [hnl] at hin HPX
    have hnll:nl.length=n:=by rw [← hnl,toN_len,hxl]
    have HNL:=Lib.hid hnll
    rw [hxl] at m0 hcs
    rw [← hin] at hcs
    have HCS:=Lib.hid hcs
    obtain ⟨P,hP⟩:∃ P,plnP T p x=P:=⟨_,rfl⟩
    rw [hP] at HCT hcl HFX HPX HE0 HE1
    obtain ⟨C,hC⟩:∃ C,certT T p P=C:=⟨_,rfl⟩
    rw [hC] at HCT hcl HE0 HE1
    have HCL:=Lib.hid hcl
    obtain ⟨yx,hyx⟩:∃ yx,x.2=yx:=⟨_,rfl⟩
    rw [hyx] at m1 hok hsx HMS HB3
    have HPA:=Lib.hid (fun W => parse_any yx W hok hsx)
    have rbr:RB 2000 (ratOf yx):=ratOf_RB2k hok
    obtain ⟨F,hF⟩:∃ F,payF T p S x=F:=⟨_,rfl⟩
    rw [hF] at HE0 HE1 HMS HB1 HB3
    obtain ⟨py,hpy⟩:∃ py,ratOf yx=py:=⟨_,rfl⟩
    rw [hpy] at HPA rbr HMS HB3
    have HML:=Lib.hid (fun (u v:Value) W hu hv => qMul_any u v F py W hu hv (RB_QB HB1.out (by omega)) (RB_QB rbr (by omega)))
    have HADD:=Lib.hid (fun (u v:Value) W hu hv => qAdd_any u v (M i) (F * py) W hu hv (RB_QB HBI.out (by omega)) (RB_QB HB3.out (by omega)))
    obtain ⟨K9,hK9⟩:∃ K9,wq.heap.size=K9:=⟨_,rfl⟩
    obtain ⟨W5,hW5⟩:∃ W5,wq.alloc (.cells #[.slice oo n oc,.string yx] 62)=W5:=⟨_,rfl⟩
    have X5:Ext wq W5:=by rw [← hW5]; exact (Ext.refl wq).alloc _
    have y0:W5.cell? ⟨K9,0,none⟩=some (.slice oo n oc):=by rw [← hW5,← hK9]; simp [go_sem]
    have y1:W5.cell? ⟨K9,1,none⟩=some (.string yx):=by rw [← hW5,← hK9]; simp [go_sem]
    have HX5:=Lib.hid X5
    have HXX5:=Lib.hid (X.trans X5)
    have HA5:=Lib.hid (HA1.out.ext X5)
    have HY1:=Lib.hid y1
    clear hlt x1 x2 hxm hcs hg hft hxl hin hok hsx hcl hnll hnl hP hC hyx hF hpy HA1 X5 y1
    go_wp2_with fail
    clear m0 m1 y0 hK9 hW5
    go_loopw [17,54] (fun ov kv wr => ∃ (k:Nat) (R:List (Ch × Value)),k ≤ n ∧ kv=.int .i64 k ∧ Hid (R.map (·.1)=C.take k) ∧ Hid (R.length=k) ∧ Hid (CO wr W5.heap.size ov R) ∧ Ext W5 wr) (fun _ kv _ => n - (intOf kv).toNat)
    case atStart => exact ⟨0,[],Nat.zero_le _,rfl,rfl,rfl,CO.nil _ _,Ext.refl _⟩
    case round =>
     obtain ⟨k,R,hk,rfl,HR,HRL,HO,X6⟩:=hrel
     obtain ⟨wz,rfl⟩:∃ wz:World,wz=wr:=⟨_,rfl⟩
     by_cases hlt:k < n
     · obtain ⟨q,q1,_,_⟩:=get_lt (xs:=infosT T p) (k:=k) (by rw [HNN.out]; exact hlt)
       have hqm:=List.mem_of_getElem? q1.out
       obtain ⟨ib,ioff,rfl,i0⟩:=(HA.out.ext (HXX5.out.trans X6)).at q1
       have i0:wz.cell? ⟨ib,ioff + k,none⟩=some (.int .i64 q):=i0
       obtain ⟨sb,soff,rfl,s0⟩:=(HB.out.ext (HXX5.out.trans X6)).at (i:=k) (x:=(widthT T p q:Int)) (by show _=_; rw [List.getElem?_map,q1.out]; rfl)
       have hkk:(k:Int) < (n:Int):=by omega
       have hft:=HFX.out q hqm
       have hpq:=HPX.out k q q1.out
       have hwl:=HWL.out q
       have hwp0:=HWP.out q hqm
       have HCI:=Lib.hid (HCT.out k q q1.out)
       obtain ⟨nw,hnw⟩:∃ nw,widthT T p q=nw:=⟨_,rfl⟩
       obtain ⟨mq,hmq⟩:∃ mq,P q=mq:=⟨_,rfl⟩
       rw [hnw] at s0 hft hwl hwp0 HCI
       rw [hmq] at hft hpq HCI
       have hil2:k < nl.length:=by rw [HNL.out]; exact hlt
       have hci:nl[k]?=some mq:=by rw [hpq,List.getD_eq_getElem?_getD,List.getElem?_eq_getElem hil2]; rfl
       obtain ⟨oo',oc',hoo,_,hcc⟩:=HCS.out.open
       simp only [Value.slice.injEq] at hoo
       obtain ⟨rfl,hq9,rfl⟩:=hoo
       clear hq9
       obtain ⟨cb,coff,rfl,c0⟩:=(hcc.ext (HX5.out.trans X6)).at (i:=k) (x:=(mq:Int)) (by show _=_; unfold intsN; rw [List.getElem?_map,hci]; rfl)
       have c0:wz.cell? ⟨cb,coff + k,none⟩=some (.int .i64 (mq:Int)):=c0
       obtain ⟨K5,hK5⟩:∃ K5,wz.heap.size=K5:=⟨_,rfl⟩
       obtain ⟨V5,hV5⟩:∃ V5,wz.alloc (.cells #[.string ⟨#[48]⟩] 28)=V5:=⟨_,rfl⟩
       have XV:Ext wz V5:=by rw [← hV5]; exact (Ext.refl wz).alloc _
       have y5:V5.cell? ⟨K5,0,none⟩=some (.string ⟨#[48]⟩):=by rw [← hV5,← hK5]; exact cell_new _ _ _
       have HRP:=Lib.hid (repeat_any ⟨#[48]⟩ K5 nw V5 y5 (by omega) (by omega))
       have hs5:wz.heap.size ≤ V5.heap.size:=XV.size
       have HXV:=Lib.hid XV
       have s0:=XV.cell s0
       have HI0:=Lib.hid i0
       clear hlt q1 hqm hnw hmq XV y5 hpq hci hil2 i0 hcc
       go_wp2_with fail
       refine HRP.out.mono ?_
       rintro e wa ⟨g9,rfl,ho9,Xa⟩
       have Xqa:=HXV.out.trans Xa
       obtain ⟨hb9,hl9⟩:=ho9.lt g9 rfl
       have hst:=ho9.stored mq (.string ⟨#[49]⟩)
       have fr:=ho9.frozenAt mq
       have c9:wa.cell? ⟨g9,mq,none⟩=some (.string ⟨#[48]⟩):=by
        have:=ho9.cells (g:=g9) rfl mq (.string ⟨#[48]⟩) (by rw [List.getElem?_replicate,if_pos hft])
        rwa [Addr.add_lit,Nat.zero_add] at this
       rw [rowT_set] at hst
       have hgq:=Nat.le_trans hs5 hb9
       obtain ⟨W7,hW7⟩:∃ W7,wa.setCell ⟨g9,mq,none⟩ (.string ⟨#[49]⟩)=W7:=⟨_,rfl⟩
       rw [hW7] at hst
       have hrow:Row W7 (.slice (some ⟨g9,0,none⟩) nw nw) ((rowT nw mq).map Value.string):=own_row hst.1 (by omega)
       have XN:Ext wz W7:=Xqa.grown hst.2 hgq
       have i7:W7.cell? ⟨ib,ioff + k,none⟩=some (.int .i64 q):=XN.cell HI0.out
       have HO7:=Lib.hid (HO.out.ext XN)
       have HRW:Hid (RowX u17.ownBlock W7 (.slice (some ⟨g9,0,none⟩) nw nw) ((rowT nw mq).map Value.string)):=⟨hrow,.inr (fun e => by
        have:=(HO.out.lt g9 e.symm).2
        omega)⟩
       have HXN:=Lib.hid (X6.trans XN)
       have hmi:(mq:Int) < (nw:Int):=by omega
       have hll:=HRL.out
       have hL1:R.length + 1 ≤ 17592186044416:=by omega
       have hL2:(R.length + 1) * 32 ≤ 140737488355328:=by omega
       have hbk:W5.heap.size ≤ W7.heap.size:=HXN.out.size
       have HLM:=HR.out
       clear ho9 hst hrow XN Xqa Xa X6 HRP s0 c0
       go_wp2_with (first | (at_builtin; go_must (refine wp_app2 rfl rfl ei_tc HO7.out.row rfl rfl (by simp) rfl rfl hL1 hL2 hbk ?_); intro v' w' hown hgrew))
       have HCO:=Lib.hid (HO7.out.grew (p:=((q,rowT nw mq),.slice (some ⟨g9,0,none⟩) nw nw)) hown hgrew HRW.out)
       have HXX:=Lib.hid (hgrew.extNew HXN.out HO7.out.row (Nat.le_refl _))
       have HLN:Hid ((R ++ [((q,rowT nw mq),Value.slice (some ⟨g9,0,none⟩) nw nw)]).map (·.1)=C.take (k + 1)):=by
        show _=_
        rw [List.map_append,HLM,HCI.out]
        rfl
       clear hown hgrew fr c9 hW7 HLM i7
       go_roundw
       case rel => exact ⟨k + 1,_,by omega,by go_num,HLN,by show _=_; rw [List.length_append,hll]; rfl,HCO,HXX.out⟩
       case measure => simp [intOf] <;> omega
     · have hke:k=n:=by omega
       subst hke
       have hge:¬ (k:Int) < (k:Int):=by omega
       have hfin:=HR.out
       rw [← HCL.out,List.take_of_length_le (Nat.le_refl _)] at hfin
       have hin:=HO.out.toIn (by rw [HRL.out]; omega)
       rw [hfin] at hin
       have y1:=X6.cell HY1.out
       have HAZ:=Lib.hid (HA5.out.ext X6)
       have k0:=HAZ.out.c0
       have k1:=HAZ.out.c1
       have k2:=HAZ.out.c2
       have HXZ:=Lib.hid (HXX5.out.trans X6)
       have HIN:=Lib.hid hin
       have hsp:=HO.out.row.2
       clear hlt HR HO X6 hfin HA5 hin
       obtain ⟨so9,sl9,sc9,rfl⟩:∃ so9 sl9 sc9,u17=.slice so9 sl9 sc9:=by
        rcases hsp with ⟨rfl,_⟩ | ⟨g,cap,cur,rfl,_⟩
        · exact ⟨_,_,_,rfl⟩
        · exact ⟨_,_,_,rfl⟩
       clear hsp
       by_cases hp1:p=1
       · have HE:=Lib.hid (fun W hX ha => HE1.out hp1 (.slice so9 sl9 sc9) W hX ha)
         have hb1:(p == 1)=true:=by rw [hp1]; rfl
         have hb2:decide (p=1)=true:=decide_eq_true hp1
         clear hp1
         go_wp2_with fail
         have XC:Ext wz wz.drew:=(Ext.refl wz).drew
         go_region_law (first
          | (go_simp; go_at_call 49; refine (HE.out _ (by exact (HX8.out.trans HXZ.out).trans XC) (by exact HIN.out.ext XC)).mono ?_; rintro e wo ⟨uo,rfl,ho,Yo⟩; obtain ⟨s5,ao5,l5,c5,bo5,m5,d5,rfl,_,_,_⟩:=ho.opn; replace XC:=XC.trans Yo; have k0:=Yo.cell k0; have k1:=Yo.cell k1; have k2:=Yo.cell k2; have y1:=Yo.cell y1; have HOV:=Lib.hid ho; clear ho)
          | (go_simp; go_at_call 75; refine (HPA.out _).mono ?_; rintro e wp ⟨up,rfl,hp',Yp⟩; obtain ⟨s6,ao6,l6,c6,bo6,m6,d6,rfl,_,_,_⟩:=hp'.opn; replace XC:=XC.trans Yp; have k0:=Yp.cell k0; have k1:=Yp.cell k1; have k2:=Yp.cell k2; have y1:=Yp.cell y1; have HP:=Lib.hid hp'; clear hp')
          | (go_simp; go_at_call 74; refine (HML.out _ _ _ (by first | exact HOV.out | exact HOV.out.ext Yp) (by first | exact HP.out | exact HP.out.ext Yo)).mono ?_; rintro e wm ⟨um,rfl,hm,Ym⟩; obtain ⟨s8,ao8,l8,c8,bo8,m8,d8,rfl,_,_,_⟩:=hm.opn; replace XC:=XC.trans Ym; have k0:=Ym.cell k0; have k1:=Ym.cell k1; have k2:=Ym.cell k2; have HM:=Lib.hid hm; clear hm)
          | (go_simp; go_at_call 73; refine (HADD.out _ _ _ (by exact HAZ.out.val.ext XC) (by exact HM.out)).mono ?_; rintro e wa ⟨ua,rfl,ha,Ya⟩; obtain ⟨s9,ao9,l9,c9,bo9,m9,d9,rfl,_,_,_⟩:=ha.opn; replace XC:=XC.trans Ya; have HV:=Lib.hid ha; have HAa:=Lib.hid (HAZ.out.ext XC); have T3:=st3 HAa.out.row; have f0:=T3.f0; have c0:=T3.c0; have f1:=T3.f1; have c1:=T3.c1; have f2:=T3.f2; have c2:=T3.c2; clear ha T3))
         all_goals
          obtain ⟨w7,h7,hgr,hput⟩:=HAa.out.put HV.out
          rw [h7]
          rw [← HMS.out] at hput
          have HP7:=Lib.hid hput
          have X7:=(HXZ.out.trans XC).grown hgr hO1
          clear h7 hput f0 c0 f1 c1 f2 c2 k0 k1 k2 hgr
          go_wp2_with fail
          go_roundw
          case rel => exact ⟨i + 1,s9,ao9,l9,c9,bo9,m9,d9,by omega,by go_num,HP7,X7⟩
          case measure => simp [intOf] <;> omega
       · have HE:=Lib.hid (fun W hX ha => HE0.out (HPP.out.resolve_right hp1) (.slice so9 sl9 sc9) W hX ha)
         have hb1:(p == 1)=false:=by rw [beq_eq_false_iff_ne]; exact hp1
         have hb2:decide (p=1)=false:=decide_eq_false hp1
         clear hp1
         go_wp2_with fail
         have XC:Ext wz wz.drew:=(Ext.refl wz).drew
         go_region_law (first
          | (go_simp; go_at_call 49; refine (HE.out _ (by exact (HX8.out.trans HXZ.out).trans XC) (by exact HIN.out.ext XC)).mono ?_; rintro e wo ⟨uo,rfl,ho,Yo⟩; obtain ⟨s5,ao5,l5,c5,bo5,m5,d5,rfl,_,_,_⟩:=ho.opn; replace XC:=XC.trans Yo; have k0:=Yo.cell k0; have k1:=Yo.cell k1; have k2:=Yo.cell k2; have y1:=Yo.cell y1; have HOV:=Lib.hid ho; clear ho)
          | (go_simp; go_at_call 75; refine (HPA.out _).mono ?_; rintro e wp ⟨up,rfl,hp',Yp⟩; obtain ⟨s6,ao6,l6,c6,bo6,m6,d6,rfl,_,_,_⟩:=hp'.opn; replace XC:=XC.trans Yp; have k0:=Yp.cell k0; have k1:=Yp.cell k1; have k2:=Yp.cell k2; have y1:=Yp.cell y1; have HP:=Lib.hid hp'; clear hp')
          | (go_simp; go_at_call 74; refine (HML.out _ _ _ (by first | exact HOV.out | exact HOV.out.ext Yp) (by first | exact HP.out | exact HP.out.ext Yo)).mono ?_; rintro e wm ⟨um,rfl,hm,Ym⟩; obtain ⟨s8,ao8,l8,c8,bo8,m8,d8,rfl,_,_,_⟩:=hm.opn; replace XC:=XC.trans Ym; have k0:=Ym.cell k0; have k1:=Ym.cell k1; have k2:=Ym.cell k2; have HM:=Lib.hid hm; clear hm)
          | (go_simp; go_at_call 73; refine (HADD.out _ _ _ (by exact HAZ.out.val.ext XC) (by exact HM.out)).mono ?_; rintro e wa ⟨ua,rfl,ha,Ya⟩; obtain ⟨s9,ao9,l9,c9,bo9,m9,d9,rfl,_,_,_⟩:=ha.opn; replace XC:=XC.trans Ya; have HV:=Lib.hid ha; have HAa:=Lib.hid (HAZ.out.ext XC); have T3:=st3 HAa.out.row; have f0:=T3.f0; have c0:=T3.c0; have f1:=T3.f1; have c1:=T3.c1; have f2:=T3.f2; have c2:=T3.c2; clear ha T3))
         all_goals
          obtain ⟨w7,h7,hgr,hput⟩:=HAa.out.put HV.out
          rw [h7]
          rw [← HMS.out] at hput
          have HP7:=Lib.hid hput
          have X7:=(HXZ.out.trans XC).grown hgr hO1
          clear h7 hput f0 c0 f1 c1 f2 c2 k0 k1 k2 hgr
          go_wp2_with fail
          go_roundw
          case rel => exact ⟨i + 1,s9,ao9,l9,c9,bo9,m9,d9,by omega,by go_num,HP7,X7⟩
          case measure => simp [intOf] <;> omega
  · have hie:i=N:=by omega
    subst hie
    have hge:¬ (i:Int) < (i:Int):=by omega
    have k0:=HA1.out.c0
    have k1:=HA1.out.c1
    have k2:=HA1.out.c2
    have HOA:=Lib.hid (out_any (.agg #[.bool s,.slice xo xl xc,.slice yo yl yc]) (M i) wq HA1.out.val (tabPow_ext HTB.out (HX8.out.trans X)))
    rw [HOT.out] at HOA
    clear hlt HA1
    go_wp2_with fail
    refine HOA.out.mono ?_
    rintro e w9 ⟨rfl,X9⟩
    dsimp only
    go_wp2_with fail
    go_ret2
    exact ⟨rfl,(HX8.out.trans X).trans X9⟩
theorem payA_ok {T:List Nd} {p:Int} {L:List Pl} {S:List Ch} (h:mixE T p L=0) (h2:strategyE T (1 - p) S=0):payA T p L S=outF (mixS T p S L L.length):=by
 unfold payA; rw [if_neg (by simpa using h),if_neg (by simpa using h2)]
theorem payA_str {T:List Nd} {p:Int} {L:List Pl} {S:List Ch} (h:mixE T p L=0) (h2:strategyE T (1 - p) S ≠ 0):payA T p L S=(⟨#[]⟩,strategyE T (1 - p) S):=by
 unfold payA; rw [if_neg (by simpa using h),if_pos h2]
theorem payA_mix {T:List Nd} {p:Int} {L:List Pl} {S:List Ch} (h:mixE T p L ≠ 0):payA T p L S=(⟨#[]⟩,mixE T p L):=by
 unfold payA; rw [if_pos h]
set_option maxHeartbeats 3200000 in
set_option maxRecDepth 100000 in
theorem cvPay_any (v m o:Value) (T:List Nd) (p:Int) (L:List Pl) (S:List Ch) (w:World) (htab:TabPow w) (hv:TreeIn w v T) (hz:TreeSz T) (hm:PlnIn w m L) (hzm:PlnSz L) (ho:StrIn w o S) (hzs:StrSz S) :
 Calls Tryz.prog 28 #[v,.int .i64 p,m,o] w fun e w' => e=.returned (.tuple #[.string (payA T p L S).1,.int .i64 (payA T p L S).2]) ∧ Ext w w':=by
 by_cases hM:mixE T p L=0
 · by_cases hS:strategyE T (1 - p) S=0
   · rw [payA_ok hM hS]
     exact pay_ok v m o T p L S w htab hM hS hv hz hm hzm ho hzs
   · rw [payA_str hM hS]
     obtain ⟨hPE,_,_,_,_⟩:=mixE_zero hM
     obtain ⟨hT,hp⟩:=valid_player hPE
     have HCK:=Lib.hid (cvCheck_any v m T p L w htab hv hz hm hzm)
     rw [hM] at HCK
     have HST:=Lib.hid (fun W (hX:Ext w W) => strategy_any v o T (1 - p) S W (tabPow_ext htab hX) (hv.ext hX) hT (ho.ext hX) hzs)
     obtain ⟨Q,hQ⟩:∃ Q,strategyE T (1 - p) S=Q:=⟨_,rfl⟩
     rw [hQ] at HST hS ⊢
     have hb:(Q != 0)=true:=by rw [bne_iff_ne]; exact hS
     have hwp:IntKind.i64.wrap (1 - p)=1 - p:=by rw [IntKind.wrap_i64]; omega
     dsimp only
     obtain ⟨vo,vc,rfl,_,_⟩:=hv.open
     obtain ⟨so,sc,rfl,_,_⟩:=ho.open
     obtain ⟨mo,mc,rfl,_,_⟩:=hm.open
     clear hM hS hPE hT hp hQ hv hz hm hzm ho hzs htab
     go_enter Tryz.func28,Tryz.ntmps28
     go_wp2_with fail
     refine HCK.out.mono ?_
     rintro e w2 ⟨rfl,X2⟩
     go_wp2_with fail
     refine (HST.out _ X2).mono ?_
     rintro e w3 ⟨rfl,X3⟩
     go_wp2_with fail
     go_ret2
     exact ⟨rfl,X2.trans X3⟩
 · rw [payA_mix hM]
   have HCK:=Lib.hid (cvCheck_any v m T p L w htab hv hz hm hzm)
   obtain ⟨Q,hQ⟩:∃ Q,mixE T p L=Q:=⟨_,rfl⟩
   rw [hQ] at HCK hM ⊢
   have hb:(Q != 0)=true:=by rw [bne_iff_ne]; exact hM
   dsimp only
   obtain ⟨vo,vc,rfl,_,_⟩:=hv.open
   obtain ⟨so,sc,rfl,_,_⟩:=ho.open
   obtain ⟨mo,mc,rfl,_,_⟩:=hm.open
   clear hM hQ hv hz hm hzm ho hzs htab
   go_enter Tryz.func28,Tryz.ntmps28
   go_wp2_with fail
   refine HCK.out.mono ?_
   rintro e w2 ⟨rfl,X2⟩
   go_wp2_with fail
   go_ret2
   exact ⟨rfl,X2⟩
set_option maxHeartbeats 6400000 in
set_option maxRecDepth 100000 in
theorem mixtureError_any (v m:Value) (T:List Nd) (p:Int) (L:List Pl) (w:World) (hv:TreeIn w v T) (hz:TreeSz T) (hm:PlnIn w m L) (hzs:PlnSz L) :
 Calls Tryz.prog 29 #[v,.int .i64 p,m] w fun e w' => e=.returned (.int .i64 (mixE T p L)) ∧ Ext w w':=by
 have HPLY:=Lib.hid (rPlayerError_any v T p w hv hz)
 have HIF:=Lib.hid (fun W (hX:Ext w W) => rInfos_any v T p W (hv.ext hX))
 have HWR:=Lib.hid (fun (q:Int) W (hX:Ext w W) => rWidth_any v T p q W (hv.ext hX))
 have HVP:=Lib.hid (fun (h:playerE T p=0) => valid_player h)
 obtain ⟨vo,vc,rfl,_,_⟩:=hv.open
 obtain ⟨mo,mc,rfl,hml,hpl⟩:=hm.open
 have HPL:=Lib.hid hpl
 have HSZ:=Lib.hid hzs
 obtain ⟨E,hE⟩:∃ E,playerE T p=E:=⟨_,rfl⟩
 have HE:=Lib.hid hE
 obtain ⟨M,hM⟩:∃ M,mixE T p L=M:=⟨_,rfl⟩
 rw [hM]
 unfold mixE at hM
 rw [hE] at hM HPLY
 clear hv hz hm hzs hpl
 by_cases h0:E=0
 rotate_left
 · rw [if_pos h0] at hM
   subst hM
   have hb:(E != 0)=true:=by rw [bne_iff_ne]; exact h0
   go_enter Tryz.func29,Tryz.ntmps29
   go_wp2_with fail
   refine HPLY.out.mono ?_
   rintro e w2 ⟨rfl,X2⟩
   clear hE
   go_wp2_with fail
   go_ret
   exact ⟨rfl,X2⟩
 subst h0
 rw [if_neg (by simp)] at hM
 obtain ⟨hT,_⟩:=HVP.out hE
 have HF2:=Lib.hid (setsP_snd hT p)
 obtain ⟨N,hN⟩:∃ N,L.length=N:=⟨_,rfl⟩
 have HN:=Lib.hid hN
 rw [hN] at hM hml ⊢
 obtain ⟨ws,hws⟩:∃ ws,intsN (widthsT T p)=ws:=⟨_,rfl⟩
 have HWS:=Lib.hid hws
 rw [hws] at hM
 clear hT hE hN hws
 by_cases hg:128 < N
 · rw [if_pos hg] at hM
   subst hM
   have hgi:(128:Int) < (N:Int):=by omega
   clear hg
   go_enter Tryz.func29,Tryz.ntmps29
   go_wp2_with fail
   refine HPLY.out.mono ?_
   rintro e w2 ⟨rfl,X2⟩
   go_wp2_with fail
   go_ret
   exact ⟨rfl,X2⟩
 rw [if_neg hg] at hM
 have hgi:¬ (128:Int) < (N:Int):=by omega
 have hN128:N ≤ 128:=by omega
 have HMF:Hid (plnF ws none L ≠ 0 → M=plnF ws none L):=fun h => by rw [if_pos h] at hM; exact hM.symm
 have HM0:Hid (plnF ws none L=0 → M=oddsE (L.map (·.2))):=fun h => by rw [if_neg (by simpa using h)] at hM; exact hM.symm
 obtain ⟨F,hF⟩:∃ F,plnF ws none L=F:=⟨_,rfl⟩
 have HF:Hid (plnF ws (prevL L 0) (L.drop 0)=F):=hF
 rw [hF] at HMF HM0
 clear hM hg hF
 go_enter Tryz.func29,Tryz.ntmps29
 go_wp2_with fail
 refine HPLY.out.mono ?_
 rintro e w1 ⟨rfl,X1⟩
 go_wp2_with fail
 refine (HIF.out _ X1).mono ?_
 rintro e w2 ⟨u2,rfl,hb,X12⟩
 have X2:=X1.trans X12
 obtain ⟨bo,bc,rfl,hbl,hB⟩:=hb.open
 have hnw9:ws.length=(infosT T p).length:=by rw [← HWS.out]; unfold intsN; rw [List.length_map,widths_len]
 have HWD:Hid (∀ (k:Nat) (q:Int),(infosT T p)[k]?=some q → ws[k]?=some ((widthT T p q:Nat):Int)):=fun k q h => by
  rw [← HWS.out]
  unfold intsN widthsT
  rw [List.getElem?_map,List.getElem?_map,h]; rfl
 obtain ⟨I,hI⟩:∃ I,infosT T p=I:=⟨_,rfl⟩
 rw [hI] at hnw9 HWD hB hbl ⊢
 obtain ⟨nw,hnw⟩:∃ nw,ws.length=nw:=⟨_,rfl⟩
 have HNW:=Lib.hid hnw
 rw [hnw] at hnw9
 have HIN:=Lib.hid hnw9.symm
 rw [← hnw9] at hbl ⊢
 clear hI hnw9 X1 X12
 have HB:=Lib.hid hB
 have HX2:=Lib.hid X2
 clear hb hB X2 hnw
 go_wp2_with fail
 go_loopw [9,28] (fun ov iv wr => ∃ (i:Nat),i ≤ N ∧ iv=.int .i64 i ∧ Hid (wr.ownsRow w2.heap.size 28 1 ov i (plnT L i)) ∧ Hid (plnF ws (prevL L i) (L.drop i)=F) ∧ Ext w2 wr) (fun _ iv _ => N - (intOf iv).toNat)
 case atStart => exact ⟨0,Nat.zero_le _,rfl,World.ownsRow_nil _ _ _ _,HF,Ext.refl _⟩
 case round =>
  clear HF
  obtain ⟨i,hi,rfl,HO,HF,X⟩:=hrel
  obtain ⟨wq,rfl⟩:∃ wq:World,wq=wr:=⟨_,rfl⟩
  by_cases hlt:i < N
  · obtain ⟨x,x1,x2,_⟩:=get_lt (xs:=L) (k:=i) (by rw [HN.out]; exact hlt)
    obtain ⟨mb,moff,oo,oc,rfl,m0,m1,hcs⟩:=(HPL.out.ext (HX2.out.trans X)).at x1
    have hii:(i:Int) < (N:Int):=by omega
    have hf:=HF.out
    rw [x2.out,plnF_cons] at hf
    have HPT:=Lib.hid (plnT_succ x1.out)
    have HSX:=Lib.hid (HSZ.out x (List.mem_of_getElem? x1.out))
    have HPV:Hid (prevL L (i + 1)=some x.1):=by show (L[i]?).map (·.1)=some x.1; rw [x1.out]; rfl
    obtain ⟨nc,hnc⟩:∃ nc,x.1.length=nc:=⟨_,rfl⟩
    have HNC:=Lib.hid hnc
    rw [hnc] at hf m0 hcs
    rw [HNW.out] at hf
    have HCS:=Lib.hid hcs
    obtain ⟨K9,hK9⟩:∃ K9,wq.heap.size=K9:=⟨_,rfl⟩
    obtain ⟨W5,hW5⟩:∃ W5,wq.alloc (.cells #[.slice oo nc oc,.string x.2] 62)=W5:=⟨_,rfl⟩
    have X5:Ext wq W5:=by rw [← hW5]; exact (Ext.refl wq).alloc _
    have y0:W5.cell? ⟨K9,0,none⟩=some (.slice oo nc oc):=by rw [← hW5,← hK9]; simp [go_sem]
    have y1:W5.cell? ⟨K9,1,none⟩=some (.string x.2):=by rw [← hW5,← hK9]; simp [go_sem]
    have HX5:=Lib.hid X5
    have HO5:=Lib.hid (own_ext HO.out X5)
    clear hlt x1 x2 hcs hnc HF X5 HO
    by_cases hl:nc=nw
    rotate_left
    · rw [if_pos hl] at hf
      have hM3:=HMF.out (by rw [← hf]; decide)
      rw [← hf] at hM3
      subst hM3
      have hb1:((nc:Int) != (nw:Int))=true:=by rw [bne_iff_ne]; omega
      clear hl hf
      go_wp2_with fail
      go_ret
      exact ⟨rfl,(HX2.out.trans X).trans HX5.out⟩
    subst hl
    rw [if_neg (by simp)] at hf
    obtain ⟨bb,hbb⟩:∃ bb,badC x.1 ws=bb:=⟨_,rfl⟩
    rw [hbb] at hf
    have HBB:Hid (badC (x.1.drop 0) (ws.drop 0)=bb):=hbb
    have HFB:=Lib.hid hf
    have HB4:Hid (bb=true → M=4):=fun h => by
     have hf2:=HFB.out
     rw [if_pos h] at hf2
     rw [HMF.out (by rw [← hf2]; decide),hf2]
    have HMO:Hid (∀ W,Ext W5 W → W.cell? ⟨mb,moff + i * 2,none⟩=some (.slice oo nc oc)):=fun W hX => hX.cell (HX5.out.cell m0)
    clear hf hbb
    go_wp2_with fail
    clear m0 m1
    go_loopw [42] (fun kv wr => ∃ (k:Nat),k ≤ nc ∧ kv=.int .i64 k ∧ Hid (badC (x.1.drop k) (ws.drop k)=bb) ∧ Ext W5 wr) (fun kv _ => nc - (intOf kv).toNat)
    case atStart => exact ⟨0,Nat.zero_le _,rfl,HBB,Ext.refl _⟩
    case round =>
     clear HBB
     obtain ⟨k,hk,rfl,HBK,X6⟩:=hrel
     obtain ⟨wz,rfl⟩:∃ wz:World,wz=wr:=⟨_,rfl⟩
     by_cases hlt:k < nc
     · obtain ⟨c,c1,c2,_⟩:=get_lt (xs:=x.1) (k:=k) (by rw [HNC.out]; exact hlt)
       obtain ⟨s,s1,s2,_⟩:=get_lt (xs:=ws) (k:=k) (by rw [HNW.out]; exact hlt)
       obtain ⟨oo',oc',hoo,_,hcc⟩:=HCS.out.open
       simp only [Value.slice.injEq] at hoo
       obtain ⟨rfl,hq9,rfl⟩:=hoo
       clear hq9
       obtain ⟨ob,ooff,rfl,o0⟩:=(hcc.ext (HX5.out.trans X6)).at c1
       obtain ⟨q,q1,_,_⟩:=get_lt (xs:=I) (k:=k) (by rw [HIN.out]; exact hlt)
       have hsq9:=HWD.out k q q1.out
       rw [s1.out] at hsq9
       have hsq:=Option.some.inj hsq9
       have HWX:=Lib.hid (fun W hX => HWR.out q W hX)
       rw [← hsq] at HWX
       obtain ⟨sb,soff,rfl,s0⟩:=(HB.out.ext ((X.trans HX5.out).trans X6)).at q1
       have o0:wz.cell? ⟨ob,ooff + k,none⟩=some (.int .i64 c):=o0
       have s0:wz.cell? ⟨sb,soff + k,none⟩=some (.int .i64 q):=s0
       have hkk:(k:Int) < (nc:Int):=by omega
       have hbk:=HBK.out
       rw [c2.out,s2.out] at hbk
       replace hbk:(decide (c < 0) || decide (s ≤ c) || badC (x.1.drop (k + 1)) (ws.drop (k + 1)))=bb:=hbk
       clear hlt c1 c2 s1 s2 hcc HBK q1 hsq9 hsq
       by_cases hc0:c < 0
       · have hm4:=HB4.out (by rw [← hbk]; simp [hc0])
         subst hm4
         clear hbk
         go_wp2_with fail
         go_ret
         exact ⟨rfl,((HX2.out.trans X).trans HX5.out).trans X6⟩
       · by_cases hsc:s ≤ c
         · have hm4:=HB4.out (by rw [← hbk]; simp [hsc])
           subst hm4
           clear hbk
           go_wp2_with fail
           refine (HWX.out _ (((HX2.out.trans X).trans HX5.out).trans X6)).mono ?_
           rintro e w6 ⟨rfl,X66⟩
           go_wp2_with fail
           go_ret
           exact ⟨rfl,(((HX2.out.trans X).trans HX5.out).trans X6).trans X66⟩
         · have HBN:Hid (badC (x.1.drop (k + 1)) (ws.drop (k + 1))=bb):=by
            show _=_
            rw [← hbk]
            simp [hc0,hsc]
           have hd1:decide (c < 0)=false:=decide_eq_false hc0
           have hd2:decide (s ≤ c)=false:=decide_eq_false hsc
           clear hbk
           go_wp2_with fail
           refine (HWX.out _ (((HX2.out.trans X).trans HX5.out).trans X6)).mono ?_
           rintro e w6 ⟨rfl,X66⟩
           have X7:=Lib.hid (X6.trans X66)
           clear X6 X66
           go_wp2_with fail
           go_roundw
           case rel => exact ⟨k + 1,by omega,by go_num,HBN,X7.out⟩
           case measure => simp [intOf] <;> omega
     · have hke:k=nc:=by omega
       subst hke
       have hge:¬ (k:Int) < (k:Int):=by omega
       have hbk:=HBK.out
       rw [(List.drop_eq_nil_of_le (by rw [HNC.out]; exact Nat.le_refl _):x.1.drop k=[])] at hbk
       replace hbk:false=bb:=hbk
       subst hbk
       have hf:=HFB.out
       rw [if_neg (by simp)] at hf
       have HFC:=Lib.hid hf
       have y0:=X6.cell y0
       have y1:=X6.cell y1
       have HOZ:=Lib.hid (own_ext HO5.out X6)
       have HXZ:=Lib.hid ((X.trans HX5.out).trans X6)
       have hl1:i + 1 ≤ 17592186044416:=by omega
       have hl2:(i + 1) * 16 ≤ 140737488355328:=by omega
       have hbk2:w2.heap.size ≤ wz.heap.size:=HXZ.out.size
       have HIC:Hid (Ints wz (.slice oo k oc) x.1):=(HCS.out.ext HX5.out).ext X6
       have HMO2:=Lib.hid (HMO.out wz X6)
       clear hlt hf HBK HFB HB4 HMO HCS X6 HO5
       cases i with
       | zero =>
         have HFN:Hid (plnF ws (prevL L (0 + 1)) (L.drop (0 + 1))=F):=by
          show _=_
          rw [HPV.out,← HFC.out]
          rfl
         go_wp2_with fail
         go_quiet (fail)
         obtain ⟨Wd,hWd⟩:∃ Wd,wz.drewN nq=Wd:=⟨_,rfl⟩
         have XD:Ext wz Wd:=by rw [← hWd]; exact (Ext.refl wz).drewN _
         rw [hWd]
         clear hWd
         have HRO:=Lib.hid (own_ext HOZ.out XD)
         have hbk3:w2.heap.size ≤ Wd.heap.size:=Nat.le_trans hbk2 XD.size
         have y1:=XD.cell y1
         have HXN:=Lib.hid (HXZ.out.trans XD)
         clear y0 XD
         go_wp2_with (at_builtin; go_must (refine wp_app1 rfl rfl ei_rats HRO.out rfl rfl (by simp) rfl hl1 hl2 hbk3 ?_); intro v' w' hown hgrew)
         rw [← HPT.out] at hown
         have HON:=Lib.hid hown
         have HXX:=Lib.hid (hgrew.extNew HXN.out HRO.out (Nat.le_refl _))
         clear hown hgrew y1
         go_roundw
         case rel => exact ⟨0 + 1,by omega,by go_num,HON,HFN,HXX.out⟩
         case measure => simp [intOf] <;> omega
       | succ j =>
         obtain ⟨y,z1,_,_⟩:=get_lt (xs:=L) (k:=j) (by rw [HN.out]; omega)
         obtain ⟨mb2,moff2,oo2,oc2,hmb,p0,p1,hcs2⟩:=(HPL.out.ext (HX2.out.trans HXZ.out)).at z1
         simp only [Option.some.injEq,Addr.mk.injEq,and_true] at hmb
         obtain ⟨rfl,rfl⟩:=hmb
         have hprev:prevL L (j + 1)=some y.1:=by show (L[j]?).map (·.1)=some y.1; rw [z1.out]; rfl
         have hfc:=HFC.out
         rw [hprev] at hfc
         replace hfc:(if decide (0 ≤ cmpL y.1 x.1)=true then 7 else plnF ws (some x.1) (L.drop (j + 1 + 1)))=F:=hfc
         obtain ⟨ny,hny⟩:∃ ny,y.1.length=ny:=⟨_,rfl⟩
         rw [hny] at p0 hcs2
         have HCP:=Lib.hid (fun W (hX:Ext wz W) => compare_any _ _ x.1 y.1 W (RowOf.ext HIC.out hX) (RowOf.ext hcs2 hX))
         rw [cmpL_neg x.1 y.1] at hfc
         obtain ⟨z,hz⟩:∃ z,cmpL x.1 y.1=z:=⟨_,rfl⟩
         rw [hz] at HCP hfc
         have HFZ:=Lib.hid hfc
         have hj0:(0:Int) < (j:Int) + 1:=by omega
         have hjN:(j:Int) < (N:Int):=by omega
         have hj00:(0:Int) ≤ (j:Int):=by omega
         have ew1:IntKind.i64.wrap (j:Int)=(j:Int):=by rw [IntKind.wrap_i64]; omega
         have ew2:wrap64 (j:Int)=(j:Int):=by unfold wrap64; omega
         clear z1 hcs2 hny hz hfc hprev p1 HFC
         go_wp2_with fail
         go_region_held3 (fun W9 => W9.cell? ⟨mb,moff + j * 2,none⟩=some (.slice oo2 ny oc2) ∧ W9.cell? ⟨K9,0,none⟩=some (.slice oo k oc))
          (first | exact ⟨p0,y0⟩ | exact ⟨X5'.cell p0,X5'.cell y0⟩ | go_keep)
          ((go_at_call 76; refine (HCP.out _ (by exact (Ext.refl wz).drew)).mono ?_; rintro e w5 ⟨rfl,Y5⟩; have X5':Ext wz w5:=Ext.trans ((Ext.refl wz).drew) Y5))
         all_goals
          have XD:Ext wz w5:=X5'
          by_cases hz0:z ≤ 0
          · have hd:decide (z ≤ 0)=true:=decide_eq_true hz0
            have hd0:decide (0 ≤ -z)=true:=decide_eq_true (by omega)
            have hf7:=HFZ.out
            rw [if_pos hd0] at hf7
            have hM7:=HMF.out (by rw [← hf7]; decide)
            rw [← hf7] at hM7
            subst hM7
            clear hf7
            go_wp2_with fail
            go_ret
            exact ⟨rfl,(HX2.out.trans HXZ.out).trans XD⟩
          · have hd:decide (z ≤ 0)=false:=decide_eq_false hz0
            have hd0:¬ (decide (0 ≤ -z)=true):=by rw [decide_eq_true_eq]; omega
            have hf7:=HFZ.out
            rw [if_neg hd0] at hf7
            have HFN:Hid (plnF ws (prevL L (j + 1 + 1)) (L.drop (j + 1 + 1))=F):=by
             show _=_
             rw [HPV.out]
             exact hf7
            have hz1:0 < z:=by omega
            clear hf7
            have HRO:=Lib.hid (own_ext HOZ.out XD)
            have hbk3:w2.heap.size ≤ w5.heap.size:=Nat.le_trans hbk2 XD.size
            have y1:=XD.cell y1
            have HXN:=Lib.hid (HXZ.out.trans XD)
            clear y0 XD p0 X5'
            go_wp2_with (at_builtin; go_must (refine wp_app1 rfl rfl ei_rats HRO.out rfl rfl (by simp) rfl hl1 hl2 hbk3 ?_); intro v' w' hown hgrew)
            rw [← HPT.out] at hown
            have HON:=Lib.hid hown
            have HXX:=Lib.hid (hgrew.extNew HXN.out HRO.out (Nat.le_refl _))
            clear hown hgrew y1 ew1 ew2
            go_roundw
            case rel => exact ⟨j + 1 + 1,by omega,by go_num,HON,HFN,HXX.out⟩
            case measure => simp [intOf] <;> omega
  · have hie:i=N:=by omega
    subst hie
    have hge:¬ (i:Int) < (i:Int):=by omega
    have hf:=HF.out
    rw [(List.drop_eq_nil_of_le (by rw [HN.out]; exact Nat.le_refl _):L.drop i=[]),plnF_nil] at hf
    have hM0:=HM0.out hf.symm
    subst hM0
    have hst:Strs wq u9 (L.map (·.2)):=by
     have h:=HO.out
     rw [← HN.out,plnT_all] at h
     exact own_row h (by rw [HN.out]; omega)
    have HOD:=Lib.hid (rOddsError_any u9 (L.map (·.2)) wq hst (fun s hs => by
     obtain ⟨x,hx,rfl⟩:=List.mem_map.1 hs
     exact HSZ.out x hx))
    clear hlt hf hst HO HF
    go_wp2_with fail
    refine HOD.out.mono ?_
    rintro e w5 ⟨rfl,X5⟩
    go_wp2_with fail
    go_ret
    exact ⟨rfl,(HX2.out.trans X).trans X5⟩
set_option maxHeartbeats 3200000 in
set_option maxRecDepth 100000 in
theorem planWeight_any (m:Value) (L:List Pl) (w:World) (hm:PlnIn w m L) :
 Calls Tryz.prog 27 #[m] w fun e w' => ∃ n:Int,e=.returned (.int .i64 n) ∧ Ext w w':=by
 obtain ⟨wo,rfl⟩:∃ wo:World,wo=w:=⟨_,rfl⟩
 obtain ⟨mo,mc,rfl,hml,hpl⟩:=hm.open
 have HPL:=Lib.hid hpl
 clear hpl hm
 go_enter Tryz.func27,Tryz.ntmps27
 go_wp2_with fail
 go_loopw [3,8] (fun nv iv wr => ∃ (i:Nat) (n:Int),i ≤ L.length ∧ nv=.int .i64 n ∧ iv=.int .i64 i ∧ Ext wo wr) (fun _ iv _ => L.length - (intOf iv).toNat)
 case atStart => exact ⟨0,0,Nat.zero_le _,rfl,rfl,Ext.refl _⟩
 case round =>
  obtain ⟨i,n,hi,rfl,rfl,X⟩:=hrel
  by_cases hlt:i < L.length
  · obtain ⟨x,x1,x2,_⟩:=get_lt hlt
    obtain ⟨mb,moff,oo,oc,rfl,m0,m1,hcs⟩:=(HPL.out.ext X).at x1
    have hii:(i:Int) < (L.length:Int):=by omega
    obtain ⟨T7,hT7⟩:∃ T7,wr.heap.size=T7:=⟨_,rfl⟩
    obtain ⟨W1,hW1⟩:∃ W1,wr.alloc (.cells #[.slice oo x.1.length oc,.string x.2] 62)=W1:=⟨_,rfl⟩
    have X1:Ext wr W1:=by rw [← hW1]; exact (Ext.refl wr).alloc _
    have y1:W1.cell? ⟨T7,1,none⟩=some (.string x.2):=by rw [← hW1,← hT7]; simp [go_sem]
    have HX1:=Lib.hid X1
    clear hcs x1 x2 hlt X1
    go_wp2_with fail
    go_roundw
    case rel => exact ⟨i + 1,_,by omega,rfl,by go_num,X.trans HX1.out⟩
    case measure => simp [intOf]; omega
  · have hge:¬ (i:Int) < (L.length:Int):=by omega
    clear hlt
    go_wp2_with fail
    go_ret
    first
     | exact ⟨_,rfl,X⟩
     | exact X
     | exact ⟨⟨_,rfl⟩,X⟩
set_option maxHeartbeats 1600000 in
set_option maxRecDepth 100000 in
theorem mixtures1_any (c:Value) (s:ByteArray) (W:World) (hs:s.size ≤ 9223372036854775806):Calls Tryz.prog 32 #[.agg #[c,.string s]] W fun e W' => e=.returned (.bool (decide (12 < s.size))) ∧ Ext W W':=by
 obtain ⟨K9,hK9⟩:∃ K9,W.heap.size=K9:=⟨_,rfl⟩
 obtain ⟨W1,hW1⟩:∃ W1,W.alloc (.cells #[c,.string s] 62)=W1:=⟨_,rfl⟩
 have X1:Ext W W1:=by rw [← hW1]; exact (Ext.refl W).alloc _
 have y1:W1.cell? ⟨K9,1,none⟩=some (.string s):=by rw [← hW1,← hK9]; simp [go_sem]
 have hd:decide ((12:Int) < (s.size:Int))=decide (12 < s.size):=by rw [decide_eq_decide]; omega
 go_enter Tryz.func32,Tryz.ntmps32
 go_wp2_with fail
 go_ret
 exact ⟨by first | rfl | simp [hd] | exact ret_bool hd,X1⟩
set_option maxHeartbeats 1600000 in
set_option maxRecDepth 100000 in
theorem indexFunc_plans (m:Value) (L:List Pl) (w:World) (hm:PlnIn w m L) (hz:PlnSz L) :
 Calls Tryz.prog 79 #[m,.func (.func 32) #[] #[]] w fun e w' => e=.returned (.int .i64 (idxF (fun x:Pl => decide (12 < x.2.size)) L 0)) ∧ Ext w w':=by
 obtain ⟨mo,mc,rfl,hml,hpl⟩:=hm.open
 have HPL:=Lib.hid hpl
 have HSZ:=Lib.hid hz
 obtain ⟨pf,hpf⟩:∃ pf:Pl → Bool,(fun x:Pl => decide (12 < x.2.size))=pf:=⟨_,rfl⟩
 have HP:Hid (∀ x ∈ L,∀ (c:Value) W,Calls Tryz.prog 32 #[.agg #[c,.string x.2]] W fun e W' => e=.returned (.bool (pf x)) ∧ Ext W W'):=fun x hx c W => by
  rw [← hpf]
  exact mixtures1_any c x.2 W (HSZ.out x hx)
 rw [hpf]
 have eg:∀ args w,(callFunc 32 args).run Tryz.prog w=.ok (.enter 32 args) w:=fun _ _ => by kernel_rfl
 obtain ⟨Z,hZ⟩:∃ Z,idxF pf L 0=Z:=⟨_,rfl⟩
 have HZ:Hid (idxF pf (L.drop 0) ((0:Nat):Int)=Z):=hZ
 rw [hZ]
 clear hpl hm hz hpf hZ
 go_enter Tryz.func79,Tryz.ntmps79
 go_wp2_with fail
 go_loopw [8] (fun i wr => ∃ k:Nat,k ≤ L.length ∧ i=.int .i64 k ∧ Ext w wr ∧ Hid (idxF pf (L.drop k) (k:Int)=Z)) (fun i _ => L.length - (intOf i).toNat)
 case atStart => exact ⟨0,Nat.zero_le _,rfl,Ext.refl _,HZ⟩
 case round =>
  clear HZ
  obtain ⟨k,hk,rfl,HX,HI⟩:=hrel
  by_cases hlt:k < L.length
  · obtain ⟨x,x1,x2,_⟩:=get_lt hlt
    obtain ⟨mb,moff,oo,oc,rfl,m0,m1,hcs⟩:=(HPL.out.ext HX).at x1
    have hii:(k:Int) < (L.length:Int):=by omega
    have HH:=Lib.hid (fun (c:Value) W => HP.out x (List.mem_of_getElem? x1.out) c W)
    have hi9:=HI.out
    rw [x2.out] at hi9
    obtain ⟨q,hq⟩:∃ q,pf x=q:=⟨_,rfl⟩
    rw [hq] at HH
    replace hi9:(if pf x=true then (k:Int) else idxF pf (L.drop (k + 1)) ((k:Int) + 1))=Z:=hi9
    rw [hq] at hi9
    clear hcs x1 x2 hlt hq HI
    cases q
    all_goals
     go_wp2_with fail
     refine (HH.out _ _).mono ?_
     rintro e w' ⟨rfl,HB⟩
     go_wp2_with fail
    · go_roundw
      case rel => exact ⟨k + 1,by omega,by go_num,HX.trans HB,by show _=_; rw [if_neg (by simp)] at hi9; rw [← hi9]; rfl⟩
      case measure => simp [intOf]; omega
    · go_ret
      exact ⟨ret_int (by simpa using hi9),HX.trans HB⟩
  · have hke:k=L.length:=by omega
    have hi9:=HI.out
    rw [List.drop_eq_nil_of_le (by omega)] at hi9
    replace hi9:(-1:Int)=Z:=hi9
    have hge:¬ (k:Int) < (L.length:Int):=by omega
    subst hi9
    clear hlt hke
    go_wp2_with fail
    go_ret
    exact ⟨rfl,HX⟩
set_option maxHeartbeats 800000 in
set_option maxRecDepth 100000 in
theorem containsFunc_plans (m:Value) (L:List Pl) (w:World) (hm:PlnIn w m L) (hz:PlnSz L) :
 Calls Tryz.prog 31 #[m,.func (.func 32) #[] #[]] w fun e w' => e=.returned (.bool (L.any fun x => decide (12 < x.2.size))) ∧ Ext w w':=by
 obtain ⟨q,hq⟩:∃ q,(L.any fun x => decide (12 < x.2.size))=q:=⟨_,rfl⟩
 rw [hq]
 have hge:=idxF_ge (fun x:Pl => decide (12 < x.2.size)) L 0 (Int.le_refl _)
 rw [hq] at hge
 have HC:=indexFunc_plans m L w hm hz
 obtain ⟨i,hi⟩:∃ i,idxF (fun x:Pl => decide (12 < x.2.size)) L 0=i:=⟨_,rfl⟩
 rw [hi] at HC hge
 have hge2:=Lib.hid hge
 have HD:=Lib.hid HC
 obtain ⟨mo,mc,rfl,hml,_⟩:=hm.open
 clear hge HC hm hz hq hi
 go_enter Tryz.func31,Tryz.ntmps31
 go_wp2_with fail
 refine HD.out.mono ?_
 rintro e w' ⟨rfl,hx⟩
 go_wp2_with fail
 go_ret
 exact ⟨ret_bool (by have:=hge2.out; cases q <;> simp at this <;> simp <;> omega),hx⟩
end Go.Proofs.YtcggohkbmhdohaaGreatDoor
