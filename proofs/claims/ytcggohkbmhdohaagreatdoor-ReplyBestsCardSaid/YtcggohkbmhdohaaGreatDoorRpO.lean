/- walk of reply.BestOf -/
import Derived.Test.YtcggohkbmhdohaaGreatDoorRpMN
import Derived.Test.YtcggohkbmhdohaaGreatDoorTl
import Derived.OwnWalk
namespace Go.Proofs.YtcggohkbmhdohaaGreatDoor
open Go.RowKit
set_option linter.unusedVariables false
set_option linter.unusedSimpArgs false
def BestPost (T:List Nd) (p:Int) (S:List Ch) (u:Value) (w w':World):Prop:=∃ q b n f,u=.tuple #[q,.map (some b)] ∧ QV w' q (hsL T p (sumsG T p S T.length) T.length 0) ∧ MapG Tryz.prog 3 (Value.int .i64) (fun i:Int => (Lit.int .i64 i).wf=true) w' b n f ∧
 (∀ q ∈ infosT T p,f q=some (.int .i64 ((bestP T p (sumsG T p S T.length) q:Nat):Int))) ∧ Ext w w'
set_option maxHeartbeats 6400000 in
set_option maxRecDepth 100000 in
theorem bestOf_any (v o:Value) (T:List Nd) (p:Int) (S:List Ch) (w:World) (hv:TreeIn w v T) (hz:TreeSz T) (hT:Valid T) (hr:remB T p=true) (hp:p=0 ∨ p=1) (hS:strategyE T (1 - p) S=0) (ho:StrIn w o S) (hzs:StrSz S) :
 Calls Tryz.prog 63 #[v,.int .i64 p,o] w fun e w' => ∃ u,e=.returned u ∧ BestPost T p S u w w':=by
 have HOF:=Lib.hid (fun W (hX:Ext w W) => of_any v T p W (hv.ext hX) hT hr)
 have HOD:=Lib.hid (fun W (hX:Ext w W) => oddsMap_str o T (1 - p) S W hT hS (ho.ext hX) hzs)
 have HRE:=Lib.hid (fun (K4 K9 b n:Nat) (f:Int → Option Value) W (hX:Ext w W) h4 h9 hM hq => bestReach_any v T p S K4 K9 b n f W hT hp hS (hv.ext hX) hz h4 h9 hM hq)
 have HLI:=Lib.hid (fun W (hX:Ext w W) => list_any v T W (hv.ext hX))
 have HO0:=Lib.hid (fun W => qOf_any 0 W (by omega) (by omega))
 obtain ⟨B,hB⟩:∃ B,B=800000:=⟨_,rfl⟩
 have HSZ:=Lib.hid (best_any hT hp hS hB)
 have HOR:=Lib.hid (fun (i:Nat) (hi:i < T.length) => (oth_RB hT hp hS hi:RB 240001 (oth T p S i)))
 have hB2:B ≤ 800000:=by omega
 clear hB
 have HPY:Hid (∀ (k:Nat) (x:Nd),T[k]?=some x → x.kind=0 → RatOk x.pay):=fun k x hx hk => by
  rcases hT.node k x hx with ⟨_,_,_,_,_,hr⟩ | ⟨k2,_⟩ | ⟨k2,_⟩
  · exact ratErr_ok hr
  · rw [k2] at hk; exact absurd hk (by decide)
  · rw [k2] at hk; exact absurd hk (by decide)
 have HZ:=Lib.hid hz
 have HT:=Lib.hid hT
 have HR:=Lib.hid hr
 have hT1:=hT.pos
 have hT2:=hT.len
 have hsl0:=(seqsL_len T p T.length).symm
 have hsl1:=ways_one T p T.length
 have hsl2:=ways_size hT p T.length (Nat.le_refl _)
 obtain ⟨vo,vc,rfl,hlen,hn⟩:=hv.open
 obtain ⟨oo,oc,rfl,_,_⟩:=ho.open
 have HN:=Lib.hid hn
 obtain ⟨N,hN⟩:∃ N,(seqsL T p T.length).length=N:=⟨_,rfl⟩
 have hN1:1 ≤ N:=by omega
 have hN2:N ≤ 721:=by omega
 have HNN:=Lib.hid hN
 obtain ⟨K4,hK4⟩:∃ K4,w.heap.size=K4:=⟨_,rfl⟩
 obtain ⟨W1,hW1⟩:∃ W1,w.alloc (.cells #[.int .i64 p] 3)=W1:=⟨_,rfl⟩
 have X1:Ext w W1:=by rw [← hW1]; exact (Ext.refl w).alloc _
 have y4:W1.cell? ⟨K4,0,none⟩=some (.int .i64 p):=by rw [← hW1,← hK4]; exact cell_new _ _ _
 have hs1:W1.heap.size=K4 + 1:=by rw [← hW1,← hK4]; simp
 obtain ⟨W2,hW2⟩:∃ W2,W1.alloc (.cells #[.bool false,.slice none 0 0,.slice none 0 0] 89)=W2:=⟨_,rfl⟩
 have X2:Ext W1 W2:=by rw [← hW2]; exact (Ext.refl W1).alloc _
 have y4:=X2.cell y4
 have X1':=X1
 have hs2:W2.heap.size=K4 + 2:=by rw [← hW2]; simp [hs1]
 have hi1:p=0 ∨ p=1:=hp
 obtain ⟨iq,iq1,iq2,iq3,iq4⟩:=ei_q.info
 clear hn hv ho hz hzs hT hr hS hp hsl0 hsl1 hsl2 hN
 go_enter Tryz.func63,Tryz.ntmps63
 go_wp2_with fail
 refine (HOF.out _ (X1.trans X2)).mono ?_
 rintro e w3 ⟨u3,rfl,G,sv,av,rfl,c0,c1,hsq,hat,X3⟩
 obtain ⟨so,cs,rfl,hsq⟩:=hsq
 obtain ⟨ao,ca,rfl,_,hat⟩:=hat.open
 rw [HNN.out] at c0
 rw [atL_len] at c1
 have HSQ:=Lib.hid hsq
 have HAT:=Lib.hid hat
 have y4:=X3.cell y4
 clear hsq hat
 go_wp2_with fail
 refine (HOD.out _ ((X1.trans X2).trans X3)).mono ?_
 rintro e w4 ⟨_,rfl,b0,n0,f0,rfl,m0,q0,X4⟩
 obtain ⟨K9,hK9⟩:∃ K9,w4.heap.size=K9:=⟨_,rfl⟩
 obtain ⟨W5,hW5⟩:∃ W5,w4.alloc (.cells #[.map (some b0)] 136)=W5:=⟨_,rfl⟩
 have X5:Ext w4 W5:=by rw [← hW5]; exact (Ext.refl w4).alloc _
 have y9:W5.cell? ⟨K9,0,none⟩=some (.map (some b0)):=by rw [← hW5,← hK9]; exact cell_new _ _ _
 have X25:=Lib.hid ((X3.trans X4).trans X5)
 have HRR:=Lib.hid (HRE.out K4 K9 b0 n0 f0 W5 ((X1.trans X2).trans X25.out) ((X4.trans X5).cell y4) y9 (m0.ext X5) (fun j ch h => by obtain ⟨x,h1,h2⟩:=q0 j ch h; exact ⟨x,h1,h2.ext X5⟩))
 have X45:=Lib.hid (X4.trans X5)
 have HX2:=Lib.hid (X1.trans X2)
 clear m0 q0 y9 HRE HOD HOF X1 X2 X3 X4 X5
 go_wp2_with fail
 clear hK9
 refine HRR.out.mono ?_
 rintro e w6 ⟨u6,rfl,hu6,X6⟩
 obtain ⟨go,gc,rfl,_,hC⟩:=(hu6.toV (by rw [List.length_map,List.length_range]; omega)).opn
 have hrl:((List.range T.length).map (oth T p S)).length=T.length:=by rw [List.length_map,List.length_range]
 rw [hrl]
 have HM6:Hid (BM T p S K4 G so N cs ao T.length ca go w6):=⟨X6.cell (X45.out.cell y4),X6.cell (X45.out.cell c0),X6.cell (X45.out.cell c1),(HAT.out.ext X45.out).ext X6,(HSQ.out.ext X45.out).ext X6,hC⟩
 have X26:=Lib.hid (X25.out.trans X6)
 have c0:=HM6.out.g0
 obtain ⟨K7,hK7⟩:∃ K7,w6.heap.size=K7:=⟨_,rfl⟩
 have hK2:W2.heap.size ≤ K7:=by rw [← hK7]; exact X26.out.size
 have HW2:=Lib.hid hW2
 have HX1:=Lib.hid X1'
 clear hu6 hC HRR hrl y4 c1 X6 X25 X45 HSQ HAT hW5 hW2
 go_wp2_with (first
  | (refine wpList_make_full _ rfl _ _ _ rfl K7 89 iq (.agg #[.bool false,.slice none 0 0,.slice none 0 0]) 3 ei_q.und iq1 iq2 iq3 .i64 .i64 _ _ N rfl rfl rfl rfl (by rw [iq4]; omega) (by unfold maxLen; omega) (by omega) ?_; intro w7 hm1 hm2; have X7:Ext w6 w7:=⟨hm2.os,hm2.tape,hm2.output,hm2.size,fun k hk => hm2.block k hk (by simp)⟩))
 rw [hK7] at hm1
 have HG7:Hid (QsG w7 K7 (.slice (some ⟨K7,0,none⟩) N N) (zerosTo N 0)):=by show QsG _ _ _ _; rw [zerosTo_zero]; exact QsG.made hm1
 have HM7:=Lib.hid (HM6.out.ext X7)
 have HX7:=Lib.hid (X26.out.trans X7)
 have HK7:Hid (w6.heap.size=K7):=hK7
 clear hm1 hm2 X7 X26 c0 hK7
 go_wp2_with fail
 go_loopw [38] (fun iv wr => ∃ (i:Nat),i ≤ N ∧ iv=.int .i64 i ∧ Hid (QsG wr K7 (.slice (some ⟨K7,0,none⟩) N N) (zerosTo N i)) ∧ Hid (BM T p S K4 G so N cs ao T.length ca go wr) ∧ Ext W2 wr) (fun iv _ => N - (intOf iv).toNat)
 case atStart => exact ⟨0,Nat.zero_le _,rfl,HG7,HM7,HX7.out⟩
 case round =>
  clear HG7 HM7 HX7
  obtain ⟨i,hi,rfl,HG,HM,X⟩:=hrel
  obtain ⟨wq,rfl⟩:∃ wq:World,wq=wr:=⟨_,rfl⟩
  by_cases hlt:i < N
  · have hii:(i:Int) < (N:Int):=by omega
    go_wp2_with fail
    refine (HO0.out _).mono ?_
    rintro e wa ⟨ua,rfl,ha,Xa⟩
    obtain ⟨s9,ao9,l9,c9,bo9,m9,d9,rfl,_,_,_⟩:=ha.opn
    obtain ⟨x9,y9,z9,hst,hput⟩:=(HG.out.ext Xa).stored (i:=i) (by rw [zerosTo_len]; exact hlt)
    obtain ⟨w7',h7,hgr,hO7⟩:=hput _ _ _ _ _ _ _ _ ha
    have f0:=hst.f0
    have c0:=hst.c0
    have f1:=hst.f1
    have c1:=hst.c1
    have f2:=hst.f2
    have c2:=hst.c2
    rw [show ((0:Int):Rat)=0 from rfl,zerosTo_set] at hO7
    have HGN:=Lib.hid hO7
    have HMN:=Lib.hid (HM6.out.kept (by omega) (HM.out.ext Xa) (by rw [HK7.out]; exact Nat.le_refl _) (HG.out.ext Xa).clean hgr)
    have XN:=Lib.hid ((X.trans Xa).grown hgr hK2)
    clear hst hput hO7 hgr ha hlt HG HM X Xa
    go_wp2_with fail
    go_roundw
    case rel => exact ⟨i + 1,by omega,by go_num,HGN,HMN,XN.out⟩
    case measure => simp [intOf] <;> omega
  · have hie:i=N:=by omega
    subst hie
    have hge:¬ (i:Int) < (i:Int):=by omega
    have HGE:=HG.out
    rw [zerosTo_all T p S] at HGE
    have HQ0:=Lib.hid HGE.full
    have HX0:=Lib.hid X
    clear hlt HG HGE X
    go_wp2_with fail
    refine (HLI.out _ (HX2.out.trans HX0.out)).mono ?_
    rintro e w8 ⟨u8,rfl,h8,X8⟩
    obtain ⟨lo,lc,rfl,_,hL⟩:=h8.open
    have hll:(intsN (endsL T)).length=(endsL T).length:=by unfold intsN; rw [List.length_map]
    rw [hll]
    have hel:(endsL T).length ≤ 120:=Nat.le_trans (endsK_le T T.length) hT2
    have HL8:=Lib.hid hL
    have HQ8:=Lib.hid (HQ0.out.ext X8)
    have HM8:=Lib.hid (HM.out.ext X8)
    have HX8:=Lib.hid (HX0.out.trans X8)
    clear h8 hL hll X8 HQ0 HX0 HM
    go_wp2_with fail
    go_loopw [49] (fun jv wr => ∃ (j:Nat),j ≤ (endsL T).length ∧ jv=.int .i64 j ∧ Hid (QsO wr K7 (.slice (some ⟨K7,0,none⟩) i i) ((List.range i).map (sumsJ T p S j))) ∧ Hid (BM T p S K4 G so i cs ao T.length ca go wr) ∧ Hid (CellsOf (Value.int .i64) wr lo (intsN (endsL T))) ∧ Ext W2 wr) (fun jv _ => (endsL T).length - (intOf jv).toNat)
    case atStart => exact ⟨0,Nat.zero_le _,rfl,HQ8,HM8,HL8,HX8.out⟩
    case round =>
     clear HQ8 HM8 HL8 HX8
     obtain ⟨j,hj,rfl,HQ,HM,HL,X⟩:=hrel
     obtain ⟨wq,rfl⟩:∃ wq:World,wq=wr:=⟨_,rfl⟩
     by_cases hlt:j < (endsL T).length
     · obtain ⟨k,q1,_,_⟩:=get_lt hlt
       obtain ⟨x,hx,hk0,hkT⟩:=end_at q1.out
       obtain ⟨lb,loff,rfl,l0⟩:=HL.out.at (i:=j) (x:=(k:Int)) (by show _=_; unfold intsN; rw [List.getElem?_map,q1.out]; rfl)
       have l0:wq.cell? ⟨lb,loff + j,none⟩=some (.int .i64 (k:Int)):=l0
       have hlb7:=HQ.out.apart l0
       obtain ⟨g,s5,ao5,l5,c5,bo5,m5,d5,rfl,e0,e1,e2,hq5⟩:=HM.out.rs k (oth T p S k) (range_get hkT)
       obtain ⟨nb,noff,no,nc,oo',oc',rfl,_,_,_,_,_,n5,_,_,_⟩:=(HN.out.ext (HX2.out.trans X)).at (show Hid (T[k]?=some x) from hx)
       have HQ5:=Lib.hid hq5
       have hjj:(j:Int) < ((endsL T).length:Int):=by omega
       have hkk:(k:Int) < (T.length:Int):=by omega
       have hok:=HPY.out k x hx hk0
       have rbq:=HOR.out k hkT
       have rbr:RB 2000 (ratOf x.pay):=ratOf_RB2k hok
       have hpn:payN T k=ratOf x.pay:=by unfold payN; rw [hx]
       have hsz:=(HZ.out x (List.mem_of_getElem? hx)).1
       have HEQ:Hid (endQ T p S k=if p=1 then -(oth T p S k * ratOf x.pay) else oth T p S k * ratOf x.pay):=by show _=_; unfold endQ; rw [hpn]
       have HST:=Lib.hid (sumsJ_set (p:=p) (S:=S) (N:=i) q1.out)
       have HB1:=Lib.hid ((HSZ.out.1 k x hx hk0).1)
       have HB2:=Lib.hid (HSZ.out.2.1 j (atN T p k))
       have hatN:=Nat.lt_of_lt_of_le (atN_lt HT.out HR.out hkT) (waysL_lens (T:=T) (p:=p) (show k ≤ T.length by omega))
       rw [← seqsL_len,HNN.out] at hatN
       have HAC:=Lib.hid (atL_get (p:=p) hkT)
       obtain ⟨yx,hyx⟩:∃ yx,x.pay=yx:=⟨_,rfl⟩
       rw [hyx] at n5 hok rbr HEQ hsz
       have HPA:=Lib.hid (fun W => parse_any yx W hok hsz)
       generalize ratOf yx=py at *
       generalize oth T p S k=rk at *
       have HML:=Lib.hid (fun (u v:Value) W hu hv => qMul_any u v rk py W hu hv (RB_QB rbq (by omega)) (RB_QB rbr (by omega)))
       have HOP:=Lib.hid (fun (u:Value) W hu => qOpp_any u (rk * py) W hu)
       have HADD:=Lib.hid (fun (u v:Value) W hu hv => qAdd_any u v (sumsJ T p S j (atN T p k)) (endQ T p S k) W hu hv (RB_QB HB2.out (by omega)) (RB_QB HB1.out (by omega)))
       generalize atN T p k=at0 at *
       clear hlt q1 hx hk0 hok rbq rbr hpn hq5 hyx hsz
       go_upto_region 13 with fail
       go_cut [15] from 53 to 63 (fun s15 wx => ∃ (K15:Nat) (s:Bool) (xo:Option Addr) (xl xc:Nat) (yo:Option Addr) (yl yc:Nat),s15=.pointer (some ⟨K15,0,none⟩) ∧ wq.heap.size ≤ K15 ∧ Hid (Acc wx K15 s xo xl xc yo yl yc (rk * py)) ∧ Ext wq wx)
       case first =>
        clear l0
        have n5a:=fun o => (((Ext.refl wq).alloc o).drew).cell n5
        have n5b:=fun o => (((Ext.refl wq).drew).alloc o).cell n5
        have n5c:=fun o => ((Ext.refl wq).alloc o).cell n5
        have e0a:=fun o => (((Ext.refl wq).alloc o).drew).cell e0
        have e0b:=fun o => (((Ext.refl wq).drew).alloc o).cell e0
        have e0c:=fun o => ((Ext.refl wq).alloc o).cell e0
        have e1a:=fun o => (((Ext.refl wq).alloc o).drew).cell e1
        have e1b:=fun o => (((Ext.refl wq).drew).alloc o).cell e1
        have e1c:=fun o => ((Ext.refl wq).alloc o).cell e1
        have e2a:=fun o => (((Ext.refl wq).alloc o).drew).cell e2
        have e2b:=fun o => (((Ext.refl wq).drew).alloc o).cell e2
        have e2c:=fun o => ((Ext.refl wq).alloc o).cell e2
        go_region_law (first
         | (go_simp; go_at_call 75; refine (HPA.out _).mono ?_; rintro e wp ⟨up,rfl,hp,Yp⟩; obtain ⟨s6,ao6,l6,c6,bo6,m6,d6,rfl,_,_,_⟩:=hp.opn; have Xp:Ext wq wp:=Ext.trans (by repeat' (first | with_reducible exact Ext.refl wq | with_reducible apply Ext.drew | with_reducible apply Ext.alloc)) Yp; have e0:=Xp.cell e0; have e1:=Xp.cell e1; have e2:=Xp.cell e2; have e0a:=fun o => ((Ext.refl wp).alloc o).cell e0; have e1a:=fun o => ((Ext.refl wp).alloc o).cell e1; have e2a:=fun o => ((Ext.refl wp).alloc o).cell e2; have HP:=Lib.hid hp; clear hp; (first | (have Yq:Ext wq.drew wp:=Yp; clear Yq) | (have Yq:Ext (wq.drew.alloc (.cells #[.bool false,.slice none 0 0,.slice none 0 0] 89)) wp:=Yp; have R1:=Lib.hid (own_ext (World.ownsRow_lit (base:=wq.drew.heap.size) (e:=89) (size:=3) wq.drew #[.bool false,.slice none 0 0,.slice none 0 0] 1 (Nat.le_refl _) (by unfold maxLen; omega) (by simp)) Yq); clear Yq) | (have Yq:Ext ((wq.alloc (.cells #[.bool false,.slice none 0 0,.slice none 0 0] 89)).drew) wp:=Yp; have R1:=Lib.hid (own_ext (own_ext (World.ownsRow_lit (base:=wq.heap.size) (e:=89) (size:=3) wq #[.bool false,.slice none 0 0,.slice none 0 0] 1 (Nat.le_refl _) (by unfold maxLen; omega) (by simp)) (Ext.refl _).drew) Yq); clear Yq)); (try (simp only [World.size_drew] at R1)))
         | (go_simp; go_at_call 74; refine (HML.out _ _ _ (by exact HQ5.out.ext (Xp.trans (by repeat' (first | with_reducible exact Ext.refl wp | with_reducible apply Ext.drew | with_reducible apply Ext.alloc)))) (by exact HP.out.ext (by repeat' (first | with_reducible exact Ext.refl wp | with_reducible apply Ext.drew | with_reducible apply Ext.alloc)))).mono ?_; rintro e wm ⟨um,rfl,hm,Ym⟩; obtain ⟨s8,ao8,l8,c8,bo8,m8,d8,rfl,_,_,_⟩:=hm.opn; have Xpm:Ext wp wm:=Ext.trans (by repeat' (first | with_reducible exact Ext.refl wp | with_reducible apply Ext.drew | with_reducible apply Ext.alloc)) Ym; have Xm:Ext wq wm:=Xp.trans Xpm; have HMM:=Lib.hid hm; (try (have R1:=Lib.hid (own_ext R1.out Xpm))); (first | (have Yq:Ext wp wm:=Ym; clear Yq) | (have Yq:Ext (wp.alloc (.cells #[.bool false,.slice none 0 0,.slice none 0 0] 89)) wm:=Ym; have R1:=Lib.hid (own_ext (World.ownsRow_lit (base:=wp.heap.size) (e:=89) (size:=3) wp #[.bool false,.slice none 0 0,.slice none 0 0] 1 (Nat.le_refl _) (by unfold maxLen; omega) (by simp)) Yq); clear Yq)); clear hm; (try (have T1:=st3 R1.out; have f0:=T1.f0; have c0:=T1.c0; have f1:=T1.f1; have c1:=T1.c1; have f2:=T1.f2; have c2:=T1.c2; obtain ⟨W7,h7,hgr,hA7⟩:=bx_put R1.out bx_zero HMM.out))))
        all_goals
         first
         | (have HA:=Lib.hid hA7
            have XA:=Xm.grown hgr (by have:=Xp.size; omega)
            clear h7
            go_wp2_with fail
            go_meet
            exact ⟨_,_,_,_,_,_,_,_,rfl,by have:=Xp.size; omega,HA,XA⟩)
         | (have HA:=Lib.hid (Acc.new HMM.out (O:=wm.heap.size) rfl)
            have XA:=Xm.alloc (.cells #[.bool s8,.slice ao8 l8 c8,.slice bo8 m8 d8] 89)
            go_wp2_with fail
            go_meet
            exact ⟨_,_,_,_,_,_,_,_,rfl,Xm.size,HA,XA⟩)
       case rest =>
       obtain ⟨K15,s5',xo,xl,xc,yo,yl,yc,rfl,hK15,HA,XA⟩:=hcut
       have c4:=XA.cell HM.out.c4
       have HMA:=Lib.hid (HM.out.ext XA)
       have HQA:=Lib.hid (HQ.out.ext XA)
       have HLA:=Lib.hid (HL.out.ext XA)
       have HXA:=Lib.hid (X.trans XA)
       obtain ⟨bq,hbq⟩:∃ bq,(p == 1)=bq:=⟨_,rfl⟩
       have hbd:decide (p=1)=bq:=by rw [← hbq,Bool.eq_iff_iff]; simp
       have HBQ:=Lib.hid hbq
       have hK27:W2.heap.size ≤ K15:=Nat.le_trans X.size hK15
       have hK67:w6.heap.size ≤ K15 ∧ K7 < K15:=by
        obtain ⟨g9,cap9,e9,_,h9⟩:=HQ.out.head (by rw [List.length_map,List.length_range]; omega)
        simp only [Value.slice.injEq,Option.some.injEq,Addr.mk.injEq,and_true] at e9
        have:=HK7.out
        omega
       obtain ⟨hK67,hK7s⟩:=hK67
       have hlK:lb < K15:=by
        have:=World.block_lt_of_cell? wq _ l0
        have:lb < wq.heap.size:=this
        omega
       clear l0 e0 e1 e2 n5 HM HQ HL X XA
       go_upto_if 65 with fail
       go_cut [15] from 66 to 67 (fun s15 wx => ∃ (s:Bool) (xo:Option Addr) (xl xc:Nat) (yo:Option Addr) (yl yc:Nat),s15=.pointer (some ⟨K15,0,none⟩) ∧ Hid (Acc wx K15 s xo xl xc yo yl yc (endQ T p S k)) ∧ Hid (QsO wx K7 (.slice (some ⟨K7,0,none⟩) i i) ((List.range i).map (sumsJ T p S j))) ∧ Hid (BM T p S K4 G so i cs ao T.length ca (some ⟨g,0,none⟩) wx) ∧ Hid (CellsOf (Value.int .i64) wx (some ⟨lb,loff,none⟩) (intsN (endsL T))) ∧ Ext W2 wx)
       case first =>
        clear hbq hbd c4
        cases bq
        · have hp1:¬ p=1:=by have:=HBQ.out; simpa using this
          have HE:=HEQ.out
          rw [if_neg hp1] at HE
          rw [← HE] at HA
          clear hp1 HE
          go_wp2_with fail
          go_meet
          exact ⟨_,_,_,_,_,_,_,rfl,HA,HQA,HMA,HLA,HXA.out⟩
        · have hp1:p=1:=by have:=HBQ.out; simpa using this
          have HE:=HEQ.out
          rw [if_pos hp1] at HE
          have k0:=HA.out.c0
          have k1:=HA.out.c1
          have k2:=HA.out.c2
          clear hp1
          go_wp2_with fail
          refine (HOP.out _ _ HA.out.val).mono ?_
          rintro e wo ⟨uo,rfl,ho,Xo⟩
          rw [← HE] at ho
          obtain ⟨s6,ao6,l6,c6,bo6,m6,d6,rfl,_,_,_⟩:=ho.opn
          have HA2:=Lib.hid (HA.out.ext Xo)
          obtain ⟨w7,h7,hgr,hput⟩:=bx_put HA2.out.row (by intro y hy d; simp at hy; rcases hy with rfl | rfl | rfl <;> simp [encD]) ho
          have HCL:=HA2.out.clean
          have HP7:=Lib.hid hput
          have HQ7:=Lib.hid (QsO.kept (v:=.slice (some ⟨K15,0,none⟩) 1 1) HCL hgr (HQA.out.ext Xo) (.inr (fun e => by
           simp only [Value.ownBlock,Option.some.injEq] at e
           omega)))
          have HM7:=Lib.hid (HM6.out.kept (by omega) (HMA.out.ext Xo) hK67 HCL hgr)
          have HL7:=Lib.hid (ints_kept (HLA.out.ext Xo) hgr (fun b off e => by
           simp only [Option.some.injEq,Addr.mk.injEq,and_true] at e
           intro e2
           simp only [Option.some.injEq] at e2
           omega))
          have HX7:=Lib.hid ((HXA.out.trans Xo).grown hgr hK27)
          have T:=st3 HA2.out.row
          have f0:=T.f0
          have c0:=T.c0
          have f1:=T.f1
          have c1:=T.c1
          have f2:=T.f2
          have c2:=T.c2
          clear ho HCL hput hgr T HE k0 k1 k2 Xo
          go_wp2_with fail
          go_meet
          exact ⟨_,_,_,_,_,_,_,rfl,HP7,HQ7,HM7,HL7,HX7.out⟩
       case rest =>
       obtain ⟨s5,xo,xl,xc,yo,yl,yc,rfl,HA,HQ,HM,HL,X⟩:=hcut
       clear hbq hbd c4 HQA HMA HLA HXA HOP HML HPA
       rename World => wx
       have g1:=HM.out.g1
       obtain ⟨ab,aoff,rfl,a0⟩:=HM.out.at'.at HAC
       have a0:wx.cell? ⟨ab,aoff + k,none⟩=some (.int .i64 ((at0:Nat):Int)):=a0
       obtain ⟨gk,s7,ao7,l7,c7,bo7,m7,d7,hgk,e0,e1,e2,hq7⟩:=(HQ.out.cells (by rw [List.length_map,List.length_range]; omega)) at0 (sumsJ T p S j at0) (range_get hatN)
       simp only [Option.some.injEq,Addr.mk.injEq,and_true] at hgk
       subst hgk
       have HQ7:=Lib.hid hq7
       have k0:=HA.out.c0
       have k1:=HA.out.c1
       have k2:=HA.out.c2
       have hai:((at0:Nat):Int) < (i:Int):=by omega
       have hk00:(0:Int) ≤ (k:Int):=by omega
       have ha00:(0:Int) ≤ ((at0:Nat):Int):=by omega
       clear hq7
       go_wp2_with fail
       refine wp_region_noPanic ?_
       refine wp_region_last (S:=(fun W9 => W9.cell? ⟨G,1,none⟩=some (.slice (some ⟨ab,aoff,none⟩) T.length ca) ∧ W9.cell? ⟨ab,aoff + k,none⟩=some (.int .i64 ((at0:Nat):Int)) ∧ W9.cell? ⟨K15,0,none⟩=some (.bool s5) ∧ W9.cell? ⟨K15,1,none⟩=some (.slice xo xl xc) ∧ W9.cell? ⟨K15,2,none⟩=some (.slice yo yl yc) ∧ W9.cell? ⟨K7,at0 * 3,none⟩=some (.bool s7) ∧ W9.cell? ⟨K7,at0 * 3 + 1,none⟩=some (.slice ao7 l7 c7) ∧ W9.cell? ⟨K7,at0 * 3 + 2,none⟩=some (.slice bo7 m7 d7))) 21 (by kernel_rfl) (by simp only [setLast,stand]; rfl) (by kernel_rfl) rfl (by kernel_rfl) (by kernel_rfl) (by kernel_rfl) rfl rfl ⟨((Ext.refl wx).drew).cell g1,((Ext.refl wx).drew).cell a0,((Ext.refl wx).drew).cell k0,((Ext.refl wx).drew).cell k1,((Ext.refl wx).drew).cell k2,((Ext.refl wx).drew).cell e0,((Ext.refl wx).drew).cell e1,((Ext.refl wx).drew).cell e2⟩ (fun hH0 => ?_)
       refine wpAnyH_take (i:=0) (v:=?v0TT) rfl (by kernel_rfl) (by kernel_rfl) (by kernel_rfl) (fun _ _ _ h => h) (Or.inl ⟨by rfl,?hy0TT⟩) (by assumption) ?r0TT
       case hy0TT => (intro w9 hSw; (try dsimp only at hSw); go_simp; try with_reducible rfl)
       try simp only [Act.put,List.setIfInBounds_toArray,List.set_cons_zero,List.set_cons_succ]
       refine wpAnyH_take (i:=1) (v:=?v1TT) rfl (by kernel_rfl) (by kernel_rfl) (by kernel_rfl) (fun _ _ _ h => h) (Or.inl ⟨by rfl,?hy1TT⟩) (by assumption) ?r1TT
       case hy1TT => (intro w9 hSw; (try dsimp only at hSw); go_simp; try with_reducible rfl)
       try simp only [Act.put,List.setIfInBounds_toArray,List.set_cons_zero,List.set_cons_succ]
       refine wpAnyH_take (i:=2) (v:=?v2TT) rfl (by kernel_rfl) (by kernel_rfl) (by kernel_rfl) (fun _ _ _ h => h) (Or.inl ⟨by rfl,?hy2TT⟩) (by assumption) ?r2TT
       case hy2TT => (intro w9 hSw; (try dsimp only at hSw); go_simp; try with_reducible rfl)
       try simp only [Act.put,List.setIfInBounds_toArray,List.set_cons_zero,List.set_cons_succ]
       refine wpAnyH_take (i:=3) (v:=?v3TT) rfl (by kernel_rfl) (by kernel_rfl) (by kernel_rfl) (fun _ _ _ h => h) (Or.inl ⟨by rfl,?hy3TT⟩) (by assumption) ?r3TT
       case hy3TT => (intro w9 hSw; (try dsimp only at hSw); go_simp; try with_reducible rfl)
       try simp only [Act.put,List.setIfInBounds_toArray,List.set_cons_zero,List.set_cons_succ]
       refine wpAnyH_take (i:=4) (v:=?v4TT) rfl (by kernel_rfl) (by kernel_rfl) (by kernel_rfl) (fun _ _ _ h => h) (Or.inl ⟨by rfl,?hy4TT⟩) (by assumption) ?r4TT
       case hy4TT => (intro w9 hSw; (try dsimp only at hSw); go_simp; try with_reducible rfl)
       try simp only [Act.put,List.setIfInBounds_toArray,List.set_cons_zero,List.set_cons_succ]
       refine wpAnyH_take (i:=5) (v:=?v5TT) rfl (by kernel_rfl) (by kernel_rfl) (by kernel_rfl) (fun _ _ _ h => h) (Or.inl ⟨by rfl,?hy5TT⟩) (by assumption) ?r5TT
       case hy5TT => (intro w9 hSw; (try dsimp only at hSw); go_simp; try with_reducible rfl)
       try simp only [Act.put,List.setIfInBounds_toArray,List.set_cons_zero,List.set_cons_succ]
       refine wpAnyH_take (i:=6) (v:=?v6TT) rfl (by kernel_rfl) (by kernel_rfl) (by kernel_rfl) (fun _ _ _ h => h) (Or.inl ⟨by rfl,?hy6TT⟩) (by assumption) ?r6TT
       case hy6TT => (intro w9 hSw; (try dsimp only at hSw); go_simp; try with_reducible rfl)
       try simp only [Act.put,List.setIfInBounds_toArray,List.set_cons_zero,List.set_cons_succ]
       refine wpAnyH_take (i:=7) (v:=?v7TT) rfl (by kernel_rfl) (by kernel_rfl) (by kernel_rfl) (fun _ _ _ h => h) (Or.inl ⟨by rfl,?hy7TT⟩) (by assumption) ?r7TT
       case hy7TT => (intro w9 hSw; (try dsimp only at hSw); go_simp; try with_reducible rfl)
       try simp only [Act.put,List.setIfInBounds_toArray,List.set_cons_zero,List.set_cons_succ]
       refine wpAnyH_take (i:=8) (v:=?v8TT) rfl (by kernel_rfl) (by kernel_rfl) (by kernel_rfl) (fun _ _ _ h => h) (Or.inl ⟨by rfl,?hy8TT⟩) (by assumption) ?r8TT
       case hy8TT => (intro w9 hSw; (try dsimp only at hSw); go_simp; try with_reducible rfl)
       try simp only [Act.put,List.setIfInBounds_toArray,List.set_cons_zero,List.set_cons_succ]
       refine wpAnyH_take (i:=9) (v:=?v9TT) rfl (by kernel_rfl) (by kernel_rfl) (by kernel_rfl) (fun _ _ _ h => h) (Or.inl ⟨by rfl,?hy9TT⟩) (by assumption) ?r9TT
       case hy9TT => (intro w9 hSw; (try dsimp only at hSw); go_simp; try with_reducible rfl)
       try simp only [Act.put,List.setIfInBounds_toArray,List.set_cons_zero,List.set_cons_succ]
       refine wpAnyH_take (i:=10) (v:=?v10TT) rfl (by kernel_rfl) (by kernel_rfl) (by kernel_rfl) (fun _ _ _ h => h) (Or.inl ⟨by rfl,?hy10TT⟩) (by assumption) ?r10TT
       case hy10TT => (intro w9 hSw; (try dsimp only at hSw); go_simp; try with_reducible rfl)
       try simp only [Act.put,List.setIfInBounds_toArray,List.set_cons_zero,List.set_cons_succ]
       refine wpAnyH_take (i:=11) (v:=?v11TT) rfl (by kernel_rfl) (by kernel_rfl) (by kernel_rfl) (fun _ _ _ h => h) (Or.inl ⟨by rfl,?hy11TT⟩) (by assumption) ?r11TT
       case hy11TT => (intro w9 hSw; (try dsimp only at hSw); go_simp; try with_reducible rfl)
       try simp only [Act.put,List.setIfInBounds_toArray,List.set_cons_zero,List.set_cons_succ]
       refine wpAnyH_take (i:=12) (v:=?v12TT) rfl (by kernel_rfl) (by kernel_rfl) (by kernel_rfl) (fun _ _ _ h => h) (Or.inl ⟨by rfl,?hy12TT⟩) (by assumption) ?r12TT
       case hy12TT => (intro w9 hSw; (try dsimp only at hSw); go_simp; try with_reducible rfl)
       try simp only [Act.put,List.setIfInBounds_toArray,List.set_cons_zero,List.set_cons_succ]
       refine wpAnyH_take (i:=13) (v:=?v13TT) rfl (by kernel_rfl) (by kernel_rfl) (by kernel_rfl) (fun _ _ _ h => h) (Or.inl ⟨by rfl,?hy13TT⟩) (by assumption) ?r13TT
       case hy13TT => (intro w9 hSw; (try dsimp only at hSw); go_simp; try with_reducible rfl)
       try simp only [Act.put,List.setIfInBounds_toArray,List.set_cons_zero,List.set_cons_succ]
       refine wpAnyH_take (i:=14) (v:=?v14TT) rfl (by kernel_rfl) (by kernel_rfl) (by kernel_rfl) (fun _ _ _ h => h) (Or.inl ⟨by rfl,?hy14TT⟩) (by assumption) ?r14TT
       case hy14TT => (intro w9 hSw; (try dsimp only at hSw); go_simp; try with_reducible rfl)
       try simp only [Act.put,List.setIfInBounds_toArray,List.set_cons_zero,List.set_cons_succ]
       refine wpAnyH_take (i:=15) (v:=?v15TT) rfl (by kernel_rfl) (by kernel_rfl) (by kernel_rfl) (fun _ _ _ h => h) (Or.inl ⟨by rfl,?hy15TT⟩) (by assumption) ?r15TT
       case hy15TT => (intro w9 hSw; (try dsimp only at hSw); go_simp; try with_reducible rfl)
       try simp only [Act.put,List.setIfInBounds_toArray,List.set_cons_zero,List.set_cons_succ]
       refine wpAnyH_take (i:=16) (v:=?v16TT) rfl (by kernel_rfl) (by kernel_rfl) (by kernel_rfl) (fun _ _ _ h => h) (Or.inl ⟨by rfl,?hy16TT⟩) (by assumption) ?r16TT
       case hy16TT => (intro w9 hSw; (try dsimp only at hSw); go_simp; try with_reducible rfl)
       try simp only [Act.put,List.setIfInBounds_toArray,List.set_cons_zero,List.set_cons_succ]
       refine wpAnyH_take (i:=17) (v:=?v17TT) rfl (by kernel_rfl) (by kernel_rfl) (by kernel_rfl) (fun _ _ _ h => h) (Or.inl ⟨by rfl,?hy17TT⟩) (by assumption) ?r17TT
       case hy17TT => (intro w9 hSw; (try dsimp only at hSw); go_simp; try with_reducible rfl)
       try simp only [Act.put,List.setIfInBounds_toArray,List.set_cons_zero,List.set_cons_succ]
       refine wpAnyH_take (i:=18) (v:=?v18TT) rfl (by kernel_rfl) (by kernel_rfl) (by kernel_rfl) (fun _ _ _ h => h) (Or.inl ⟨by rfl,?hy18TT⟩) (by assumption) ?r18TT
       case hy18TT => (intro w9 hSw; (try dsimp only at hSw); go_simp; try with_reducible rfl)
       try simp only [Act.put,List.setIfInBounds_toArray,List.set_cons_zero,List.set_cons_succ]
       refine wpAnyH_ready (rs:=[19]) (by kernel_rfl) (by simp) ?_
       refine AllReadyH.cons rfl (fun K9 hK => ?_) AllReadyH.nil
       go_simp
       go_at_call 73; refine (HADD.out _ _ _ (by exact HQ7.out.ext ((Ext.refl wx).drew)) (by exact HA.out.val.ext ((Ext.refl wx).drew))).mono ?_; rintro e wa ⟨ua,rfl,ha,Ya⟩; obtain ⟨s9,ao9,l9,c9,bo9,m9,d9,rfl,_,_,_⟩:=ha.opn; have Xa:Ext wx wa:=(Ext.refl wx).drew.trans Ya; have HQa:=Lib.hid (HQ.out.ext Xa); obtain ⟨x3,y3,z3,hst,hput⟩:=HQa.out.stored (i:=at0) (by rw [List.length_map,List.length_range]; exact hatN); have HPUT:=Lib.hid hput; have f0:=hst.f0; have c0:=hst.c0; have f1:=hst.f1; have c1:=hst.c1; have f2:=hst.f2; have c2:=hst.c2; have z0:=Xa.cell e0; have z1:=Xa.cell e1; have z2:=Xa.cell e2; have HV:=Lib.hid ha; clear ha hst hput
       refine hK.out _ _ (by (try dsimp only); exact ⟨Xa.cell g1,Xa.cell a0,Xa.cell k0,Xa.cell k1,Xa.cell k2,Xa.cell e0,Xa.cell e1,Xa.cell e2⟩) (fun hH1 => ?_)
       clear hK K9 hH0
       try simp only [Act.put,List.setIfInBounds_toArray,List.set_cons_zero,List.set_cons_succ]
       refine wpAnyH_take (i:=20) (v:=?v20TT) rfl (by kernel_rfl) (by kernel_rfl) (by kernel_rfl) (fun _ _ _ h => h) (Or.inl ⟨by rfl,?hy20TT⟩) (by assumption) ?r20TT
       case hy20TT => (intro w9 hSw; (try dsimp only at hSw); go_simp; try with_reducible rfl)
       try simp only [Act.put,List.setIfInBounds_toArray,List.set_cons_zero,List.set_cons_succ]
       refine wpAnyH_take (i:=21) (v:=?v21TT) rfl (by kernel_rfl) (by kernel_rfl) (by kernel_rfl) (fun _ _ _ h => h) (Or.inl ⟨by rfl,?hy21TT⟩) (by assumption) ?r21TT
       case hy21TT => (intro w9 hSw; (try dsimp only at hSw); go_simp; try with_reducible rfl)
       try simp only [Act.put,List.setIfInBounds_toArray,List.set_cons_zero,List.set_cons_succ]
       refine wpAnyH_done (by kernel_rfl) ?_ _
       show Oper.wp _ _ _ _ _ _
       go_simp
       refine NoPanic.normal ?_
       all_goals
        obtain ⟨w8,h8,hgr,hO8⟩:=HPUT.out _ _ _ _ _ _ _ _ HV.out
        have HCL:=HQa.out.clean
        rw [HST.out] at hO8
        have HQ8:=Lib.hid hO8
        have HM8:=Lib.hid (HM6.out.kept (by omega) (HM.out.ext Xa) (by rw [HK7.out]; exact Nat.le_refl _) HCL hgr)
        have HL8:=Lib.hid (ints_kept (HL.out.ext Xa) hgr (fun b off e => by
         simp only [Option.some.injEq,Addr.mk.injEq,and_true] at e
         intro e2
         simp only [Option.some.injEq] at e2
         exact hlb7 (by omega)))
        have HX8:=Lib.hid ((X.trans Xa).grown hgr hK2)
        rw [h8]
        clear f0 c0 f1 c1 f2 c2 k0 k1 k2 e0 e1 e2 a0 g1 HCL hO8 hgr h8 HPUT X
        go_wp2_with fail
        go_roundw
        case rel => exact ⟨j + 1,by omega,by go_num,HQ8,HM8,HL8,HX8.out⟩
        case measure => simp [intOf] <;> omega
     · have hje:j=(endsL T).length:=by omega
       have HQG:=HQ.out
       rw [sumsJ_all (by omega)] at HQG
       have HSH:=Lib.hid HSZ.out.2.2
       obtain ⟨gs,hgs⟩:∃ gs,sumsG T p S T.length=gs:=⟨_,rfl⟩
       have HGS:=Lib.hid hgs
       rw [hgs] at HQG HSH
       have hge:¬ (j:Int) < ((endsL T).length:Int):=by omega
       obtain ⟨Km,hKm⟩:∃ Km,wq.heap.size=Km:=⟨_,rfl⟩
       obtain ⟨W9,hW9⟩:∃ W9,wq.alloc (.map #[] 0)=W9:=⟨_,rfl⟩
       have X9:Ext wq W9:=by rw [← hW9]; exact (Ext.refl wq).alloc _
       have HMP:Hid (MapG Tryz.prog 3 (Value.int .i64) (fun i:Int => (Lit.int .i64 i).wf=true) W9 Km 0 (fun _ => none)):=by show MapG _ _ _ _ _ _ _ _; rw [← hW9,← hKm]; exact MapG.made wq
       have HQ9:=Lib.hid (HQG.ext X9)
       have HM9:=Lib.hid (HM.out.ext X9)
       have HX9:=Lib.hid (X.trans X9)
       have hmm:=@run_makeMap Tryz.prog
       have g0:=HM9.out.g0
       have hKm7:K7 ≠ Km:=by
        obtain ⟨g9,cap9,e9,_,h9⟩:=HQ.out.head (by rw [List.length_map,List.length_range]; omega)
        simp only [Value.slice.injEq,Option.some.injEq,Addr.mk.injEq,and_true] at e9
        omega
       have hKm2:W2.heap.size ≤ Km:=by rw [← hKm]; exact X.size
       clear hlt hje HQG hgs HQ HM HL X X9 HLI HSZ HOR HPY HZ HN
       go_wp2_with fail
       clear hmm hW9 hKm g0
       go_loopw [17] (fun ev wr => ∃ (d E:Nat) (f:Int → Option Value),d ≤ T.length ∧ ev=.int .i64 (E:Int) ∧ Hid ((waysL T p (T.length - d)).length=E) ∧ Hid (QsO wr K7 (.slice (some ⟨K7,0,none⟩) i i) ((List.range i).map (hsL T p gs d))) ∧ Hid (BM T p S K4 G so i cs ao T.length ca go wr) ∧ Hid (MapG Tryz.prog 3 (Value.int .i64) (fun i:Int => (Lit.int .i64 i).wf=true) wr Km d f) ∧ Hid (Cho T p gs E f) ∧ Ext W2 wr) (fun ev _ => (intOf ev).toNat)
       case atStart =>
        have hwi:(waysL T p T.length).length=i:=by rw [← seqsL_len,HNN.out]
        exact ⟨0,i,fun _ => none,Nat.zero_le _,rfl,by show _=_; rw [Nat.sub_zero]; exact hwi,HQ9,HM9,HMP,by show Cho _ _ _ _ _; rw [← hwi]; exact Cho.start HT.out _ _ _,HX9.out⟩
       case round =>
        clear HQ9 HM9 HX9 HMP
        obtain ⟨d,E,f,hd,rfl,HE,HQ,HM,HMP,HCH,X⟩:=hrel
        obtain ⟨wq,rfl⟩:∃ wq:World,wq=wr:=⟨_,rfl⟩
        by_cases hlt:1 < E
        · have hEi:E ≤ i:=by
           have h1:=HE.out
           rw [← h1,← HNN.out,seqsL_len]
           exact waysL_lens (by omega)
          obtain ⟨e,x,st,bf,hb⟩:=next_blk HT.out HR.out gs hd (by rw [HE.out]; exact hlt)
          have hen:=hb.en
          rw [HE.out] at hen
          have hn0:=hb.n0
          have hn6:=hb.n6
          have hst1:=hb.s1
          have hbf:=hb.bl
          have hinf:=hb.inf
          obtain ⟨E1,hE1⟩:∃ E1,E=E1 + 1:=⟨E - 1,by omega⟩
          obtain ⟨c1,hc1⟩:∃ c1,x.next.length=c1 + 1:=⟨x.next.length - 1,by omega⟩
          have hs1:=hb.sq c1 (by omega)
          rw [show st + c1=E1 by omega] at hs1
          obtain ⟨sb,soff,rfl,q0,q1,q2⟩:=HM.out.sq.at (Lib.hid hs1)
          have HSQ:=Lib.hid hb.sq
          have HBK:=Lib.hid hb
          have b1:(1:Int) < (E:Int):=by omega
          have b2:(E1:Int) < (i:Int):=by omega
          have w1:IntKind.i64.wrap ((E:Int) - 1)=(E1:Int):=by rw [IntKind.wrap_i64]; omega
          have w2:(E:Int) - 1=(E1:Int):=by omega
          have w3:IntKind.i64.wrap ((E1:Int) - (c1:Int))=(st:Int):=by rw [IntKind.wrap_i64]; omega
          have w4:(E1:Int) - (c1:Int)=(st:Int):=by omega
          have HEN:Hid (E=st + (c1 + 1)):=by show _=_; omega
          have hEn:E ≤ 721:=by omega
          have hsE:st < E:=by omega
          have g0:=HM.out.g0
          clear hs1 hb hlt hE1 hen hc1 hn0 q0 q2
          dsimp only at q1
          go_wp2_with fail
          clear q1 w1 w2 w3 w4
          have HH:=Lib.hid (fun s => HSH.out d s hd)
          obtain ⟨h,hh⟩:∃ h,hsL T p gs d=h:=⟨_,rfl⟩
          have HHD:=Lib.hid hh
          rw [hh] at HQ HH
          clear hh
          go_loopw [19,20] (fun bv iv wr => ∃ (b m:Nat),st ≤ m ∧ m ≤ E ∧ iv=.int .i64 (m:Int) ∧ bv=.int .i64 (b:Int) ∧ Hid (b=st + maxAt h st (m - st - 1)) ∧ st ≤ b ∧ b < E ∧ Ext wq wr) (fun _ iv _ => E - (intOf iv).toNat)
          case atStart => exact ⟨st,st,Nat.le_refl _,Nat.le_of_lt hsE,rfl,rfl,by show _=_; rw [show st - st - 1=0 by omega]; rfl,Nat.le_refl _,hsE,Ext.refl _⟩
          case round =>
           obtain ⟨b,m,hm1,hm2,rfl,rfl,HB,hb1,hb2,X4⟩:=hrel
           by_cases hlt:m < E
           · have HC:=(HQ.out.ext X4).cells (by rw [List.length_map,List.length_range]; omega)
             obtain ⟨g5,s5,ao5,l5,c5,bo5,m5,c6,hg5,e0,e1,e2,hqq⟩:=HC m (h m) (range_get (by omega))
             obtain ⟨g6,s7,ao7,l7,c7,bo7,m7,c8,hg6,y0,y1,y2,hqb⟩:=HC b (h b) (range_get (by omega))
             simp only [Option.some.injEq,Addr.mk.injEq,and_true] at hg5 hg6
             subst hg5
             subst hg6
             have HCM:=Lib.hid (fun (x y:Value) W hx hy => qCmp_any x y (h m) (h b) W hx hy (RB_QB (HH.out m) (by omega)) (RB_QB (HH.out b) (by omega)))
             rw [show ((h m).num * ((h b).den:Int) - (h b).num * ((h m).den:Int)).sign=cmpQ (h m) (h b) from rfl] at HCM
             have HNX:=Lib.hid (maxAt_next (f:=h) (st:=st) (i:=m) hm1)
             have hzz:=cmpQ_gt (h m) (h b)
             obtain ⟨zb1,zb2⟩:=cmpQ_bd (h m) (h b)
             have HZZ:=Lib.hid hzz
             obtain ⟨z,hz⟩:∃ z,cmpQ (h m) (h b)=z:=⟨_,rfl⟩
             rw [hz] at HCM HZZ zb1 zb2
             have bm:(m:Int) < (E:Int):=by omega
             have bmi:(m:Int) < (i:Int):=by omega
             have bbi:(b:Int) < (i:Int):=by omega
             have bb0:(0:Int) ≤ (b:Int):=by omega
             have bm0:(0:Int) ≤ (m:Int):=by omega
             have HQ5:=Lib.hid hqq
             have HQ7:=Lib.hid hqb
             clear hqq hqb hlt HC hzz hz
             go_wp2_with fail
             go_region_held3 (fun w' => w'.cell? ⟨K7,m * 3,none⟩=some (.bool s5) ∧ w'.cell? ⟨K7,m * 3 + 1,none⟩=some (.slice ao5 l5 c5) ∧ w'.cell? ⟨K7,m * 3 + 2,none⟩=some (.slice bo5 m5 c6) ∧ w'.cell? ⟨K7,b * 3,none⟩=some (.bool s7) ∧ w'.cell? ⟨K7,b * 3 + 1,none⟩=some (.slice ao7 l7 c7) ∧ w'.cell? ⟨K7,b * 3 + 2,none⟩=some (.slice bo7 m7 c8))
              (first | exact ⟨e0,e1,e2,y0,y1,y2⟩ | exact ⟨X5.cell e0,X5.cell e1,X5.cell e2,X5.cell y0,X5.cell y1,X5.cell y2⟩ | go_keep)
              ((go_at_call 108; refine (HCM.out _ _ _ (by exact HQ5.out.ext (Ext.refl _).drew) (by exact HQ7.out.ext (Ext.refl _).drew)).mono ?_; rintro e w5 ⟨rfl,Y5⟩; have X5:=Ext.trans ((Ext.refl _).drew) Y5))
             all_goals
              have XN:=X4.trans X5
              clear e0 e1 e2 y0 y1 y2
              by_cases hz:0 < z
              · have hlt2:=HZZ.out.1 hz
                have hnx:=HNX.out
                rw [← HB.out,if_pos hlt2] at hnx
                have HBN:=Lib.hid hnx
                clear hlt2 hnx
                go_wp2_with fail
                go_roundw
                case rel => exact ⟨m,m + 1,by omega,by omega,by go_num,rfl,HBN,hm1,by omega,XN⟩
                case measure => simp [intOf] <;> omega
              · have hlt2:¬ h b < h m:=fun e => hz (HZZ.out.2 e)
                have hnx:=HNX.out
                rw [← HB.out,if_neg hlt2] at hnx
                have HBN:=Lib.hid hnx
                have hz2:z ≤ 0:=by omega
                clear hlt2 hnx
                go_wp2_with fail
                go_roundw
                case rel => exact ⟨b,m + 1,by omega,by omega,by go_num,rfl,HBN,hb1,hb2,XN⟩
                case measure => simp [intOf] <;> omega
           · have hme:m=E:=by omega
             subst hme
             have hge2:¬ (m:Int) < (m:Int):=by omega
             obtain ⟨wz,rfl⟩:∃ wz:World,wz=wr:=⟨_,rfl⟩
             have hbb:=HB.out
             rw [show m - st - 1=x.next.length - 1 by have h1:=HEN.out; have h2:=HBK.out.en; rw [HE.out] at h2; omega] at hbb
             obtain ⟨cb,hcb⟩:∃ cb,b=st + cb:=⟨b - st,by omega⟩
             have hcm:cb=maxAt h st (x.next.length - 1):=by omega
             have hsq:=HSQ.out cb (by have:=maxAt_le h st (x.next.length - 1); have:=HBK.out.n0; omega)
             rw [← hcb] at hsq
             have hnm:=(HM.out.ext X4)
             obtain ⟨sb2,soff2,hsb,q0,q1,q2⟩:=hnm.sq.at (Lib.hid hsq)
             simp only [Option.some.injEq,Addr.mk.injEq,and_true] at hsb
             obtain ⟨rfl,rfl⟩:=hsb
             dsimp only at q0 q1 q2
             have g0:=hnm.g0
             have hbest:=HBK.out.best
             rw [HHD.out,← hcm] at hbest
             have HCN:=Lib.hid (HBK.out.cho f (by rw [HE.out]; exact HCH.out))
             rw [hbest] at HCN
             have HSET:=Lib.hid (HBK.out.set i)
             rw [HHD.out,← hcm,← hcb] at HSET
             have HWS:=Lib.hid HBK.out.ws
             have hle:=HBK.out.le
             have hde:=HBK.out.de
             have hbf2:=HBK.out.bl
             have hdm:(Lit.int .i64 x.info).wf=true:=wf_small (by omega) (by omega)
             have HD1:=Lib.hid (HH.out bf)
             have HD2:=Lib.hid (HH.out b)
             have HADD:=Lib.hid (fun (u v:Value) W hu hv => qAdd_any u v (h bf) (h b) W hu hv (RB_QB HD1.out (by omega)) (RB_QB HD2.out (by omega)))
             obtain ⟨K21,hK21⟩:∃ K21,wz.heap.size=K21:=⟨_,rfl⟩
             obtain ⟨xi,hxi⟩:∃ xi,x.info=xi:=⟨_,rfl⟩
             rw [hxi] at q0 HCN hdm
             obtain ⟨W6,hW6⟩:∃ W6,wz.alloc (.cells #[.int .i64 xi,.int .i64 (cb:Int),.int .i64 (bf:Int)] 155)=W6:=⟨_,rfl⟩
             have X6:Ext wz W6:=by rw [← hW6]; exact (Ext.refl wz).alloc _
             have t0:W6.cell? ⟨K21,0,none⟩=some (.int .i64 xi):=by rw [← hW6,← hK21]; simp [go_sem]
             have t1:W6.cell? ⟨K21,1,none⟩=some (.int .i64 (cb:Int)):=by rw [← hW6,← hK21]; simp [go_sem]
             have t2:W6.cell? ⟨K21,2,none⟩=some (.int .i64 (bf:Int)):=by rw [← hW6,← hK21]; simp [go_sem]
             have him:d < maxLen:=by unfold maxLen; omega
             have HMP6:=Lib.hid (HMP.out.ext (X4.trans X6))
             obtain ⟨W3,hput,hm3,hg3⟩:=HMP6.out.set (keyE_int Tryz.underlying3) Tryz.underlying103 him (i:=xi) hdm (.int .i64 (cb:Int))
             have HKP:=Lib.hid (HMP6.out.keeps hg3)
             have HM3:=Lib.hid ((hnm.ext X6).keeps HKP.out)
             have HQ3:=Lib.hid (((HQ.out.ext X4).ext X6).keeps hg3 HKP.out (by intro e; simp only [Value.ownBlock,Option.some.injEq] at e; exact hKm7 e))
             have HMP3:=Lib.hid hm3
             have HX3:=Lib.hid (((X.trans X4).trans X6).grown hg3 hKm2)
             have u2:W3.cell? ⟨K21,2,none⟩=some (.int .i64 (bf:Int)):=HKP.out _ _ t2
             have bbi:(b:Int) < (i:Int):=by omega
             have bb0:(0:Int) ≤ (b:Int):=by omega
             have bfi:(bf:Int) < (i:Int):=by omega
             have bf0:(0:Int) ≤ (bf:Int):=by omega
             clear hbb hcb hcm hsq hnm hbest hxi hm3 hg3 X6 t2 HMP6 HMP HQ HM HKP hinf X X4
             go_wp2_with fail
             clear q0 q1 q2 t0 t1 hput hW6 hK21 g0
             have HC:=HQ3.out.cells (by rw [List.length_map,List.length_range]; omega)
             obtain ⟨g5,s5,ao5,l5,c5,bo5,m5,c6,hg5,e0,e1,e2,hqq⟩:=HC bf (h bf) (range_get (by omega))
             obtain ⟨g6,s7,ao7,l7,c7,bo7,m7,c8,hg6,y0,y1,y2,hqb⟩:=HC b (h b) (range_get (by omega))
             simp only [Option.some.injEq,Addr.mk.injEq,and_true] at hg5 hg6
             subst hg5
             subst hg6
             have HQ5:=Lib.hid hqq
             have HQ7:=Lib.hid hqb
             clear hqq hqb HC
             refine wp_region_noPanic ?_
             refine wp_region_last (S:=(fun W9 => W9.cell? ⟨K21,2,none⟩=some (.int .i64 (bf:Int)) ∧ W9.cell? ⟨K7,bf * 3,none⟩=some (.bool s5) ∧ W9.cell? ⟨K7,bf * 3 + 1,none⟩=some (.slice ao5 l5 c5) ∧ W9.cell? ⟨K7,bf * 3 + 2,none⟩=some (.slice bo5 m5 c6) ∧ W9.cell? ⟨K7,b * 3,none⟩=some (.bool s7) ∧ W9.cell? ⟨K7,b * 3 + 1,none⟩=some (.slice ao7 l7 c7) ∧ W9.cell? ⟨K7,b * 3 + 2,none⟩=some (.slice bo7 m7 c8))) 14 (by kernel_rfl) (by simp only [setLast,stand]; rfl) (by kernel_rfl) rfl (by kernel_rfl) (by kernel_rfl) (by kernel_rfl) rfl rfl ⟨((Ext.refl W3).drew).cell u2,((Ext.refl W3).drew).cell e0,((Ext.refl W3).drew).cell e1,((Ext.refl W3).drew).cell e2,((Ext.refl W3).drew).cell y0,((Ext.refl W3).drew).cell y1,((Ext.refl W3).drew).cell y2⟩ (fun hH0 => ?_)
             refine wpAnyH_take (i:=0) (v:=?v0TU) rfl (by kernel_rfl) (by kernel_rfl) (by kernel_rfl) (fun _ _ _ h => h) (Or.inl ⟨by rfl,?hy0TU⟩) (by assumption) ?r0TU
             case hy0TU => (intro w9 hSw; (try dsimp only at hSw); go_simp; try with_reducible rfl)
             try simp only [Act.put,List.setIfInBounds_toArray,List.set_cons_zero,List.set_cons_succ]
             refine wpAnyH_take (i:=1) (v:=?v1TU) rfl (by kernel_rfl) (by kernel_rfl) (by kernel_rfl) (fun _ _ _ h => h) (Or.inl ⟨by rfl,?hy1TU⟩) (by assumption) ?r1TU
             case hy1TU => (intro w9 hSw; (try dsimp only at hSw); go_simp; try with_reducible rfl)
             try simp only [Act.put,List.setIfInBounds_toArray,List.set_cons_zero,List.set_cons_succ]
             refine wpAnyH_take (i:=2) (v:=?v2TU) rfl (by kernel_rfl) (by kernel_rfl) (by kernel_rfl) (fun _ _ _ h => h) (Or.inl ⟨by rfl,?hy2TU⟩) (by assumption) ?r2TU
             case hy2TU => (intro w9 hSw; (try dsimp only at hSw); go_simp; try with_reducible rfl)
             try simp only [Act.put,List.setIfInBounds_toArray,List.set_cons_zero,List.set_cons_succ]
             refine wpAnyH_take (i:=3) (v:=?v3TU) rfl (by kernel_rfl) (by kernel_rfl) (by kernel_rfl) (fun _ _ _ h => h) (Or.inl ⟨by rfl,?hy3TU⟩) (by assumption) ?r3TU
             case hy3TU => (intro w9 hSw; (try dsimp only at hSw); go_simp; try with_reducible rfl)
             try simp only [Act.put,List.setIfInBounds_toArray,List.set_cons_zero,List.set_cons_succ]
             refine wpAnyH_take (i:=4) (v:=?v4TU) rfl (by kernel_rfl) (by kernel_rfl) (by kernel_rfl) (fun _ _ _ h => h) (Or.inl ⟨by rfl,?hy4TU⟩) (by assumption) ?r4TU
             case hy4TU => (intro w9 hSw; (try dsimp only at hSw); go_simp; try with_reducible rfl)
             try simp only [Act.put,List.setIfInBounds_toArray,List.set_cons_zero,List.set_cons_succ]
             refine wpAnyH_take (i:=5) (v:=?v5TU) rfl (by kernel_rfl) (by kernel_rfl) (by kernel_rfl) (fun _ _ _ h => h) (Or.inl ⟨by rfl,?hy5TU⟩) (by assumption) ?r5TU
             case hy5TU => (intro w9 hSw; (try dsimp only at hSw); go_simp; try with_reducible rfl)
             try simp only [Act.put,List.setIfInBounds_toArray,List.set_cons_zero,List.set_cons_succ]
             refine wpAnyH_take (i:=6) (v:=?v6TU) rfl (by kernel_rfl) (by kernel_rfl) (by kernel_rfl) (fun _ _ _ h => h) (Or.inl ⟨by rfl,?hy6TU⟩) (by assumption) ?r6TU
             case hy6TU => (intro w9 hSw; (try dsimp only at hSw); go_simp; try with_reducible rfl)
             try simp only [Act.put,List.setIfInBounds_toArray,List.set_cons_zero,List.set_cons_succ]
             refine wpAnyH_take (i:=7) (v:=?v7TU) rfl (by kernel_rfl) (by kernel_rfl) (by kernel_rfl) (fun _ _ _ h => h) (Or.inl ⟨by rfl,?hy7TU⟩) (by assumption) ?r7TU
             case hy7TU => (intro w9 hSw; (try dsimp only at hSw); go_simp; try with_reducible rfl)
             try simp only [Act.put,List.setIfInBounds_toArray,List.set_cons_zero,List.set_cons_succ]
             refine wpAnyH_take (i:=8) (v:=?v8TU) rfl (by kernel_rfl) (by kernel_rfl) (by kernel_rfl) (fun _ _ _ h => h) (Or.inl ⟨by rfl,?hy8TU⟩) (by assumption) ?r8TU
             case hy8TU => (intro w9 hSw; (try dsimp only at hSw); go_simp; try with_reducible rfl)
             try simp only [Act.put,List.setIfInBounds_toArray,List.set_cons_zero,List.set_cons_succ]
             refine wpAnyH_take (i:=9) (v:=?v9TU) rfl (by kernel_rfl) (by kernel_rfl) (by kernel_rfl) (fun _ _ _ h => h) (Or.inl ⟨by rfl,?hy9TU⟩) (by assumption) ?r9TU
             case hy9TU => (intro w9 hSw; (try dsimp only at hSw); go_simp; try with_reducible rfl)
             try simp only [Act.put,List.setIfInBounds_toArray,List.set_cons_zero,List.set_cons_succ]
             refine wpAnyH_take (i:=10) (v:=?v10TU) rfl (by kernel_rfl) (by kernel_rfl) (by kernel_rfl) (fun _ _ _ h => h) (Or.inl ⟨by rfl,?hy10TU⟩) (by assumption) ?r10TU
             case hy10TU => (intro w9 hSw; (try dsimp only at hSw); go_simp; try with_reducible rfl)
             try simp only [Act.put,List.setIfInBounds_toArray,List.set_cons_zero,List.set_cons_succ]
             refine wpAnyH_take (i:=11) (v:=?v11TU) rfl (by kernel_rfl) (by kernel_rfl) (by kernel_rfl) (fun _ _ _ h => h) (Or.inl ⟨by rfl,?hy11TU⟩) (by assumption) ?r11TU
             case hy11TU => (intro w9 hSw; (try dsimp only at hSw); go_simp; try with_reducible rfl)
             try simp only [Act.put,List.setIfInBounds_toArray,List.set_cons_zero,List.set_cons_succ]
             refine wpAnyH_ready (rs:=[12]) (by kernel_rfl) (by simp) ?_
             refine AllReadyH.cons rfl (fun K9 hK => ?_) AllReadyH.nil
             go_simp
             go_at_call 73; refine (HADD.out _ _ _ (by exact HQ5.out.ext ((Ext.refl W3).drew)) (by exact HQ7.out.ext ((Ext.refl W3).drew))).mono ?_; rintro e9 wa ⟨ua,rfl,ha,Ya⟩; obtain ⟨s9,ao9,l9,c9,bo9,m9,d9,rfl,_,_,_⟩:=ha.opn; have Xa:Ext W3 wa:=(Ext.refl W3).drew.trans Ya; have HQa:=Lib.hid (HQ3.out.ext Xa); obtain ⟨x3,y3,z3,hst,hput⟩:=HQa.out.stored (i:=bf) (by rw [List.length_map,List.length_range]; omega); have HPUT:=Lib.hid hput; have f0:=hst.f0; have c0:=hst.c0; have f1:=hst.f1; have c1':=hst.c1; have f2:=hst.f2; have c2:=hst.c2; have z0:=Xa.cell e0; have HV:=Lib.hid ha; clear ha hst hput
             refine hK.out _ _ (by (try dsimp only); exact ⟨Xa.cell u2,Xa.cell e0,Xa.cell e1,Xa.cell e2,Xa.cell y0,Xa.cell y1,Xa.cell y2⟩) (fun hH1 => ?_)
             clear hK K9 hH0
             try simp only [Act.put,List.setIfInBounds_toArray,List.set_cons_zero,List.set_cons_succ]
             refine wpAnyH_take (i:=13) (v:=?v13TU) rfl (by kernel_rfl) (by kernel_rfl) (by kernel_rfl) (fun _ _ _ h => h) (Or.inl ⟨by rfl,?hy13TU⟩) (by assumption) ?r13TU
             case hy13TU => (intro w9 hSw; (try dsimp only at hSw); go_simp; try with_reducible rfl)
             try simp only [Act.put,List.setIfInBounds_toArray,List.set_cons_zero,List.set_cons_succ]
             refine wpAnyH_take (i:=14) (v:=?v14TU) rfl (by kernel_rfl) (by kernel_rfl) (by kernel_rfl) (fun _ _ _ h => h) (Or.inl ⟨by rfl,?hy14TU⟩) (by assumption) ?r14TU
             case hy14TU => (intro w9 hSw; (try dsimp only at hSw); go_simp; try with_reducible rfl)
             try simp only [Act.put,List.setIfInBounds_toArray,List.set_cons_zero,List.set_cons_succ]
             refine wpAnyH_done (by kernel_rfl) ?_ _
             show Oper.wp _ _ _ _ _ _
             go_simp
             refine NoPanic.normal ?_
             all_goals
              obtain ⟨w8,h8,hgr,hO8⟩:=HPUT.out _ _ _ _ _ _ _ _ HV.out
              have HCL:=HQa.out.clean
              rw [HSET.out] at hO8
              have HQ8:=Lib.hid hO8
              have HM8:=Lib.hid (HM6.out.kept (by omega) (HM3.out.ext Xa) (by rw [HK7.out]; exact Nat.le_refl _) HCL hgr)
              have HMP8:=Lib.hid (((HMP3.out.ext Xa).kept hgr (fun e => hKm7 (by simpa using e.symm))).mono (show d + 1 ≤ e + 1 by omega))
              have HX8:=Lib.hid ((HX3.out.trans Xa).grown hgr hK2)
              rw [h8]
              clear f0 c0 f1 c1' f2 c2 e0 e1 e2 y0 y1 y2 u2 HCL hO8 hgr h8 HPUT
              go_wp2_with fail
              go_roundw
              case rel => exact ⟨e + 1,st,_,by omega,rfl,HWS,HQ8,HM8,HMP8,HCN,HX8.out⟩
              case measure => simp [intOf] <;> omega
        · have hE1:E ≤ 1:=by omega
          obtain ⟨hh1,_⟩:=hs_done HT.out gs (T.length - d) d (Nat.le_refl _) hd (by rw [HE.out]; exact hE1)
          have HCE:Hid (∀ q ∈ infosT T p,f q=some (.int .i64 ((bestP T p gs q:Nat):Int))):=fun q hq => HCH.out.all HT.out hE1 hq
          have HC:=HQ.out.cells (by rw [List.length_map,List.length_range]; omega)
          obtain ⟨g5,s5,ao5,l5,c5,bo5,m5,c6,hg5,e0,e1,e2,hqq⟩:=HC 0 (hsL T p gs d 0) (range_get (by omega))
          simp only [Option.some.injEq,Addr.mk.injEq,and_true] at hg5
          subst hg5
          rw [← hh1] at hqq
          rw [Nat.zero_mul] at e0 e1 e2
          rw [Nat.zero_add] at e1 e2
          have row:wq.ownsRow W1.heap.size 89 3 (.slice (some ⟨W1.heap.size,0,none⟩) 1 1) 1 [.bool false,.slice none 0 0,.slice none 0 0]:=own_ext (World.ownsRow_lit (base:=W1.heap.size) (e:=89) (size:=3) W1 #[.bool false,.slice none 0 0,.slice none 0 0] 1 (Nat.le_refl _) (by unfold maxLen; omega) (by simp)) (by rw [HW2.out]; exact X)
          rw [hs1] at row
          obtain ⟨w7,h7,hgr,hA7⟩:=bx_put row bx_zero hqq
          have T9:=st3 row
          have f0:=T9.f0
          have c0:=T9.c0
          have f1:=T9.f1
          have c1:=T9.c1
          have f2:=T9.f2
          have c2:=T9.c2
          have HA7:=Lib.hid hA7
          have HMF:=Lib.hid (HMP.out.kept hgr (by intro e; simp only [Option.some.injEq] at e; omega))
          have HXF:=Lib.hid ((HX2.out.trans X).grown hgr (by omega))
          have hgt:¬ (1:Int) < (E:Int):=by omega
          have hi0:(0:Int) < (i:Int):=by omega
          clear hh1 hlt hE1 HC hqq row hgr hA7 T9 HE HCH HMP X
          go_wp2_with fail
          refine bodyPost_ret (v:=.tuple #[.agg #[.bool s5,.slice ao5 l5 c5,.slice bo5 m5 c6],.map (some Km)]) (by simp [results,Tryz.results63,go_sem,HA7.out.c0,HA7.out.c1,HA7.out.c2]) rfl ?_
          refine ⟨_,rfl,?_⟩
          unfold BestPost
          rw [HGS.out]
          exact ⟨_,_,_,_,rfl,HA7.out.val,HMF.out,HCE.out,HXF.out⟩
end Go.Proofs.YtcggohkbmhdohaaGreatDoor
