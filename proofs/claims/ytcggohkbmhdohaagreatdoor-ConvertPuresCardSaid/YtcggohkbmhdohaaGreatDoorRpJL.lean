/- texts merged: RpJ RpK RpL -/
import Derived.Test.YtcggohkbmhdohaaGreatDoorRpAH
import Derived.Test.YtcggohkbmhdohaaGreatDoorMtRg
import Derived.Test.YtcggohkbmhdohaaGreatDoorRtGI
import Derived.BigQuiet
namespace Go.Proofs.YtcggohkbmhdohaaGreatDoor
open Go.RowKit
set_option linter.unusedVariables false
set_option maxHeartbeats 1600000 in
set_option maxRecDepth 100000 in
theorem reachClo_any (x:Nd) (no:Option Addr) (nc:Nat) (oo:Option Addr) (oc K b:Nat) (n:Nat) (f:Int → Option Value) (pn:Nat) (u:Value) (w:World) (hp:x.player=(pn:Int)) (hp2:pn < 2)
 (hc:w.cell? ⟨K,pn,none⟩=some (.map (some b))) (hM:MapG Tryz.prog 3 (Value.int .i64) (fun i:Int => (Lit.int .i64 i).wf=true) w b n f) (hd:(Lit.int .i64 x.info).wf=true) (hf:f x.info=some u) :
 Calls Tryz.prog 95 #[ndV x no nc oo oc,.pointer (some ⟨K,0,none⟩)] w fun e w' => e=.returned u ∧ Ext w w':=by
 unfold ndV
 obtain ⟨kx,hkx⟩:∃ kx,x.kind=kx:=⟨_,rfl⟩
 obtain ⟨qx,hqx⟩:∃ qx,x.info=qx:=⟨_,rfl⟩
 obtain ⟨nx,hnx⟩:∃ nx,x.next.length=nx:=⟨_,rfl⟩
 obtain ⟨ox,hox⟩:∃ ox,x.odds.length=ox:=⟨_,rfl⟩
 obtain ⟨yx,hyx⟩:∃ yx,x.pay=yx:=⟨_,rfl⟩
 rw [hkx,hp,hqx,hnx,hox,hyx]
 rw [hqx] at hd hf
 clear hkx hp hqx hnx hox hyx
 obtain ⟨T7,hT7⟩:∃ T7,w.heap.size=T7:=⟨_,rfl⟩
 obtain ⟨W1,hW1⟩:∃ W1,w.alloc (.cells #[.int .i64 kx,.int .i64 (pn:Int),.int .i64 qx,.slice no nx nc,.slice oo ox oc,.string yx] 79)=W1:=⟨_,rfl⟩
 have X1:Ext w W1:=by rw [← hW1]; exact (Ext.refl w).alloc _
 have y1:W1.cell? ⟨T7,1,none⟩=some (.int .i64 (pn:Int)):=by rw [← hW1,← hT7]; simp [go_sem]
 have y2:W1.cell? ⟨T7,2,none⟩=some (.int .i64 qx):=by rw [← hW1,← hT7]; simp [go_sem]
 have y3:=X1.cell hc
 have hlk:(Instr.lookup 136 (.map (some b)) (.int .i64 qx) false).run Tryz.prog W1.drew=.ok u W1.drew:=(hM.ext (X1.trans ((Ext.refl W1).drew))).look1 (keyE_int Tryz.underlying3) Tryz.underlying136 (z:=.slice none 0 0) (by kernel_rfl) (i:=qx) hd hf
 have hpi:(pn:Int) < 2:=by omega
 have HX1:=Lib.hid X1
 clear hc hM hf hd X1
 go_enter Tryz.func95,Tryz.ntmps95
 go_wp2_with fail
 go_region
 go_wp2_with fail
 go_ret
 exact ⟨rfl,by first | exact HX1.out.drew | exact HX1.out | exact HX1.out.drewN _⟩
theorem both_QB {T:List Nd} {S0 S1:List Ch} (h:BothOk T S0 S1) {i:Nat} (hi:i < T.length):RB 240001 (chanceT T (givG true true S0 S1) i) :=
 chance_RB h.v (givG_fit (fun _ => fit_of h.v h.s0) (fun _ => fit_of h.v h.s1)) hi
theorem str_small {T:List Nd} (hT:Valid T) {p:Int} {S:List Ch} (h:strategyE T p S=0):S.length ≤ 10 ∧ ∀ c ∈ S,0 ≤ c.1 ∧ c.1 ≤ 9 ∧ c.2.length ≤ 6:=by
 obtain ⟨h1,h2⟩:=strE_zero h
 refine ⟨?_,fun c hc => ?_⟩
 · have h3:=congrArg List.length h1
   rw [List.length_map] at h3
   have h4:=List.length_filter_le (fun q => decide (0 < widthT T p q)) ((List.range 10).map Int.ofNat)
   unfold infosT at h3
   simp at h4 h3
   omega
 · have h3:c.1 ∈ infosT T p:=by rw [← h1]; exact List.mem_map_of_mem hc
   unfold infosT at h3
   rw [List.mem_filter] at h3
   obtain ⟨n,hn,hn2⟩:=List.mem_map.1 h3.1
   have hn3:=List.mem_range.1 hn
   have hn4:((n:Nat):Int)=c.1:=hn2
   refine ⟨by omega,by omega,?_⟩
   rw [(h2 c hc).1]
   exact widthT_le hT p c.1
theorem oddsMap_str (u:Value) (T:List Nd) (p:Int) (S:List Ch) (w:World) (hT:Valid T) (hS:strategyE T p S=0) (hu:StrIn w u S) (hz:StrSz S) :
 Calls Tryz.prog 93 #[u] w fun e w' => ∃ u,e=.returned u ∧ OddsPost S u w w':=by
 have hfit:=fit_of hT hS
 obtain ⟨hl,hs⟩:=str_small hT hS
 exact oddsMap_any u S w hu hz hfit.nd hfit.ok (fun c hc => wf_small (by have:=hs c hc; omega) (by have:=hs c hc; omega)) (fun c hc => by have:=(hs c hc).2.2; omega) (by omega)
set_option maxHeartbeats 3200000 in
set_option maxRecDepth 100000 in
theorem replyReach_any (v a b:Value) (T:List Nd) (S0 S1:List Ch) (w:World) (hB:BothOk T S0 S1) (hv:TreeIn w v T) (hz:TreeSz T) (ha:StrIn w a S0) (hb:StrIn w b S1) (hz0:StrSz S0) (hz1:StrSz S1) :
 Calls Tryz.prog 51 #[v,a,b] w fun e w' => ∃ u,e=.returned u ∧ QsV w' u ((List.range T.length).map (chanceT T (givG true true S0 S1))) ∧ Ext w w':=by
 have HO0:=Lib.hid (oddsMap_str a T 0 S0 w hB.v hB.s0 ha hz0)
 have HO1:=Lib.hid (fun W (hX:Ext w W) => oddsMap_str b T 1 S1 W hB.v hB.s1 (hb.ext hX) hz1)
 have HR:=Lib.hid (fun (K b0 n0 b1 n1:Nat) (f0 f1:Int → Option Value) W (hX:Ext w W) (k0:W.cell? ⟨K,0,none⟩=some (.map (some b0))) (k1:W.cell? ⟨K,1,none⟩=some (.map (some b1)))
  (m0:MapG Tryz.prog 3 (Value.int .i64) (fun i:Int => (Lit.int .i64 i).wf=true) W b0 n0 f0) (m1:MapG Tryz.prog 3 (Value.int .i64) (fun i:Int => (Lit.int .i64 i).wf=true) W b1 n1 f1)
  (q0:∀ (j:Nat) (ch:Ch),S0[j]?=some ch → ∃ x,f0 ch.1=some x ∧ QsV W x (ch.2.map ratOf)) (q1:∀ (j:Nat) (ch:Ch),S1[j]?=some ch → ∃ x,f1 ch.1=some x ∧ QsV W x (ch.2.map ratOf)) =>
  reach_any v T 95 #[.pointer (some ⟨K,0,none⟩)] (oddO T S0 S1) (chanceT T (givG true true S0 S1)) W (hv.ext hX) hB.v hz (fun _ _ => by kernel_rfl)
   (fun i x hx hk => by
     obtain ⟨j,e,he,hq,hl⟩:=hB.entry hx hk
     have hem:=List.mem_of_getElem? he
     obtain ⟨_,_,hi1,hi2,_⟩:=hB.v.wide1 hx hk
     rw [oddO_of hB hx hk hem hq]
     rcases hB.v.mover hx hk with hp | hp
     · rw [hp] at he
       obtain ⟨u,hu,hU⟩:=q0 j e he
       rw [hq] at hu
       exact ⟨u,⟨hU,by rw [List.length_map,hl]⟩,fun W2 no nc oo oc hX2 => reachClo_any x no nc oo oc K b0 n0 f0 0 u W2 hp (by omega) (hX2.cell k0) (m0.ext hX2) (wf_small (by omega) (by omega)) hu⟩
     · rw [hp] at he
       obtain ⟨u,hu,hU⟩:=q1 j e he
       rw [hq] at hu
       exact ⟨u,⟨hU,by rw [List.length_map,hl]⟩,fun W2 no nc oo oc hX2 => reachClo_any x no nc oo oc K b1 n1 f1 1 u W2 hp (by omega) (hX2.cell k1) (m1.ext hX2) (wf_small (by omega) (by omega)) hu⟩)
   rfl (fun i c x k hx hk => (both_step hB hx hk).1) (fun i hi => RB_QB (both_QB hB hi) (by omega))
   (fun i l hl q hq => by
     have key:RB 2000 q:=by
      unfold oddsL at hl
      cases hx:T[i]? with
      | none => rw [hx] at hl; cases hl
      | some x =>
        rw [hx] at hl
        dsimp only at hl
        by_cases k1:x.kind=1
        · rw [if_pos k1] at hl
          rw [← Option.some.inj hl] at hq
          obtain ⟨s,hs,rfl⟩:=List.mem_map.1 hq
          exact ratOf_RB2k (odds_ok hB.v hx s hs)
        · rw [if_neg k1] at hl
          by_cases k2:x.kind=2
          · rw [if_pos k2] at hl
            obtain ⟨j,e,he,hq2,_⟩:=hB.entry hx k2
            have hem:=List.mem_of_getElem? he
            rw [oddO_of hB hx k2 hem hq2] at hl
            rw [← Option.some.inj hl] at hq
            obtain ⟨s,hs,rfl⟩:=List.mem_map.1 hq
            exact ratOf_RB2k ((hB.fit (hB.v.mover hx k2)).ok e hem s hs)
          · rw [if_neg k2] at hl; cases hl
     exact RB_QB key (by omega)))
 obtain ⟨ao,c,rfl,_,_⟩:=hv.open
 obtain ⟨so,sc,rfl,_,_⟩:=ha.open
 obtain ⟨ro,rc,rfl,_,_⟩:=hb.open
 obtain ⟨F,hF⟩:∃ F,(List.range T.length).map (chanceT T (givG true true S0 S1))=F:=⟨_,rfl⟩
 have hln:F.length ≤ 120:=by rw [← hF,List.length_map,List.length_range]; exact hB.v.len
 rw [hF] at HR ⊢
 clear hF hB hv hz ha hb hz0 hz1
 go_enter Tryz.func51,Tryz.ntmps51
 go_wp2_with fail
 refine HO0.out.mono ?_
 rintro e w2 ⟨_,rfl,b0,n0,f0,rfl,m0,q0,X2⟩
 go_wp2_with fail
 refine (HO1.out _ X2).mono ?_
 rintro e w3 ⟨_,rfl,b1,n1,f1,rfl,m1,q1,X3⟩
 obtain ⟨K,hK⟩:∃ K,w3.heap.size=K:=⟨_,rfl⟩
 obtain ⟨W4,hW4⟩:∃ W4,w3.alloc (.cells #[.map (some b0),.map (some b1)] 138)=W4:=⟨_,rfl⟩
 have X4:Ext w3 W4:=by rw [← hW4]; exact (Ext.refl w3).alloc _
 have k0:W4.cell? ⟨K,0,none⟩=some (.map (some b0)):=by rw [← hW4,← hK]; simp [go_sem]
 have k1:W4.cell? ⟨K,1,none⟩=some (.map (some b1)):=by rw [← hW4,← hK]; simp [go_sem]
 have HRR:=Lib.hid (HR.out K b0 n0 b1 n1 f0 f1 W4 ((X2.trans X3).trans X4) k0 k1 (m0.ext (X3.trans X4)) (m1.ext X4) (fun j ch h => by obtain ⟨x,h1,h2⟩:=q0 j ch h; exact ⟨x,h1,h2.ext (X3.trans X4)⟩) (fun j ch h => by obtain ⟨x,h1,h2⟩:=q1 j ch h; exact ⟨x,h1,h2.ext X4⟩))
 have HX4:=Lib.hid ((X2.trans X3).trans X4)
 clear HR HO0 HO1 m0 m1 q0 q1 k0 k1 X2 X3 X4
 go_wp2_with fail
 refine HRR.out.mono ?_
 rintro e w5 ⟨u,rfl,hu,X5⟩
 go_wp2_with fail
 go_ret
 exact ⟨_,rfl,hu.toV (by omega),HX4.out.trans X5⟩
theorem ints_kept {w w':World} {row:Option Nat} {ao:Option Addr} {xs:List Int} (h:CellsOf (Value.int .i64) w ao xs) (hg:w.grownBy w' row) (hn:∀ b off,ao=some ⟨b,off,none⟩ → some b ≠ row):CellsOf (Value.int .i64) w' ao xs:=fun j x hx => by
 obtain ⟨b,off,e,hc⟩:=h j x hx
 exact ⟨b,off,e,hg.cell hc (hn b off e)⟩
theorem Acc.apart {w:World} {O:Nat} {s:Bool} {xo:Option Addr} {xl xc:Nat} {yo:Option Addr} {yl yc:Nat} {q:Rat} (h:Acc w O s xo xl xc yo yl yc q) {b off:Nat} {z:Int} (hc:w.cell? ⟨b,off,none⟩=some (.int .i64 z)):b ≠ O:=by
 rintro rfl
 have T:=h.row.2
 rcases T with ⟨e,_⟩ | ⟨g,cap,cur,e,_,hg,hcap,_,hcs,_⟩
 · simp at e
 · simp only [Value.slice.injEq,Option.some.injEq,Addr.mk.injEq,and_true] at e
   obtain ⟨rfl,_,rfl⟩:=e
   match off,hc with
   | 0,hc => rw [h.c0] at hc; simp at hc
   | 1,hc => rw [h.c1] at hc; simp at hc
   | 2,hc => rw [h.c2] at hc; simp at hc
   | k + 3,hc =>
     have h2:w.cell? ⟨b,k + 3,none⟩=cur[k + 3]?:=by unfold World.cell?; rw [hg]; rfl
     rw [h2,Array.getElem?_eq_none (by omega)] at hc
     cases hc
theorem end_at {T:List Nd} {j k:Nat} (h:(endsL T)[j]?=some k):∃ x,T[k]?=some x ∧ x.kind=0 ∧ k < T.length:=by
 have hm:=List.mem_of_getElem? h
 have hk:=endsL_lt hm
 refine ⟨T[k],List.getElem?_eq_getElem hk,?_,hk⟩
 have h2:=(List.mem_filter.1 hm).2
 unfold isEnd at h2
 rw [List.getElem?_eq_getElem hk] at h2
 exact of_decide_eq_true h2
theorem lsum_drop {l:List Nat} {g:Nat → Rat} {j k:Nat} (h:l[j]?=some k):lsum ((l.drop j).map g)=g k + lsum ((l.drop (j + 1)).map g):=by
 obtain ⟨h1,h2⟩:=List.getElem?_eq_some_iff.1 h
 rw [List.drop_eq_getElem_cons h1,h2]
 rfl
set_option maxHeartbeats 6400000 in
set_option maxRecDepth 100000 in
theorem replyOf_any (v a b:Value) (T:List Nd) (S0 S1:List Ch) (w:World) (hB:BothOk T S0 S1) (hv:TreeIn w v T) (hz:TreeSz T) (ha:StrIn w a S0) (hb:StrIn w b S1) (hz0:StrSz S0) (hz1:StrSz S1) :
 Calls Tryz.prog 49 #[v,a,b] w fun e w' => ∃ r,e=.returned r ∧ QV w' r (valT T (bothG S0 S1) 0) ∧ Ext w w':=by
 have HRE:=Lib.hid (fun W (hX:Ext w W) => replyReach_any v a b T S0 S1 W hB (hv.ext hX) hz (ha.ext hX) (hb.ext hX) hz0 hz1)
 have HLI:=Lib.hid (fun W (hX:Ext w W) => list_any v T W (hv.ext hX))
 have HF:=Lib.hid (ofQ_val hB)
 obtain ⟨F,hF⟩:∃ F,valT T (bothG S0 S1) 0=F:=⟨_,rfl⟩
 rw [hF] at HF ⊢
 obtain ⟨R,hR⟩:∃ R,chanceT T (givG true true S0 S1)=R:=⟨_,rfl⟩
 rw [hR] at HRE HF
 have HRB:=Lib.hid (fun (i:Nat) (hi:i < T.length) => (by rw [← hR]; exact both_QB hB hi:RB 240001 (R i)))
 have HPY:Hid (∀ (k:Nat) (x:Nd),T[k]?=some x → x.kind=0 → RatOk x.pay):=fun k x hx hk => by
  rcases hB.v.node k x hx with ⟨_,_,_,_,_,hr⟩ | ⟨k2,_⟩ | ⟨k2,_⟩
  · exact ratErr_ok hr
  · rw [k2] at hk; exact absurd hk (by decide)
  · rw [k2] at hk; exact absurd hk (by decide)
 have HZ:=Lib.hid hz
 have hT2:=hB.v.len
 obtain ⟨ao,c,rfl,hlen,hn⟩:=hv.open
 obtain ⟨so,sc,rfl,_,_⟩:=ha.open
 obtain ⟨ro,rc,rfl,_,_⟩:=hb.open
 have HN:=Lib.hid hn
 have HO0:=Lib.hid (fun W => qOf_any 0 W (by omega) (by omega))
 clear hF hR hB hv hz ha hb hz0 hz1 hn
 go_enter Tryz.func49,Tryz.ntmps49
 go_wp2_with fail
 have X0:Ext w (w.alloc (.cells #[.bool false,.slice none 0 0,.slice none 0 0] 89)):=(Ext.refl w).alloc _
 refine (HRE.out _ X0).mono ?_
 rintro e w2 ⟨u2,rfl,h2,X2⟩
 obtain ⟨go,gc,rfl,_,hC⟩:=h2.opn
 have hrl:((List.range T.length).map R).length=T.length:=by rw [List.length_map,List.length_range]
 rw [hrl]
 have HC:=Lib.hid hC
 clear h2 hC hrl
 go_wp2_with fail
 refine (HO0.out _).mono ?_
 rintro e w3 ⟨u3,rfl,h3,X3⟩
 obtain ⟨s2,ao3,l2,c3,bo2,m2,d2,rfl,_,_,_⟩:=h3.opn
 obtain ⟨O,hO⟩:∃ O,w3.heap.size=O:=⟨_,rfl⟩
 obtain ⟨W4,hW4⟩:∃ W4,w3.alloc (.cells #[.bool s2,.slice ao3 l2 c3,.slice bo2 m2 d2] 89)=W4:=⟨_,rfl⟩
 have HA4:Hid (Acc W4 O s2 ao3 l2 c3 bo2 m2 d2 0):=by show Acc _ _ _ _ _ _ _ _ _ _; rw [← hW4]; exact Acc.new h3 hO
 have X4:Ext w3 W4:=by rw [← hW4]; exact (Ext.refl w3).alloc _
 have XR:=(X2.trans X3)
 have hO1:(w.alloc (.cells #[.bool false,.slice none 0 0,.slice none 0 0] 89)).heap.size ≤ O:=by rw [← hO]; exact XR.size
 have hwO:w.heap.size < O:=by simp at hO1; omega
 have hNR:∀ b,go=some ⟨b,0,none⟩ → ((List.range T.length).map R) ≠ [] → b < O:=fun b e1 e2 => by
  have:=HC.out.lt b e1 e2
  have:=X3.size
  omega
 have HNR:=Lib.hid hNR
 have XW:Ext (w.alloc (.cells #[.bool false,.slice none 0 0,.slice none 0 0] 89)) W4:=XR.trans X4
 have HC4:=Lib.hid (HC.out.ext (X3.trans X4))
 clear h3 X2 X3 XR hNR HC
 go_wp2_with fail
 refine (HLI.out _ (X0.trans XW)).mono ?_
 rintro e w5 ⟨u5,rfl,h5,X5⟩
 obtain ⟨lo,lc,rfl,_,hL⟩:=h5.open
 have hll:(intsN (endsL T)).length=(endsL T).length:=by unfold intsN; rw [List.length_map]
 rw [hll]
 have hel:(endsL T).length ≤ 120:=Nat.le_trans (endsK_le T T.length) hT2
 have HA5:=Lib.hid (HA4.out.ext X5)
 have HAP:Hid (∀ b off,lo=some ⟨b,off,none⟩ → endsL T ≠ [] → b ≠ O):=fun b off e hne => by
  obtain ⟨k,t,ht⟩:=List.exists_cons_of_ne_nil hne
  obtain ⟨b2,off2,e2,hc⟩:=hL.at (i:=0) (x:=(k:Int)) (by show _=_; unfold intsN; rw [ht]; rfl)
  rw [e2] at e
  simp only [Option.some.injEq,Addr.mk.injEq,and_true] at e
  obtain ⟨rfl,rfl⟩:=e
  exact HA5.out.apart hc
 have HL5:=Lib.hid hL
 have XW5:=XW.trans X5
 have HC5:=Lib.hid (HC4.out.ext X5)
 have HFF:Hid ((0:Rat) + lsum (((endsL T).drop 0).map fun j => R j * payN T j)=F):=by show _=_; rw [List.drop_zero,Rat.zero_add]; exact HF.out
 clear h5 hL hll X5 XW HC4 HA4
 go_wp2_with fail
 clear hW4 hO
 obtain ⟨W0,hW0⟩:∃ W0,w.alloc (.cells #[.bool false,.slice none 0 0,.slice none 0 0] 89)=W0:=⟨_,rfl⟩
 have HW0:=Lib.hid hW0
 rw [hW0] at X0 hO1 XW5
 clear hW0
 go_loopw [19] (fun iv wr => ∃ (i:Nat) (acc:Rat) (s:Bool) (xo:Option Addr) (xl xc:Nat) (yo:Option Addr) (yl yc:Nat),i ≤ (endsL T).length ∧ iv=.int .i64 i ∧ Hid (Acc wr O s xo xl xc yo yl yc acc) ∧ Hid (RB (242010 * i + 1) acc) ∧
  Ext W0 wr ∧ Hid (QCells wr go ((List.range T.length).map R)) ∧ Hid (CellsOf (Value.int .i64) wr lo (intsN (endsL T))) ∧ Hid (acc + lsum (((endsL T).drop i).map fun j => R j * payN T j)=F)) (fun iv _ => (endsL T).length - (intOf iv).toNat)
 case atStart => exact ⟨0,0,s2,ao3,l2,c3,bo2,m2,d2,Nat.zero_le _,rfl,HA5,RB_zero,XW5,HC5,HL5,HFF⟩
 case round =>
  obtain ⟨i,acc,s,xo,xl,xc,yo,yl,yc,hi,rfl,HA,HAB,X,HCE,HLE,HI⟩:=hrel
  by_cases hlt:i < (endsL T).length
  · obtain ⟨k,q1,_,_⟩:=get_lt hlt
    obtain ⟨x,hx,hk0,hkT⟩:=end_at q1.out
    obtain ⟨lb,loff,rfl,l0⟩:=HLE.out.at (i:=i) (x:=(k:Int)) (by show _=_; unfold intsN; rw [List.getElem?_map,q1.out]; rfl)
    have l0:wr.cell? ⟨lb,loff + i,none⟩=some (.int .i64 (k:Int)):=l0
    have hq1:((List.range T.length).map R)[k]?=some (R k):=by rw [List.getElem?_map,List.getElem?_range hkT]; rfl
    obtain ⟨g,s5,ao5,l5,c5,bo5,m5,d5,rfl,e0,e1,e2,hq5⟩:=HCE.out k (R k) hq1
    obtain ⟨nb,noff,no,nc,oo,oc,rfl,_,_,_,_,_,n5,_,_,_⟩:=(HN.out.ext (X0.trans X)).at (show Hid (T[k]?=some x) from hx)
    have HQ5:=Lib.hid hq5
    have hii:(i:Int) < ((endsL T).length:Int):=by omega
    have hkk:(k:Int) < (T.length:Int):=by omega
    have hok:=HPY.out k x hx hk0
    have rbq:=HRB.out k hkT
    have rbr:RB 2000 (ratOf x.pay):=ratOf_RB2k hok
    have hpn:payN T k=ratOf x.pay:=by unfold payN; rw [hx]
    have HIN:=HI.out
    rw [lsum_drop q1.out,hpn,← Rat.add_assoc] at HIN
    have HIN:=Lib.hid HIN
    have hsz:=(HZ.out x (List.mem_of_getElem? hx)).1
    obtain ⟨yx,hyx⟩:∃ yx,x.pay=yx:=⟨_,rfl⟩
    rw [hyx] at n5 hok rbr HIN hsz
    have HPA:=Lib.hid (fun W => parse_any yx W hok hsz)
    generalize ratOf yx=py at *
    generalize R k=rk at *
    have HML:=Lib.hid (fun (u v:Value) W hu hv => qMul_any u v rk py W hu hv (RB_QB rbq (by omega)) (RB_QB rbr (by omega)))
    have HAD:=Lib.hid (fun (u v:Value) W hu hv => qAdd_any u v acc (rk * py) W hu hv (RB_QB HAB.out (by omega)) (RB_QB (RB_mul rbq rbr) (by omega)))
    have HBN:Hid (RB (242010 * (i + 1) + 1) (acc + rk * py)):=by
     show RB _ _
     exact (RB_add HAB.out (RB_mul rbq rbr)).mono (by omega)
    have k0:=HA.out.c0
    have k1:=HA.out.c1
    have k2:=HA.out.c2
    obtain ⟨w4,rfl⟩:∃ w4:World,w4=wr:=⟨_,rfl⟩
    clear hlt q1 hx hk0 hok rbq rbr hpn hq1 hq5 hyx
    go_wp2_with fail
    clear l0
    go_region_law (first
     | (go_simp; go_at_call 75; refine (HPA.out _).mono ?_; rintro e wp ⟨up,rfl,hp,Yp⟩; obtain ⟨s6,ao6,l6,c6,bo6,m6,d6,rfl,_,_,_⟩:=hp.opn; have Xp:Ext w4 wp:=(Ext.refl w4).drew.trans Yp; have k0:=Xp.cell k0; have k1:=Xp.cell k1; have k2:=Xp.cell k2; have e0:=Xp.cell e0; have e1:=Xp.cell e1; have e2:=Xp.cell e2; have HP:=Lib.hid hp; clear hp)
     | (go_simp; go_at_call 74; refine (HML.out _ _ _ (by exact HQ5.out.ext Xp) (by exact HP.out)).mono ?_; rintro e wm ⟨um,rfl,hm,Ym⟩; obtain ⟨s8,ao8,l8,c8,bo8,m8,d8,rfl,_,_,_⟩:=hm.opn; have Xm:Ext w4 wm:=Xp.trans Ym; have k0:=Ym.cell k0; have k1:=Ym.cell k1; have k2:=Ym.cell k2; have HM:=Lib.hid hm; clear hm)
     | (go_simp; go_at_call 73; refine (HAD.out _ _ _ (by exact HA.out.val.ext Xm) (by exact HM.out)).mono ?_; rintro e wa ⟨ua,rfl,ha,Ya⟩; obtain ⟨s9,ao9,l9,c9,bo9,m9,d9,rfl,_,_,_⟩:=ha.opn; have Xa:Ext w4 wa:=Xm.trans Ya; have HV:=Lib.hid ha; have HAa:=Lib.hid (HA.out.ext Xa); have T:=st3 HAa.out.row; have f0:=T.f0; have c0:=T.c0; have f1:=T.f1; have c1:=T.c1; have f2:=T.f2; have c2:=T.c2; clear ha T))
    all_goals
     obtain ⟨w7,h7,hgr,hput⟩:=HAa.out.put HV.out
     have HCL:=HAa.out.clean
     rw [h7]
     have HP7:=Lib.hid hput
     have HC7:=Lib.hid (HCL.keptD (v:=.slice (some ⟨O,0,none⟩) 1 1) hgr (HCE.out.ext Xa) (fun b hb hn e => by have:=HNR.out b hb hn; simp only [Value.ownBlock,Option.some.injEq] at e; omega))
     have HL7:=Lib.hid (ints_kept (HLE.out.ext Xa) hgr (fun b off e e2 => HAP.out b off e (by intro hnil; rw [hnil] at hii; simp at hii; omega) (Option.some.inj e2)))
     have X7:=(X.trans Xa).grown hgr hO1
     clear h7 hput HCL f0 c0 f1 c1 f2 c2 k0 k1 k2 e0 e1 e2 hgr
     go_wp2_with fail
     go_roundw
     case rel => exact ⟨i + 1,acc + rk * py,s9,ao9,l9,c9,bo9,m9,d9,by omega,by go_num,HP7,HBN,X7,HC7,HL7,HIN⟩
     case measure => simp [intOf] <;> omega
  · have hie:(endsL T).length=i:=by omega
    have hi2:=HI.out
    rw [← hie,List.drop_length] at hi2
    have hi2:acc + 0=F:=hi2
    rw [Rat.add_zero] at hi2
    have k0:=HA.out.c0
    have k1:=HA.out.c1
    have k2:=HA.out.c2
    have X9:Ext (w.alloc (.cells #[.bool false,.slice none 0 0,.slice none 0 0] 89)) wr:=by rw [HW0.out]; exact X
    have R9:=res3 (w:=w) (g:=w.heap.size) rfl (Ext.refl w) X9
    have f0:=R9.f0
    have c0:=R9.c0
    have f1:=R9.f1
    have c1:=R9.c1
    have f2:=R9.f2
    have e2:=R9.c2
    have RR:=Lib.hid R9
    subst hi2
    have hge:¬ (i:Int) < (((endsL T).length:Nat):Int):=by omega
    clear hlt
    go_wp2_with fail
    refine bodyPost_ret (v:=.agg #[.bool s,.slice xo xl xc,.slice yo yl yc]) (by simp [results,Tryz.results49,go_sem,RR.out.d0,RR.out.d1,RR.out.d2]) rfl ?_
    exact ⟨_,rfl,RR.out.q _ _ _ HA.out.val,RR.out.ext _ _ _⟩
end Go.Proofs.YtcggohkbmhdohaaGreatDoor
