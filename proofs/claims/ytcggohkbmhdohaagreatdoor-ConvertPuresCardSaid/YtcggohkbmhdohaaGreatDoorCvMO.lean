/- texts merged: CvM CvN CvO -/
import Derived.Test.YtcggohkbmhdohaaGreatDoorCvIP
import Derived.Test.YtcggohkbmhdohaaGreatDoorRcEH
import Derived.Test.YtcggohkbmhdohaaGreatDoorRpMO
import Derived.OwnWalk
namespace Go.Proofs.YtcggohkbmhdohaaGreatDoor
open Go.RowKit
set_option linter.unusedVariables false
set_option linter.unusedSimpArgs false
def mkF (I C:List Int) (Q:List (Int × Int × Int)):Nat → Nat → Bool
 | 0,_ => true
 | d + 1,k => match Q[k]? with
   | none => true
   | some s => if 0 ≤ s.2.2 then (if C.getD (idxI s.1 I 0).toNat 0=s.2.1 then mkF I C Q d s.2.2.toNat else false) else true
theorem mkF_some {I C:List Int} {Q:List (Int × Int × Int)} {d k:Nat} {s:Int × Int × Int} (h:Q[k]?=some s):mkF I C Q (d + 1) k=if 0 ≤ s.2.2 then (if C.getD (idxI s.1 I 0).toNat 0=s.2.1 then mkF I C Q d s.2.2.toNat else false) else true:=by
 rw [mkF,h]
def SeqOk (I:List Int) (n:Nat) (Q:List (Int × Int × Int)):Prop:=∀ (k:Nat) (s:Int × Int × Int),Q[k]?=some s → 0 ≤ s.2.2 → s.2.2.toNat < k ∧ 0 ≤ idxI s.1 I 0 ∧ idxI s.1 I 0 < (n:Int)
set_option maxHeartbeats 3200000 in
set_option maxRecDepth 100000 in
theorem makes_any (iv cv:Value) (so:Option Addr) (cs:Nat) (I C:List Int) (Q:List (Int × Int × Int)) (i:Nat) (w:World) (hI:Ints w iv I) (hC:Ints w cv C) (hQ:SqOf w so Q) (hi:i < Q.length) (hok:SeqOk I C.length Q) :
 Calls Tryz.prog 116 #[iv,cv,.slice so Q.length cs,.int .i64 (i:Int)] w fun e w' => e=.returned (.bool (mkF I C Q Q.length i)) ∧ Ext w w':=by
 obtain ⟨wo,rfl⟩:∃ wo:World,wo=w:=⟨_,rfl⟩
 have HIX:Hid (∀ (x:Int) W,Ext wo W → Calls Tryz.prog 146 #[iv,.int .i64 x] W fun e w' => e=.returned (.int .i64 (idxI x I 0)) ∧ Ext W w'):=fun x W hX => (index_ints iv I x W (hI.ext hX) (idxI x I 0) rfl).mono fun e w' ⟨h1,h2⟩ => ⟨h1,by rw [← h2]; exact Ext.refl _⟩
 obtain ⟨co,cc,rfl,hcl,hcc⟩:=hC.open
 obtain ⟨io,ic,rfl,_,_⟩:=hI.open
 have HCC:=Lib.hid hcc
 have HQ:=Lib.hid hQ
 have HOK:=Lib.hid hok
 obtain ⟨N,hN⟩:∃ N,Q.length=N:=⟨_,rfl⟩
 have HN:=Lib.hid hN
 rw [hN] at hi ⊢
 obtain ⟨nc,hnc⟩:∃ nc,C.length=nc:=⟨_,rfl⟩
 have HNC:=Lib.hid hnc
 rw [hnc] at hcl HOK ⊢
 obtain ⟨s,x1,_,_⟩:=get_lt (xs:=Q) (k:=i) (by rw [hN]; exact hi)
 obtain ⟨sb,soff,rfl,c0,c1,c2⟩:=HQ.out.at x1
 obtain ⟨R,hR⟩:∃ R,mkF I C Q N i=R:=⟨_,rfl⟩
 have HR0:Hid (∃ d,i < d ∧ mkF I C Q d i=R):=⟨N,hi,hR⟩
 rw [hR]
 obtain ⟨K,hK⟩:∃ K,wo.heap.size=K:=⟨_,rfl⟩
 have HB0:Hid ((wo.alloc (.cells #[.int .i64 s.1,.int .i64 s.2.1,.int .i64 s.2.2] 155)).ownsRow K 155 3 (.slice (some ⟨K,0,none⟩) 1 1) 1 [.int .i64 s.1,.int .i64 s.2.1,.int .i64 s.2.2]):=by
  show World.ownsRow _ _ _ _ _ _ _
  rw [← hK]
  exact World.ownsRow_lit (base:=wo.heap.size) (e:=155) (size:=3) wo #[.int .i64 s.1,.int .i64 s.2.1,.int .i64 s.2.2] 1 (Nat.le_refl _) (by unfold maxLen; omega) (by simp)
 have HX0:Hid (Ext wo (wo.alloc (.cells #[.int .i64 s.1,.int .i64 s.2.1,.int .i64 s.2.2] 155))):=(Ext.refl wo).alloc _
 have hKo:wo.heap.size ≤ K:=by omega
 have hii:(i:Int) < (N:Int):=by omega
 have h00:(0:Int) ≤ (i:Int):=by omega
 have hs3:=x1
 clear hI hC hQ hok hcc hN hnc hR x1
 go_enter Tryz.func116,Tryz.ntmps116
 go_wp2_with fail
 clear hK c0 c1 c2
 go_loopw [9] (fun pv wr => ∃ (K k:Nat) (s:Int × Int × Int),pv=.pointer (some ⟨K,0,none⟩) ∧ wo.heap.size ≤ K ∧ k < N ∧ Hid (Q[k]?=some s) ∧ Hid (∃ d,k < d ∧ mkF I C Q d k=R) ∧ Hid (wr.ownsRow K 155 3 (.slice (some ⟨K,0,none⟩) 1 1) 1 [.int .i64 s.1,.int .i64 s.2.1,.int .i64 s.2.2]) ∧ Ext wo wr)
  (fun pv wr => match pv with | .pointer (some a) => (match wr.cell? ⟨a.block,2,none⟩ with | some u => (intOf u + 1).toNat | none => 0) | _ => 0)
 case atStart => exact ⟨K,i,s,rfl,hKo,hi,hs3,HR0,HB0,HX0.out⟩
 case round =>
  clear HR0 HB0 HX0 hs3 hii h00 hi hKo
  obtain ⟨K,k,s,rfl,hKo,hk,HS,HR,HB,X⟩:=hrel
  obtain ⟨wq,rfl⟩:∃ wq:World,wq=wr:=⟨_,rfl⟩
  have b0:=cell3 HB.out (j:=0) rfl
  have b1:=cell3 HB.out (j:=1) rfl
  have b2:=cell3 HB.out (j:=2) rfl
  have HM2:=Lib.hid b2
  obtain ⟨d,hd,hr⟩:=HR.out
  obtain ⟨d,rfl⟩:∃ d',d=d' + 1:=⟨d - 1,by omega⟩
  rw [mkF_some HS.out] at hr
  obtain ⟨p,hp⟩:∃ p,s.2.2=p:=⟨_,rfl⟩
  have HP:=Lib.hid hp
  rw [hp] at b2 hr
  by_cases hpos:0 ≤ p
  · obtain ⟨o1,o2,o3⟩:=HOK.out k s HS.out (by rw [hp]; exact hpos)
    rw [if_pos hpos] at hr
    obtain ⟨j,hj⟩:∃ j,idxI s.1 I 0=j:=⟨_,rfl⟩
    have HIX2:=Lib.hid (HIX.out s.1)
    rw [hj] at HIX2 o2 o3 hr
    obtain ⟨c,q1,_,_⟩:=get_lt (xs:=C) (k:=j.toNat) (by rw [HNC.out]; omega)
    obtain ⟨cb,coff,rfl,g0⟩:=(HCC.out.ext X).at q1
    have g0:wq.cell? ⟨cb,coff + j.toNat,none⟩=some (.int .i64 c):=g0
    rw [List.getD_eq_getElem?_getD,q1.out] at hr
    have hr:(if c=s.2.1 then mkF I C Q d p.toNat else false)=R:=hr
    obtain ⟨s',y1,_,_⟩:=get_lt (xs:=Q) (k:=p.toNat) (by rw [HN.out]; omega)
    obtain ⟨sb',soff',hse,e0,e1,e2⟩:=(HQ.out.ext X).at y1
    simp only [Option.some.injEq,Addr.mk.injEq,and_true] at hse
    obtain ⟨rfl,rfl⟩:=hse
    obtain ⟨x1,hx1⟩:∃ x1,s.1=x1:=⟨_,rfl⟩
    obtain ⟨x2,hx2⟩:∃ x2,s.2.1=x2:=⟨_,rfl⟩
    have HXE:=Lib.hid hx1
    have HXE2:=Lib.hid hx2
    rw [hx1] at b0 HIX2
    rw [hx2] at b1 hr
    have hpn:p < (N:Int):=by rw [hp] at o1; omega
    have hpk:p.toNat < k:=by rw [hp] at o1; exact o1
    have HMB:=Lib.hid (fun (h:0 ≤ s'.2.2) => (HOK.out p.toNat s' y1.out h).1)
    clear hp hj o1 q1 hx1 hx2
    by_cases hc:c=x2
    · rw [if_pos hc] at hr
      have HR2:Hid (∃ d,p.toNat < d ∧ mkF I C Q d p.toNat=R):=⟨d,by omega,hr⟩
      have hb1:(c != x2)=false:=by rw [hc]; simp
      have hb2:decide (c=x2)=true:=decide_eq_true hc
      have hb3:(c == x2)=true:=by rw [hc]; simp
      clear hr hc
      go_wp2_with fail
      go_region_held3 (fun W9 => W9.cell? ⟨K,0,none⟩=some (.int .i64 x1) ∧ W9.cell? ⟨K,1,none⟩=some (.int .i64 x2) ∧ W9.cell? ⟨cb,coff + j.toNat,none⟩=some (.int .i64 c))
       (first | exact ⟨b0,b1,g0⟩ | exact ⟨X5.cell b0,X5.cell b1,X5.cell g0⟩ | go_keep)
       ((go_at_call 146; refine (HIX2.out _ (by exact X.drew)).mono ?_; rintro e w5 ⟨rfl,Y5⟩; have X5:Ext wq w5:=(Ext.refl wq).drew.trans Y5))
      all_goals
       have XN:=X.trans X5
       have b0:=X5.cell b0
       have b1:=X5.cell b1
       have b2:=X5.cell b2
       obtain ⟨K6,hK6⟩:∃ K6,w5.heap.size=K6:=⟨_,rfl⟩
       obtain ⟨W6,hW6⟩:∃ W6,w5.alloc (.cells #[.int .i64 x1,.int .i64 x2,.int .i64 p] 155)=W6:=⟨_,rfl⟩
       have HBX:Hid (W6.ownsRow K6 155 3 (.slice (some ⟨K6,0,none⟩) 1 1) 1 [.int .i64 x1,.int .i64 x2,.int .i64 p]):=by
        show World.ownsRow _ _ _ _ _ _ _
        rw [← hW6,← hK6]
        exact World.ownsRow_lit (base:=w5.heap.size) (e:=155) (size:=3) w5 #[.int .i64 x1,.int .i64 x2,.int .i64 p] 1 (Nat.le_refl _) (by unfold maxLen; omega) (by simp)
       have X6:Ext w5 W6:=by rw [← hW6]; exact (Ext.refl w5).alloc _
       have X56:=X5.trans X6
       have e0:=X56.cell e0
       have e1:=X56.cell e1
       have e2:=X56.cell e2
       have T:=st3 HBX.out
       have f0:=T.f0
       have v0:=T.c0
       have f1:=T.f1
       have v1:=T.c1
       have f2:=T.f2
       have v2:=T.c2
       have k2:W6.cell? ⟨K6,2,none⟩=some (.int .i64 p):=cell3 HBX.out (j:=2) rfl
       have HO7:=Lib.hid (T.own (.int .i64 s'.1) (.int .i64 s'.2.1) (.int .i64 s'.2.2))
       have HGR:=Lib.hid (T.by' (.int .i64 s'.1) (.int .i64 s'.2.1) (.int .i64 s'.2.2))
       have hK6o:wo.heap.size ≤ K6:=by rw [← hK6]; exact XN.size
       have XF:=Lib.hid ((XN.trans X6).grown HGR.out hK6o)
       obtain ⟨W7,hW7⟩:∃ W7,((W6.setCell ⟨K6,0,none⟩ (.int .i64 s'.1)).setCell ⟨K6,1,none⟩ (.int .i64 s'.2.1)).setCell ⟨K6,2,none⟩ (.int .i64 s'.2.2)=W7:=⟨_,rfl⟩
       rw [hW7] at HO7 XF
       have hm7:=cell3 HO7.out (j:=2) rfl
       have HM7:=Lib.hid hm7
       clear T X5 X6 X56 XN HGR g0 hm7
       go_wp2_with fail
       clear b0 b1 b2 e0 e1 e2 f0 v0 f1 v1 f2 v2 k2 hK6 hW6
       go_roundw
       case rel => exact ⟨K6,p.toNat,s',rfl,hK6o,by omega,y1,HR2,HO7,XF.out⟩
       case measure =>
        dsimp only
        rw [HM7.out,HM2.out]
        show (s'.2.2 + 1).toNat < (s.2.2 + 1).toNat
        rw [HP.out]
        by_cases hz:0 ≤ s'.2.2
        · have:=HMB.out hz
          omega
        · omega
    · rw [if_neg hc] at hr
      have HRF:=Lib.hid hr
      clear hr
      have hb1:(c != x2)=true:=by rw [bne_iff_ne]; exact hc
      have hb2:decide (c=x2)=false:=decide_eq_false hc
      have hb3:(c == x2)=false:=by rw [beq_eq_false_iff_ne]; exact hc
      clear hc
      go_wp2_with fail
      go_region_held3 (fun W9 => W9.cell? ⟨K,0,none⟩=some (.int .i64 x1) ∧ W9.cell? ⟨K,1,none⟩=some (.int .i64 x2) ∧ W9.cell? ⟨cb,coff + j.toNat,none⟩=some (.int .i64 c))
       (first | exact ⟨b0,b1,g0⟩ | exact ⟨X5.cell b0,X5.cell b1,X5.cell g0⟩ | go_keep)
       ((go_at_call 146; refine (HIX2.out _ (by exact X.drew)).mono ?_; rintro e w5 ⟨rfl,Y5⟩; have X5:Ext wq w5:=(Ext.refl wq).drew.trans Y5))
      all_goals
       have XN:=X.trans X5
       go_wp2_with fail
       go_ret
       exact ⟨ret_bool HRF.out,XN⟩
  · rw [if_neg hpos] at hr
    have hneg:p < 0:=by omega
    have HRF:=Lib.hid hr
    clear hp HM2 hr
    go_wp2_with fail
    go_ret
    exact ⟨ret_bool HRF.out,X⟩
def bsF (mk:Nat → List Int → Bool) (L:List Pl) (i:Nat):Nat → Rat
 | 0 => 0
 | j + 1 => match L[j]? with
   | none => bsF mk L i j
   | some x => if mk i x.1=true then bsF mk L i j + ratOf x.2 else bsF mk L i j
theorem bsF_some {mk:Nat → List Int → Bool} {L:List Pl} {i j:Nat} {x:Pl} (h:L[j]?=some x):bsF mk L i (j + 1)=if mk i x.1=true then bsF mk L i j + ratOf x.2 else bsF mk L i j:=by
 rw [bsF,h]
def odF (Q:List (Int × Int × Int)) (g:Nat → Rat) (i0:Int) (z:Nat):Nat → List Rat
 | 0 => (List.replicate z (0:Rat)).set 0 1
 | i + 1 => match Q[i]? with
   | none => odF Q g i0 z i
   | some s => if 0 ≤ s.2.2 ∧ s.1=i0 ∧ 0 < g s.2.2.toNat then (odF Q g i0 z i).set s.2.1.toNat (g i / g s.2.2.toNat) else odF Q g i0 z i
theorem odF_some {Q:List (Int × Int × Int)} {g:Nat → Rat} {i0:Int} {z i:Nat} {s:Int × Int × Int} (h:Q[i]?=some s):odF Q g i0 z (i + 1)=if 0 ≤ s.2.2 ∧ s.1=i0 ∧ 0 < g s.2.2.toNat then (odF Q g i0 z i).set s.2.1.toNat (g i / g s.2.2.toNat) else odF Q g i0 z i:=by
 rw [odF,h]
theorem odF_len (Q:List (Int × Int × Int)) (g:Nat → Rat) (i0:Int) (z:Nat):∀ i,(odF Q g i0 z i).length=z
 | 0 => by rw [odF,List.length_set,List.length_replicate]
 | i + 1 => by
   rw [odF]
   cases Q[i]? with
   | none => exact odF_len Q g i0 z i
   | some s =>
     show (if _ then _ else _:List Rat).length=z
     split
     · rw [List.length_set]; exact odF_len Q g i0 z i
     · exact odF_len Q g i0 z i
def stB (N:Nat) (g:Nat → Rat) (i:Nat) (q:Option Rat):List (Option Rat):=(List.range N).map fun k => if k < i then some (g k) else if k=i then q else none
theorem stB_len (N:Nat) (g:Nat → Rat) (i:Nat) (q:Option Rat):(stB N g i q).length=N:=by unfold stB; rw [List.length_map,List.length_range]
theorem stB_at (N:Nat) (g:Nat → Rat) (i:Nat) (q:Option Rat) {k:Nat} (hk:k < N):(stB N g i q)[k]?=some (if k < i then some (g k) else if k=i then q else none):=by
 unfold stB
 rw [List.getElem?_map,List.getElem?_range hk]
 rfl
theorem stB_set (N:Nat) (g:Nat → Rat) (i:Nat) (q r:Option Rat):(stB N g i q).set i r=stB N g i r:=by
 apply List.ext_getElem?
 intro k
 by_cases hk:k < N
 · by_cases hki:k=i
   · subst hki
     rw [List.getElem?_set_self (by rw [stB_len]; exact hk),stB_at N g k r hk,if_neg (by omega),if_pos rfl]
   · rw [List.getElem?_set_ne (by omega),stB_at N g i q hk,stB_at N g i r hk,if_neg hki,if_neg hki]
 · rw [List.getElem?_eq_none (by rw [List.length_set,stB_len]; omega),List.getElem?_eq_none (by rw [stB_len]; omega)]
theorem stB_next (N:Nat) (g:Nat → Rat) (i:Nat):stB N g i (some (g i))=stB N g (i + 1) none:=by
 unfold stB
 congr 1
 funext k
 by_cases h1:k < i
 · rw [if_pos h1,if_pos (by omega)]
 · by_cases h2:k=i
   · subst h2
     rw [if_neg h1,if_pos rfl,if_pos (by omega)]
   · rw [if_neg h1,if_neg h2,if_neg (by omega)]
     split <;> rfl
theorem stB_zero (N:Nat) (g:Nat → Rat):stB N g 0 none=List.replicate N none:=by
 apply List.ext_getElem?
 intro k
 by_cases hk:k < N
 · rw [stB_at N g 0 none hk,List.getElem?_replicate,if_pos hk,if_neg (by omega)]
   split <;> rfl
 · rw [List.getElem?_eq_none (by rw [stB_len]; omega),List.getElem?_eq_none (by rw [List.length_replicate]; omega)]
theorem stB_zeros (N:Nat):stB N (fun _ => 0) N none=(List.replicate N (0:Rat)).map some:=by
 apply List.ext_getElem?
 intro k
 by_cases hk:k < N
 · rw [stB_at N _ N none hk,List.getElem?_map,List.getElem?_replicate,if_pos hk,if_pos hk]; rfl
 · rw [List.getElem?_eq_none (by rw [stB_len]; omega),List.getElem?_eq_none (by rw [List.length_map,List.length_replicate]; omega)]
theorem sign_gt (y:Rat):0 < y.num.sign ↔ 0 < y:=by
 rw [Int.sign_pos_iff]
 have h0:y=0 ↔ y.num=0:=Rat.num_eq_zero.symm
 constructor
 · intro h
   by_cases hy:0 < y
   · exact hy
   · exfalso
     have h1:y ≤ 0:=Rat.not_lt.1 hy
     have h2:0 ≤ -y:=by grind
     rw [← Rat.num_nonneg] at h2
     rw [Rat.neg_num] at h2
     omega
 · intro h
   have h2:0 ≤ y:=Rat.le_of_lt h
   rw [← Rat.num_nonneg] at h2
   have h3:y.num ≠ 0:=fun e => by
    rw [h0.2 e] at h
    exact absurd h Rat.lt_irrefl
   omega
theorem QsG.get {w:World} {B g n cap:Nat} {qs:List (Option Rat)} (h:QsG w B (.slice (some ⟨g,0,none⟩) n cap) qs) {i:Nat} {q:Rat} (hq:qs[i]?=some (some q)):∃ (s:Bool) (ao:Option Addr) (l c:Nat) (bo:Option Addr) (m d:Nat),
 w.cell? ⟨g,i * 3,none⟩=some (.bool s) ∧ w.cell? ⟨g,i * 3 + 1,none⟩=some (.slice ao l c) ∧ w.cell? ⟨g,i * 3 + 2,none⟩=some (.slice bo m d) ∧ QV w (.agg #[.bool s,.slice ao l c,.slice bo m d]) q:=by
 obtain ⟨ts,h1,h2,h3,h4⟩:=h
 have hi:=(List.getElem?_eq_some_iff.1 hq).1
 have hti:ts[i]?=some (ts[i]'(by omega)):=List.getElem?_eq_getElem (by omega)
 obtain ⟨t,ht⟩:∃ t,ts[i]'(by omega)=t:=⟨_,rfl⟩
 rw [ht] at hti
 have hv:=h4 i t q hti hq
 obtain ⟨p0,p1,p2⟩:=flatT_get ts i t hti
 obtain ⟨s,ao,l,c,bo,m,d,e,_,_,_⟩:=hv.opn
 have e':=e
 simp only [TV.v,Value.agg.injEq,Array.mk.injEq,List.cons.injEq,and_true] at e'
 obtain ⟨e1,e2,e3⟩:=e'
 rw [e1] at p0
 rw [e2] at p1
 rw [e3] at p2
 have cc:∀ {j:Nat} {u:Value},(flatT ts)[j]?=some u → w.cell? ⟨g,j,none⟩=some u:=by
  intro j u hj
  have:=h1.cells (g:=g) rfl j u hj
  rwa [Addr.add_lit,Nat.zero_add] at this
 rw [e] at hv
 exact ⟨s,ao,l,c,bo,m,d,cc p0,cc p1,cc p2,hv⟩
set_option maxHeartbeats 6400000 in
set_option maxRecDepth 100000 in
theorem behave_core (v m:Value) (T:List Nd) (p:Int) (L:List Pl) (Q:List (Int × Int × Int)) (i0:Int) (z0:Nat) (mk:Nat → List Int → Bool) (g:Nat → Rat) (txt:List ByteArray) (w:World) (htab:TabPow w) (hM:mixE T p L=0) (hr:remB T p=true) (hv:TreeIn w v T) (hz:TreeSz T) (hm:PlnIn w m L) (hzm:PlnSz L)
 (hQ:seqsL T p T.length=Q) (hI:setsP T p=[(i0,(z0:Int))]) (hz1:1 ≤ z0) (hz2:z0 ≤ 100) (hN1:1 ≤ Q.length) (hN2:Q.length ≤ 1000) (hmk:∀ x ∈ L,SeqOk [i0] x.1.length Q) (hmf:∀ i (c:List Int),mkF [i0] c Q Q.length i=mk i c)
 (hrb:∀ i j,i < Q.length → j ≤ L.length → RB 1000 (bsF mk L i j)) (hro:∀ x ∈ L,RB 1000 (ratOf x.2)) (hg:∀ i,bsF mk L i L.length=g i)
 (hch:∀ (k:Nat) s,Q[k]?=some s → 0 ≤ s.2.2 → s.2.2.toNat < Q.length ∧ (s.1=i0 → 0 ≤ s.2.1 ∧ s.2.1.toNat < z0)) (hout:outsG (odF Q g i0 z0 Q.length)=some txt) :
 Calls Tryz.prog 71 #[v,.int .i64 p,m] w fun e w' => ∃ a,e=.returned (.tuple #[a,.int .i64 0]) ∧ StrIn w' a [(i0,txt)] ∧ Ext w w':=by
 obtain ⟨hPE,hL,hG,_,_⟩:=mixE_zero hM
 obtain ⟨hT,hp⟩:=valid_player hPE
 have HCK:=Lib.hid (cvCheck_any v m T p L w htab hv hz hm hzm)
 rw [hM] at HCK
 have HIP:=Lib.hid (fun W (hX:Ext w W) => isPerfect_any v T p W (hv.ext hX) hT)
 rw [hr] at HIP
 have HSP:=Lib.hid (fun W (hX:Ext w W) => sets_any v T p W (hv.ext hX))
 have HOF:=Lib.hid (fun W (hX:Ext w W) => of_any v T p W (hv.ext hX) hT hr)
 have HTB:=Lib.hid htab
 have HO0:=Lib.hid (fun W => qOf_any 0 W (by omega) (by omega))
 have HO1:=Lib.hid (fun W => qOf_any 1 W (by omega) (by omega))
 have HMK:=Lib.hid hmk
 have HMF:=Lib.hid hmf
 have HRB:=Lib.hid hrb
 have HRO:=Lib.hid (fun x (hx:x ∈ L) => (⟨(hG x hx).2.2,hzm x hx,hro x hx⟩:RatOk x.2 ∧ x.2.size ≤ 9223372036854775806 ∧ RB 1000 (ratOf x.2)))
 have HGG:=Lib.hid hg
 have HCH:=Lib.hid hch
 have HOUT:=Lib.hid hout
 have HQQ:=Lib.hid hQ
 have HII:=Lib.hid hI
 obtain ⟨vo,vc,rfl,_,_⟩:=hv.open
 obtain ⟨mo,mc,rfl,hml,hpl⟩:=hm.open
 have HPL:=Lib.hid hpl
 obtain ⟨N,hN⟩:∃ N,Q.length=N:=⟨_,rfl⟩
 have HN:=Lib.hid hN
 rw [hN] at hN1 hN2 HRB HCH HOUT HMF
 obtain ⟨nL,hnL⟩:∃ nL,L.length=nL:=⟨_,rfl⟩
 have HNL:=Lib.hid hnL
 rw [hnL] at hL hml HRB HGG HCK ⊢
 obtain ⟨iq,iq1,iq2,iq3,iq4⟩:=ei_q.info
 have hz3:(z0:Int) ≤ 100:=by omega
 clear hv hz hm hzm hM hr htab hmk hrb hro hg hch hout hQ hI hpl hN hnL hPE hG hT hp hmf
 go_enter Tryz.func71,Tryz.ntmps71
 go_wp2_with fail
 refine HCK.out.mono ?_
 rintro e w1 ⟨rfl,X1⟩
 go_wp2_with fail
 refine (HIP.out _ X1).mono ?_
 rintro e w2 ⟨rfl,X2⟩
 have Y2:=X1.trans X2
 clear X1 X2
 go_wp2_with fail
 refine (HSP.out _ Y2).mono ?_
 rintro e w3 ⟨u3,rfl,a3,b3,rfl,ha3,hb3,X3⟩
 rw [HII.out] at ha3 hb3
 have ha3:Ints w3 a3 [i0]:=ha3
 have hb3:Ints w3 b3 [(z0:Int)]:=hb3
 have HIA:=Lib.hid ha3
 obtain ⟨io,ic,rfl,_,hic⟩:=ha3.open
 obtain ⟨zo,zc,rfl,_,hzc⟩:=hb3.open
 have HIC:=Lib.hid hic
 have HZC:=Lib.hid hzc
 have HY3:=Lib.hid (Y2.trans X3)
 clear ha3 hb3 hic hzc Y2 X3
 go_wp2_with fail
 refine (HOF.out _ HY3.out).mono ?_
 rintro e w4 ⟨u4,rfl,G,sv,av,rfl,c0,c1,hsq,hat,X4⟩
 obtain ⟨so,cs,rfl,hsq⟩:=hsq
 rw [HQQ.out,HN.out] at c0
 rw [HQQ.out] at hsq
 have HSQ:=Lib.hid hsq
 have HX4:=Lib.hid X4
 clear hsq hat X4
 obtain ⟨K7,hK7⟩:∃ K7,w4.heap.size=K7:=⟨_,rfl⟩
 go_wp2_with (first
  | (refine wpList_make_full _ rfl _ _ _ rfl K7 89 iq (.agg #[.bool false,.slice none 0 0,.slice none 0 0]) 3 ei_q.und iq1 iq2 iq3 .i64 .i64 _ _ N rfl rfl rfl rfl (by rw [iq4]; omega) (by unfold maxLen; omega) (by omega) ?_; intro w7 hm1 hm2; have X7:Ext w4 w7:=⟨hm2.os,hm2.tape,hm2.output,hm2.size,fun k hk => hm2.block k hk (by simp)⟩))
 rw [hK7] at hm1
 have HG7:Hid (QsG w7 K7 (.slice (some ⟨K7,0,none⟩) N N) (stB N g 0 none)):=by show QsG _ _ _ _; rw [stB_zero]; exact QsG.made hm1
 have HX7:=Lib.hid X7
 have hK4:w4.heap.size ≤ K7:=by omega
 clear hm1 hm2 X7 c0 c1 hK7
 go_wp2_with fail
 have HMA:=Lib.hid (fun (i:Nat) (x:Pl) (oo:Option Addr) (oc:Nat) W (hi:i < N) (hx:x ∈ L) (hX:Ext w4 W) (hc:Ints W (.slice oo x.1.length oc) x.1) => (by
  have h:=makes_any (.slice io 1 ic) (.slice oo x.1.length oc) so cs [i0] x.1 Q i W (HIA.out.ext (HX4.out.trans hX)) hc (HSQ.out.ext hX) (by rw [HN.out]; exact hi) (HMK.out x hx)
  rw [HN.out,HMF.out] at h
  exact h:Calls Tryz.prog 116 #[.slice io 1 ic,.slice oo x.1.length oc,.slice so N cs,.int .i64 (i:Int)] W fun e w' => e=.returned (.bool (mk i x.1)) ∧ Ext W w'))
 have HYP:=Lib.hid (fun W (hX:Ext w4 W) => (HPL.out.ext ((HY3.out.trans HX4.out).trans hX)))
 go_loopw [53] (fun iv wr => ∃ (i:Nat),i ≤ N ∧ iv=.int .i64 i ∧ Hid (QsG wr K7 (.slice (some ⟨K7,0,none⟩) N N) (stB N g i none)) ∧ Ext w4 wr) (fun iv _ => N - (intOf iv).toNat)
 case atStart => exact ⟨0,Nat.zero_le _,rfl,HG7,HX7.out⟩
 case round =>
  clear HG7 HX7
  obtain ⟨i,hi,rfl,HG,X⟩:=hrel
  obtain ⟨wq,rfl⟩:∃ wq:World,wq=wr:=⟨_,rfl⟩
  by_cases hlt:i < N
  · have hii:(i:Int) < (N:Int):=by omega
    have h00:(0:Int) ≤ (i:Int):=by omega
    go_wp2_with fail
    refine (HO0.out _).mono ?_
    rintro e wa ⟨ua,rfl,ha,Xa⟩
    obtain ⟨s9,ao9,l9,c9,bo9,m9,d9,rfl,_,_,_⟩:=ha.opn
    obtain ⟨x9,y9,z9,hst,hput⟩:=(HG.out.ext Xa).stored (i:=i) (by rw [stB_len]; exact hlt)
    obtain ⟨w7',h7,hgr,hO7⟩:=hput _ _ _ _ _ _ _ _ ha
    have f0:=hst.f0
    have c0:=hst.c0
    have f1:=hst.f1
    have c1:=hst.c1
    have f2:=hst.f2
    have c2:=hst.c2
    rw [show ((0:Int):Rat)=bsF mk L i 0 from rfl,stB_set] at hO7
    have HGN:=Lib.hid hO7
    have XN:=Lib.hid ((X.trans Xa).grown hgr hK4)
    clear hst hput hO7 hgr ha HG X Xa
    go_wp2_with fail
    clear f0 c0 f1 c1 f2 c2 h7
    go_loopw [62] (fun jv wr => ∃ (j:Nat),j ≤ nL ∧ jv=.int .i64 j ∧ Hid (QsG wr K7 (.slice (some ⟨K7,0,none⟩) N N) (stB N g i (some (bsF mk L i j)))) ∧ Ext w4 wr) (fun jv _ => nL - (intOf jv).toNat)
    case atStart => exact ⟨0,Nat.zero_le _,rfl,HGN,XN.out⟩
    case round =>
     clear HGN XN
     obtain ⟨j,hj,rfl,HG,X⟩:=hrel
     obtain ⟨wq,rfl⟩:∃ wq:World,wq=wr:=⟨_,rfl⟩
     by_cases hlj:j < nL
     · obtain ⟨x,x1,_,_⟩:=get_lt (xs:=L) (k:=j) (by rw [HNL.out]; exact hlj)
       have hxm:=List.mem_of_getElem? x1.out
       obtain ⟨mb,moff,oo,oc,rfl,m0,m1,hcs⟩:=(HYP.out _ X).at x1
       have hjj:(j:Int) < (nL:Int):=by omega
       have hj00:(0:Int) ≤ (j:Int):=by omega
       have hbs:=bsF_some (mk:=mk) (i:=i) x1.out
       obtain ⟨o1,o2,o3⟩:=HRO.out x hxm
       have HPA:=Lib.hid (fun W => parse_any x.2 W o1 o2)
       have HAD:=Lib.hid (fun (u v:Value) W hu hv => qAdd_any u v (bsF mk L i j) (ratOf x.2) W hu hv (RB_QB (HRB.out i j hlt hj) (by omega)) (RB_QB o3 (by omega)))
       obtain ⟨K9,hK9⟩:∃ K9,wq.heap.size=K9:=⟨_,rfl⟩
       obtain ⟨W1,hW1⟩:∃ W1,wq.alloc (.cells #[.slice oo x.1.length oc,.string x.2] 62)=W1:=⟨_,rfl⟩
       have X1:Ext wq W1:=by rw [← hW1]; exact (Ext.refl wq).alloc _
       have y0:W1.cell? ⟨K9,0,none⟩=some (.slice oo x.1.length oc):=by rw [← hW1,← hK9]; simp [go_sem]
       have y1:W1.cell? ⟨K9,1,none⟩=some (.string x.2):=by rw [← hW1,← hK9]; simp [go_sem]
       have HM1:=Lib.hid (HMA.out i x oo oc W1 hlt hxm (X.trans X1) (hcs.ext X1))
       have HG1:=Lib.hid (HG.out.ext X1)
       have XX1:=X.trans X1
       obtain ⟨b,hb⟩:∃ b,mk i x.1=b:=⟨_,rfl⟩
       rw [hb] at HM1 hbs
       have HBS:=Lib.hid hbs
       clear hbs hb hcs x1 hxm o1 o2 o3 X HG X1
       go_wp2_with fail
       clear m0 m1 hK9 hW1
       refine HM1.out.mono ?_
       rintro e w5 ⟨rfl,X5⟩
       have XX5:=XX1.trans X5
       have HG5:=Lib.hid (HG1.out.ext X5)
       have y1:=X5.cell y1
       clear XX1 HG1 X5 y0 HM1
       cases b with
       | false =>
         have hbs:=HBS.out
         rw [if_neg (by decide)] at hbs
         rw [← hbs] at HG5
         clear y1 hbs
         go_wp2_with fail
         go_roundw
         case rel => exact ⟨j + 1,by omega,by go_num,HG5,XX5⟩
         case measure => simp [intOf] <;> omega
       | true =>
         have hbs:=HBS.out
         rw [if_pos rfl] at hbs
         have HBE:=Lib.hid hbs
         obtain ⟨s5,ao5,l5,c5,bo5,m5,d5,e0,e1,e2,hq5⟩:=HG5.out.get (i:=i) (q:=bsF mk L i j) (by rw [stB_at N g i _ hlt,if_neg (Nat.lt_irrefl i),if_pos rfl])
         have HQ5:=Lib.hid hq5
         have XC:Ext w5 w5.drew:=(Ext.refl w5).drew
         clear hq5 hbs
         go_wp2_with fail
         go_region_law (first
          | (go_simp; go_at_call 75; refine (HPA.out _).mono ?_; rintro e wp ⟨up,rfl,hp,Yp⟩; obtain ⟨s6,ao6,l6,c6,bo6,m6,d6,rfl,_,_,_⟩:=hp.opn; replace XC:=XC.trans Yp; have e0:=XC.cell e0; have e1:=XC.cell e1; have e2:=XC.cell e2; have HP:=Lib.hid hp; clear hp)
          | (go_simp; go_at_call 73; refine (HAD.out _ _ _ (by exact HQ5.out.ext XC) (by exact HP.out)).mono ?_; rintro e wm ⟨um,rfl,hm',Ym⟩; obtain ⟨s8,ao8,l8,c8,bo8,m8,d8,rfl,_,_,_⟩:=hm'.opn; replace XC:=XC.trans Ym; have HV:=Lib.hid hm'; have HGa:=Lib.hid (HG5.out.ext XC); obtain ⟨x3,y3,z3,hst,hput⟩:=HGa.out.stored (i:=i) (by rw [stB_len]; exact hlt); have HPUT:=Lib.hid hput; have f0:=hst.f0; have c0:=hst.c0; have f1:=hst.f1; have c1:=hst.c1; have f2:=hst.f2; have c2:=hst.c2; clear hm' hst hput))
         all_goals
          obtain ⟨w7,h7,hgr,hO7⟩:=HPUT.out _ _ _ _ _ _ _ _ HV.out
          rw [h7]
          rw [← HBE.out,stB_set] at hO7
          have HGN:=Lib.hid hO7
          have XN:=(XX5.trans XC).grown hgr hK4
          clear f0 c0 f1 c1 f2 c2 h7 hO7 hgr e0 e1 e2 y1
          go_wp2_with fail
          go_roundw
          case rel => exact ⟨j + 1,by omega,by go_num,HGN,XN⟩
          case measure => simp [intOf] <;> omega
     · have hje:j=nL:=by omega
       subst hje
       have hge:¬ (j:Int) < (j:Int):=by omega
       have hgg:=HG.out
       rw [HGG.out,stB_next] at hgg
       have HGN:=Lib.hid hgg
       clear hlj hgg HG
       go_wp2_with fail
       go_roundw
       case rel => exact ⟨i + 1,by omega,by go_num,HGN,X⟩
       case measure => simp [intOf] <;> omega
  · have hie:i=N:=by omega
    subst hie
    have hge:¬ (i:Int) < (i:Int):=by omega
    clear hlt
    go_wp2_with fail
    have HGF:=HG
    have HXP:=Lib.hid X
    have hKq:K7 < wq.heap.size:=by
     obtain ⟨s5,ao5,l5,c5,bo5,m5,d5,e0,_⟩:=HG.out.get (i:=0) (q:=g 0) (by rw [stB_at i g i none (by omega),if_pos (by omega)])
     exact World.block_lt_of_cell? wq _ e0
    obtain ⟨wo,rfl⟩:∃ wo:World,wo=wq:=⟨_,rfl⟩
    clear HG X
    go_loopw [16,87] (fun ov kv wr => ∃ (k:Nat),k ≤ 1 ∧ kv=.int .i64 k ∧ Hid (k=0 → ov=.slice none 0 0) ∧ Hid (k=1 → StrIn wr ov [(i0,txt)]) ∧ Ext wo wr) (fun _ kv _ => 1 - (intOf kv).toNat)
    case atStart => exact ⟨0,by omega,rfl,fun _ => rfl,fun h => by omega,Ext.refl _⟩
    case round =>
     obtain ⟨k,hk,rfl,HO0V,HO1V,X⟩:=hrel
     obtain ⟨wq,rfl⟩:∃ wq:World,wq=wr:=⟨_,rfl⟩
     by_cases hlk:k < 1
     · obtain rfl:k=0:=by omega
       have hov:=HO0V.out rfl
       subst hov
       obtain ⟨ib,ioff,hio,q0⟩:=(HIC.out.ext (HX4.out.trans (HXP.out.trans X))).at (i:=0) (x:=i0) rfl
       subst hio
       have q0:wq.cell? ⟨ib,ioff + 0,none⟩=some (.int .i64 i0):=q0
       obtain ⟨zb,zoff,hzo,p0⟩:=(HZC.out.ext (HX4.out.trans (HXP.out.trans X))).at (i:=0) (x:=(z0:Int)) rfl
       subst hzo
       have p0:wq.cell? ⟨zb,zoff + 0,none⟩=some (.int .i64 (z0:Int)):=p0
       rw [Nat.add_zero] at q0 p0
       obtain ⟨K8,hK8⟩:∃ K8,wq.heap.size=K8:=⟨_,rfl⟩
       clear HO0V HO1V hlk
       go_wp2_with (first
        | (refine wpList_make_full _ rfl _ _ _ rfl K8 89 iq (.agg #[.bool false,.slice none 0 0,.slice none 0 0]) 3 ei_q.und iq1 iq2 iq3 .i64 .i64 _ _ z0 rfl rfl rfl rfl (by rw [iq4]; omega) (by unfold maxLen; omega) (by omega) ?_; intro w8 hm1 hm2; have X8:Ext wq w8:=⟨hm2.os,hm2.tape,hm2.output,hm2.size,fun k hk => hm2.block k hk (by simp)⟩))
       rw [hK8] at hm1
       have HG8:Hid (QsG w8 K8 (.slice (some ⟨K8,0,none⟩) z0 z0) (stB z0 (fun _ => 0) 0 none)):=by show QsG _ _ _ _; rw [stB_zero]; exact QsG.made hm1
       have HX8:=Lib.hid (X.trans X8)
       have hK8o:wo.heap.size ≤ K8:=by rw [← hK8]; exact X.size
       clear hm1 hm2 X8 hK8 X q0 p0
       go_wp2_with fail
       go_loopw [99] (fun cv wr => ∃ (c:Nat),c ≤ z0 ∧ cv=.int .i64 c ∧ Hid (QsG wr K8 (.slice (some ⟨K8,0,none⟩) z0 z0) (stB z0 (fun _ => 0) c none)) ∧ Ext wo wr) (fun cv _ => z0 - (intOf cv).toNat)
       case atStart => exact ⟨0,Nat.zero_le _,rfl,HG8,HX8.out⟩
       case round =>
        clear HG8 HX8
        obtain ⟨c,hc,rfl,HG,X⟩:=hrel
        obtain ⟨wq,rfl⟩:∃ wq:World,wq=wr:=⟨_,rfl⟩
        by_cases hlc:c < z0
        · have hcc:(c:Int) < (z0:Int):=by omega
          have hc00:(0:Int) ≤ (c:Int):=by omega
          go_wp2_with fail
          refine (HO0.out _).mono ?_
          rintro e wa ⟨ua,rfl,ha,Xa⟩
          obtain ⟨s9,ao9,l9,c9,bo9,m9,d9,rfl,_,_,_⟩:=ha.opn
          obtain ⟨x9,y9,z9,hst,hput⟩:=(HG.out.ext Xa).stored (i:=c) (by rw [stB_len]; exact hlc)
          obtain ⟨w7',h7,hgr,hO7⟩:=hput _ _ _ _ _ _ _ _ ha
          have f0:=hst.f0
          have c0:=hst.c0
          have f1:=hst.f1
          have c1:=hst.c1
          have f2:=hst.f2
          have c2:=hst.c2
          rw [show ((0:Int):Rat)=(fun _:Nat => (0:Rat)) c from rfl,stB_set,stB_next] at hO7
          have HGN:=Lib.hid hO7
          have XN:=Lib.hid ((X.trans Xa).grown hgr hK8o)
          clear hst hput hO7 hgr ha HG X Xa hlc
          go_wp2_with fail
          go_roundw
          case rel => exact ⟨c + 1,by omega,by go_num,HGN,XN.out⟩
          case measure => simp [intOf] <;> omega
        · have hce:c=z0:=by omega
          subst hce
          have hge:¬ (c:Int) < (c:Int):=by omega
          have hc1:(0:Int) < (c:Int):=by omega
          clear hlc
          go_wp2_with fail
          refine (HO1.out _).mono ?_
          rintro e wa ⟨ua,rfl,ha,Xa⟩
          obtain ⟨s9,ao9,l9,c9,bo9,m9,d9,rfl,_,_,_⟩:=ha.opn
          obtain ⟨x9,y9,z9,hst,hput⟩:=(HG.out.ext Xa).stored (i:=0) (by rw [stB_len]; omega)
          obtain ⟨w7',h7,hgr,hO7⟩:=hput _ _ _ _ _ _ _ _ ha
          have f0:=hst.f0
          have c0:=hst.c0
          have f1:=hst.f1
          have c1:=hst.c1
          have f2:=hst.f2
          have c2:=hst.c2
          rw [stB_zeros,← List.map_set,show ((1:Int):Rat)=1 from rfl] at hO7
          have HGN:Hid (QsG w7' K8 (.slice (some ⟨K8,0,none⟩) c c) ((odF Q g i0 c 0).map some)):=hO7
          have XN:=Lib.hid ((X.trans Xa).grown hgr hK8o)
          clear hst hput hO7 hgr ha HG X Xa
          rw [Nat.zero_mul,Nat.zero_add,Nat.zero_add] at *
          go_wp2_with fail
          clear f0 c0 f1 c1 f2 c2 h7
          go_loopw [112] (fun tv wr => ∃ (t:Nat),t ≤ i ∧ tv=.int .i64 t ∧ Hid (QsG wr K8 (.slice (some ⟨K8,0,none⟩) c c) ((odF Q g i0 c t).map some)) ∧ Ext wo wr) (fun tv _ => i - (intOf tv).toNat)
          case atStart => exact ⟨0,Nat.zero_le _,rfl,HGN,XN.out⟩
          case round =>
           clear HGN XN
           obtain ⟨t,ht,rfl,HG,X⟩:=hrel
           obtain ⟨wq,rfl⟩:∃ wq:World,wq=wr:=⟨_,rfl⟩
           by_cases hlq:t < i
           · obtain ⟨s,x1,_,_⟩:=get_lt (xs:=Q) (k:=t) (by rw [HN.out]; exact hlq)
             obtain ⟨sb,soff,hso,c0,c1,c2⟩:=(HSQ.out.ext (HXP.out.trans X)).at x1
             subst hso
             have hch:=HCH.out t s x1.out
             have hod:=odF_some (g:=g) (i0:=i0) (z:=c) x1.out
             obtain ⟨a1,a2,a3⟩:=s
             dsimp only at c0 c1 c2 hch hod
             have htt:(t:Int) < (i:Int):=by omega
             have ht00:(0:Int) ≤ (t:Int):=by omega
             have hzi:¬ (c:Int) ≤ 0:=by omega
             obtain ⟨K9,hK9⟩:∃ K9,wq.heap.size=K9:=⟨_,rfl⟩
             clear x1 HCK HIP HSP HOF HMA HYP
             by_cases hp:0 ≤ a3
             · obtain ⟨b,rfl⟩:∃ b:Nat,a3=(b:Int):=⟨a3.toNat,by omega⟩
               obtain ⟨hbN,hc2⟩:=hch hp
               rw [Int.toNat_natCast] at hbN hod
               have hbi:(b:Int) < (i:Int):=by omega
               have hb00:(0:Int) ≤ (b:Int):=by omega
               by_cases hi9:a1=i0
               · obtain ⟨h1,h2⟩:=hc2 hi9
                 obtain ⟨d,rfl⟩:∃ d:Nat,a2=(d:Int):=⟨a2.toNat,by omega⟩
                 rw [Int.toNat_natCast] at h2 hod
                 rw [hi9] at c0
                 obtain ⟨W1,hW1⟩:∃ W1,wq.alloc (.cells #[.int .i64 i0,.int .i64 (d:Int),.int .i64 (b:Int)] 155)=W1:=⟨_,rfl⟩
                 have X1:Ext wq W1:=by rw [← hW1]; exact (Ext.refl wq).alloc _
                 have y0:W1.cell? ⟨K9,0,none⟩=some (.int .i64 i0):=by rw [← hW1,← hK9]; simp [go_sem]
                 have y1:W1.cell? ⟨K9,1,none⟩=some (.int .i64 (d:Int)):=by rw [← hW1,← hK9]; simp [go_sem]
                 have y2:W1.cell? ⟨K9,2,none⟩=some (.int .i64 (b:Int)):=by rw [← hW1,← hK9]; simp [go_sem]
                 obtain ⟨s5,ao5,l5,c5,bo5,m5,d5,e0,e1,e2,hq5⟩:=(HGF.out.ext (X.trans X1)).get (i:=b) (q:=g b) (by rw [stB_at i g i none hbN,if_pos hbN])
                 have HSG:=Lib.hid (qSign_any (.agg #[.bool s5,.slice ao5 l5 c5,.slice bo5 m5 d5]) (g b) W1 hq5)
                 obtain ⟨z,hz⟩:∃ z,(g b).num.sign=z:=⟨_,rfl⟩
                 have hzg:0 < z ↔ 0 < g b:=by rw [← hz]; exact sign_gt _
                 rw [hz] at HSG
                 have hdc:(d:Int) < (c:Int):=by omega
                 have hd00:(0:Int) ≤ (d:Int):=by omega
                 have HOD:=Lib.hid hod
                 have HZG:=Lib.hid hzg
                 have HQ5:=Lib.hid hq5
                 have hib:(i0 == i0)=true:=by simp
                 have HI9:=Lib.hid hi9
                 clear hch hc2 hi9 hz hod hzg hq5 hp
                 go_wp2_with fail
                 clear c0 c1 c2 hK9 hW1
                 refine HSG.out.mono ?_
                 rintro e w5 ⟨rfl,X5⟩
                 have y0:=X5.cell y0
                 have y1:=X5.cell y1
                 have y2:=X5.cell y2
                 have e0:=X5.cell e0
                 have e1:=X5.cell e1
                 have e2:=X5.cell e2
                 have HQ5:=Lib.hid (HQ5.out.ext X5)
                 have XX:=X.trans (X1.trans X5)
                 have HG5:=Lib.hid (HG.out.ext (X1.trans X5))
                 have hod:=HOD.out
                 clear HSG X X1 X5 HG HOD
                 by_cases hz0:0 < z
                 · have hgb:=HZG.out.1 hz0
                   rw [if_pos ⟨by omega,HI9.out,hgb⟩] at hod
                   obtain ⟨s6,ao6,l6,c6,bo6,m6,d6,g0,g1,g2,hq6⟩:=(HGF.out.ext XX).get (i:=t) (q:=g t) (by rw [stB_at i g i none hlq,if_pos hlq])
                   have HQ6:=Lib.hid hq6
                   have rb1:=HRB.out t nL hlq (Nat.le_refl _)
                   have rb2:=HRB.out b nL hbN (Nat.le_refl _)
                   rw [HGG.out] at rb1 rb2
                   have HDV:=Lib.hid (fun (u v:Value) W hu hv => qDiv_any u v (g t) (g b) W hu hv (RB_QB rb1 (by omega)) (RB_QB rb2 (by omega)) (fun h => by rw [h] at hgb; exact absurd hgb (by decide)))
                   have HOD:=Lib.hid hod
                   have XC:Ext w5 w5.drew:=(Ext.refl w5).drew
                   clear hq6 rb1 rb2 hod hgb HZG
                   go_wp2_with fail
                   go_region_law (first
                    | (go_simp; go_at_call 117; refine (HDV.out _ _ _ (by exact HQ6.out.ext XC) (by exact HQ5.out.ext XC)).mono ?_; rintro e wm ⟨um,rfl,hm',Ym⟩; obtain ⟨s8,ao8,l8,c8,bo8,m8,d8,rfl,_,_,_⟩:=hm'.opn; replace XC:=XC.trans Ym; have HV:=Lib.hid hm'; have HGa:=Lib.hid (HG5.out.ext XC); have y1:=XC.cell y1; obtain ⟨x3,y3,z3,hst,hput⟩:=HGa.out.stored (i:=d) (by rw [List.length_map,odF_len]; exact h2); have HPUT:=Lib.hid hput; have f0:=hst.f0; have v0:=hst.c0; have f1:=hst.f1; have v1:=hst.c1; have f2:=hst.f2; have v2:=hst.c2; clear hm' hst hput))
                   all_goals
                    obtain ⟨w7,h7,hgr,hO7⟩:=HPUT.out _ _ _ _ _ _ _ _ HV.out
                    rw [h7]
                    rw [← List.map_set,← HOD.out] at hO7
                    have HGN:=Lib.hid hO7
                    have XN:=(XX.trans XC).grown hgr hK8o
                    clear f0 v0 f1 v1 f2 v2 h7 hO7 hgr e0 e1 e2 y0 y1 y2 g0 g1 g2
                    go_wp2_with fail
                    go_roundw
                    case rel => exact ⟨t + 1,by omega,by go_num,HGN,XN⟩
                    case measure => simp [intOf] <;> omega
                 · rw [if_neg (fun h => hz0 (HZG.out.2 h.2.2))] at hod
                   rw [← hod] at HG5
                   have hz2:z ≤ 0:=by omega
                   clear hod e0 e1 e2 y0 y1 y2
                   go_wp2_with fail
                   go_roundw
                   case rel => exact ⟨t + 1,by omega,by go_num,HG5,XX⟩
                   case measure => simp [intOf] <;> omega
               · rw [if_neg (fun h => hi9 h.2.1)] at hod
                 have hib:(a1 == i0)=false:=by rw [beq_eq_false_iff_ne]; exact hi9
                 have hib2:decide (a1=i0)=false:=decide_eq_false hi9
                 obtain ⟨W1,hW1⟩:∃ W1,wq.alloc (.cells #[.int .i64 a1,.int .i64 a2,.int .i64 (b:Int)] 155)=W1:=⟨_,rfl⟩
                 have X1:Ext wq W1:=by rw [← hW1]; exact (Ext.refl wq).alloc _
                 have y0:W1.cell? ⟨K9,0,none⟩=some (.int .i64 a1):=by rw [← hW1,← hK9]; simp [go_sem]
                 have y1:W1.cell? ⟨K9,1,none⟩=some (.int .i64 a2):=by rw [← hW1,← hK9]; simp [go_sem]
                 have y2:W1.cell? ⟨K9,2,none⟩=some (.int .i64 (b:Int)):=by rw [← hW1,← hK9]; simp [go_sem]
                 rw [← hod] at HG
                 have HGN:=Lib.hid (HG.out.ext X1)
                 have XN:=X.trans X1
                 clear hch hc2 hi9 hod hp X X1 HG
                 go_wp2_with fail
                 clear c0 c1 c2 hK9 hW1 y0 y1 y2
                 go_roundw
                 case rel => exact ⟨t + 1,by omega,by go_num,HGN,XN⟩
                 case measure => simp [intOf] <;> omega
             · rw [if_neg (fun h => hp h.1)] at hod
               have hneg:a3 < 0:=by omega
               obtain ⟨W1,hW1⟩:∃ W1,wq.alloc (.cells #[.int .i64 a1,.int .i64 a2,.int .i64 a3] 155)=W1:=⟨_,rfl⟩
               have X1:Ext wq W1:=by rw [← hW1]; exact (Ext.refl wq).alloc _
               have y2:W1.cell? ⟨K9,2,none⟩=some (.int .i64 a3):=by rw [← hW1,← hK9]; simp [go_sem]
               rw [← hod] at HG
               have HGN:=Lib.hid (HG.out.ext X1)
               have XN:=X.trans X1
               clear hch hod hp X X1 HG
               go_wp2_with fail
               clear c0 c1 c2 hK9 hW1 y2
               go_roundw
               case rel => exact ⟨t + 1,by omega,by go_num,HGN,XN⟩
               case measure => simp [intOf] <;> omega
           · have hte:t=i:=by omega
             subst hte
             have hge:¬ (t:Int) < (t:Int):=by omega
             have HQV:=Lib.hid (HG.out.full.toV (by rw [odF_len]; omega))
             have HOA:=Lib.hid (outAll_any (.slice (some ⟨K8,0,none⟩) c c) (odF Q g i0 c t) wq (tabPow_ext HTB.out ((HY3.out.trans HX4.out).trans (HXP.out.trans X))) HQV.out (by rw [odF_len]; omega))
             rw [HOUT.out] at HOA
             clear hlq HG HCK HIP HSP HOF HMA HYP
             go_wp2_with fail
             refine HOA.out.mono ?_
             rintro e w5 ⟨X5,⟨h,_⟩ | ⟨os,u,ho,rfl,hu⟩⟩
             · cases h
             obtain rfl:=Option.some.inj ho
             have HU:=Lib.hid hu
             have HRW:Hid (RowX (Value.slice none 0 0).ownBlock w5 u (txt.map Value.string)):=Row.away hu (fun k hk => by cases hk)
             obtain ⟨uo,uc,rfl,_,_⟩:=hu.open
             have HO7:=Lib.hid (CO.nil w5 wq.heap.size)
             have hL1:([]:List (Ch × Value)).length + 1 ≤ 17592186044416:=by simp
             have hL2:(([]:List (Ch × Value)).length + 1) * 32 ≤ 140737488355328:=by simp
             have hbk:wq.heap.size ≤ w5.heap.size:=X5.size
             have HX5:=Lib.hid (X.trans X5)
             have hwo:wo.heap.size ≤ wq.heap.size:=X.size
             clear hu ho X X5 HOA HQV
             go_wp2_with (first | (at_builtin; go_must (refine wp_app2 rfl rfl ei_tc HO7.out.row rfl rfl (by simp) rfl rfl hL1 hL2 hbk ?_); intro v' w' hown hgrew))
             have HCO:=(HO7.out.grew (p:=((i0,txt),.slice uo txt.length uc)) hown hgrew HRW.out).toIn (by simp)
             have HSN:Hid (0 + 1=1 → StrIn w' v' [(i0,txt)]):=fun _ => HCO
             have HXX:=Lib.hid (hgrew.extNew HX5.out HO7.out.row hwo)
             clear hown hgrew HCO
             go_roundw
             case rel => exact ⟨0 + 1,by omega,by go_num,fun h => by omega,HSN,HXX.out⟩
             case measure => simp [intOf] <;> omega
     · have hke:k=1:=by omega
       subst hke
       have HS:=Lib.hid (HO1V.out rfl)
       have hge:¬ ((1:Nat):Int) < 1:=by omega
       obtain ⟨so9,sc9,rfl,_,_⟩:=HS.out.open
       clear hlk HO0V HO1V HCK HIP HSP HOF HMA HYP
       go_wp2_with fail
       go_ret2
       exact ⟨_,rfl,HS.out,(HY3.out.trans HX4.out).trans (HXP.out.trans X)⟩
def facPl:List Pl:=[([0],⟨#[49,47,50]⟩),([1],⟨#[49,47,50]⟩)]
def facSq:List (Int × Int × Int):=[(-1,-1,-1),(3,0,0),(3,1,0)]
def facMk (i:Nat) (c:List Int):Bool:=mkF [3] c facSq 3 i
def facGb (i:Nat):Rat:=bsF facMk facPl i 2
theorem facPl_player:playerE guessT 1=0:=by decide +kernel
theorem facPl_widths:widthsT guessT 1=[2]:=by decide +kernel
theorem facPl_few:fewB 128 [2]=true:=by decide +kernel
theorem facPl_purs:pursL [2] (prodL [2])=[[0],[1]]:=by decide +kernel
theorem facPl_str:strategyE guessT 1 (halfS 3)=0:=by decide +kernel
theorem facPl_mixF:mixF (wgtS (halfS 3)) (purN [2])=0:=by decide +kernel
theorem facPl_mixP:mixP (wgtS (halfS 3)) (purN [2])=facPl:=by decide +kernel
theorem facPl_mix:mixE guessT 1 facPl=0:=by decide +kernel
theorem facPl_nil:mixE guessT 1 []=3:=by decide +kernel
theorem facPl_rem:remB guessT 1=true:=by decide +kernel
theorem facPl_seqs:seqsL guessT 1 guessT.length=facSq:=by decide +kernel
theorem facPl_sets:setsP guessT 1=[((3:Int),((2:Nat):Int))]:=by decide +kernel
theorem facPl_pay:payA guessT 1 facPl (halfS 0)=(⟨#[48]⟩,0):=by decide +kernel
theorem facPl_rb:∀ i < 3,∀ j < 3,RB 1000 (bsF facMk facPl i j):=by unfold RB; decide +kernel
theorem facPl_ro:∀ x ∈ facPl,RB 1000 (ratOf x.2):=by unfold RB; decide +kernel
theorem facPl_out:outsG (odF facSq facGb 3 2 3)=some [⟨#[49,47,50]⟩,⟨#[49,47,50]⟩]:=by decide +kernel
theorem facPl_sz:PlnSz facPl:=by unfold PlnSz; decide +kernel
theorem plnSz_nil:PlnSz []:=fun x hx => by cases hx
theorem facPl_ok:∀ x ∈ facPl,SeqOk [3] x.1.length facSq:=fun x hx k s hs h => by
 have hl:x.1.length=1:=by
  unfold facPl at hx
  simp only [List.mem_cons,List.not_mem_nil,or_false] at hx
  rcases hx with rfl | rfl <;> rfl
 rw [hl]
 match k,hs with
 | 0,hs => cases hs; exact absurd h (by decide)
 | 1,hs => cases hs; exact ⟨by decide,by decide,by decide⟩
 | 2,hs => cases hs; exact ⟨by decide,by decide,by decide⟩
 | k + 3,hs => simp [facSq] at hs
theorem facPl_ch:∀ (k:Nat) s,facSq[k]?=some s → 0 ≤ s.2.2 → s.2.2.toNat < facSq.length ∧ (s.1=3 → 0 ≤ s.2.1 ∧ s.2.1.toNat < 2):=fun k s hs h => by
 match k,hs with
 | 0,hs => cases hs; exact absurd h (by decide)
 | 1,hs => cases hs; exact ⟨by decide,fun _ => by decide⟩
 | 2,hs => cases hs; exact ⟨by decide,fun _ => by decide⟩
 | k + 3,hs => simp [facSq] at hs
theorem behave_guess (v m:Value) (w:World) (htab:TabPow w) (hv:TreeIn w v guessT) (hm:PlnIn w m facPl) :
 Calls Tryz.prog 71 #[v,.int .i64 1,m] w fun e w' => ∃ a,e=.returned (.tuple #[a,.int .i64 0]) ∧ StrIn w' a [(3,[⟨#[49,47,50]⟩,⟨#[49,47,50]⟩])] ∧ Ext w w' :=
 behave_core v m guessT 1 facPl facSq 3 2 facMk facGb [⟨#[49,47,50]⟩,⟨#[49,47,50]⟩] w htab facPl_mix facPl_rem hv rguess_sz hm facPl_sz facPl_seqs facPl_sets (by omega) (by omega) (by decide) (by decide) facPl_ok (fun i c => rfl)
  (fun i j hi hj => facPl_rb i hi j (Nat.lt_succ_of_le hj)) facPl_ro (fun i => rfl) facPl_ch facPl_out
set_option maxHeartbeats 6400000 in
set_option maxRecDepth 100000 in
theorem convertFact_any (w:World) (htab:TabPow w):Calls Tryz.prog 26 #[] w fun e w' => e=.returned (.bool true) ∧ Ext w w':=by
 have HTB:=Lib.hid htab
 clear htab
 go_enter Tryz.func26,Tryz.ntmps26
 go_wp2_with fail
 refine (guess_any w).mono ?_
 rintro e w1 ⟨u1,rfl,hT1,X1⟩
 have HP:=Lib.hid (cvPure_any u1 guessT 1 w1 (tabPow_ext HTB.out X1) hT1 rguess_sz)
 clear hT1
 go_wp2_with fail
 refine HP.out.mono ?_
 rintro e w2 ⟨u2,rfl,h2⟩
 unfold PurePost at h2
 rw [facPl_player,facPl_widths,facPl_few,facPl_purs] at h2
 obtain ⟨X2,⟨h,_⟩ | ⟨_,h,_⟩ | ⟨_,_,a2,rfl,us,hus,hul,hel⟩⟩:=h2
 · exact absurd rfl h
 · exact absurd h (by decide)
 obtain ⟨lo,lc,rfl,_,_,_,hlc⟩:=hus
 have hul:us.length=2:=hul
 rw [hul]
 obtain ⟨lu,hlu⟩:∃ lu,us[1]?=some lu:=⟨us[1]'(by omega),List.getElem?_eq_getElem _⟩
 have HLU:Hid (Ints w2 lu [1]):=hel 1 lu [1] hlu rfl
 obtain ⟨lb,loff,hlo,l0⟩:=hlc 1 lu hlu
 subst hlo
 have HL0:=Lib.hid l0
 have Y2:=X1.trans X2
 clear hul hel hlc hlu l0 HP X1 X2
 go_wp2_with fail
 refine (guess_any w2).mono ?_
 rintro e w3 ⟨u3,rfl,hT3,X3⟩
 have HT3:=Lib.hid hT3
 clear hT3
 go_wp2_with fail
 refine (half_any 3 w3).mono ?_
 rintro e w4 ⟨u4,rfl,hS4,X4⟩
 have Z4:=X3.trans X4
 have Y4:=Y2.trans Z4
 have HM:=Lib.hid (cvMixed_any u3 u4 guessT 1 (halfS 3) w4 (tabPow_ext HTB.out Y4) (HT3.out.ext X4) rguess_sz hS4 (rhalf_sz 3))
 have HLU:=Lib.hid (HLU.out.ext Z4)
 have HL0:=Lib.hid (Z4.cell HL0.out)
 clear hS4 X3 X4 HT3 Z4 Y2
 go_wp2_with fail
 refine HM.out.mono ?_
 rintro e w5 ⟨u5,rfl,h5⟩
 unfold MxdPost at h5
 rw [facPl_player,facPl_str,facPl_widths,facPl_few,facPl_mixF,facPl_mixP] at h5
 obtain ⟨X5,⟨h,_⟩ | ⟨_,h,_⟩ | ⟨_,_,h,_⟩ | ⟨_,_,_,h,_⟩ | ⟨_,_,_,_,a5,rfl,ha5⟩⟩:=h5
 · exact absurd rfl h
 · exact absurd rfl h
 · exact absurd h (by decide)
 · exact absurd rfl h
 have HA5:=Lib.hid ha5
 have HLU:=Lib.hid (HLU.out.ext X5)
 have HL0:=Lib.hid (X5.cell HL0.out)
 have Y5:=Y4.trans X5
 clear ha5 X5 Y4 HM
 go_wp2_with fail
 refine (guess_any w5).mono ?_
 rintro e w6 ⟨u6,rfl,hT6,X6⟩
 have Y6:=Y5.trans X6
 have HB:=Lib.hid (behave_guess u6 a5 w6 (tabPow_ext HTB.out Y6) hT6 (HA5.out.ext X6))
 have HA6:=Lib.hid (HA5.out.ext X6)
 have HLU:=Lib.hid (HLU.out.ext X6)
 have HL0:=Lib.hid (X6.cell HL0.out)
 clear hT6 X6 Y5 HA5
 go_wp2_with fail
 refine HB.out.mono ?_
 rintro e w7 ⟨a7,rfl,hs7,X7⟩
 have HS7:=Lib.hid hs7
 have HA7:=Lib.hid (HA6.out.ext X7)
 have HLU:=Lib.hid (HLU.out.ext X7)
 have HL0:=Lib.hid (X7.cell HL0.out)
 have Y7:=Y6.trans X7
 clear hs7 X7 Y6 HA6 HB
 go_wp2_with fail
 refine (guess_any w7).mono ?_
 rintro e w8 ⟨u8,rfl,hT8,X8⟩
 have HT8:=Lib.hid hT8
 clear hT8
 go_wp2_with fail
 refine (half_any 0 w8).mono ?_
 rintro e w9 ⟨u9,rfl,hS9,X9⟩
 have Z9:=X8.trans X9
 have Y9:=Y7.trans Z9
 have HA9:=Lib.hid (HA7.out.ext Z9)
 have HPY:=Lib.hid (cvPay_any u8 a5 u9 guessT 1 facPl (halfS 0) w9 (tabPow_ext HTB.out Y9) (HT8.out.ext X9) rguess_sz HA9.out facPl_sz hS9 (rhalf_sz 0))
 rw [facPl_pay] at HPY
 have HS9:=Lib.hid (HS7.out.ext Z9)
 have HLU:=Lib.hid (HLU.out.ext Z9)
 have HL0:=Lib.hid (Z9.cell HL0.out)
 clear hS9 X8 X9 HT8 Z9 Y7 HA7 HS7
 go_wp2_with fail
 refine HPY.out.mono ?_
 rintro e w10 ⟨rfl,X10⟩
 dsimp only
 have HA10:=Lib.hid (HA9.out.ext X10)
 have HS10:=Lib.hid (HS9.out.ext X10)
 have HLU:=Lib.hid (HLU.out.ext X10)
 have HL0:=Lib.hid (X10.cell HL0.out)
 have Y10:=Y9.trans X10
 clear X10 Y9 HA9 HS9 HPY
 go_wp2_with fail
 refine (fine_any _ [0,0,0,0] _ (by exact lit_ints_at w10 _ ([0,0,0,0]:List Int) (by decide) _ (by first | rfl | simp)) true rfl).mono ?_
 rintro e w13 ⟨rfl,X13⟩
 have Z13:=((Ext.refl w10).alloc _).trans X13
 have Y13:=Y10.trans Z13
 have l0:=Z13.cell HL0.out
 have l0:w13.cell? ⟨lb,loff + 1,none⟩=some lu:=l0
 have HLU:=Lib.hid (HLU.out.ext Z13)
 have HA13:=Lib.hid (HA10.out.ext Z13)
 have HS13:=Lib.hid (HS10.out.ext Z13)
 obtain ⟨mo,mc,rfl,_,_⟩:=HA13.out.open
 obtain ⟨so,sc,rfl,_,_⟩:=HS13.out.open
 clear X13 Z13 Y10 HA10 HS10 HL0
 go_wp2_with fail
 clear l0
 refine (equal_ints _ _ ([1]:List Int) ([1]:List Int) _ (by exact HLU.out.ext ((Ext.refl w13).alloc _)) (by exact lit_ints_at _ _ ([1]:List Int) (by decide) _ (by first | rfl | simp)) true (by show _=_; simp)).mono ?_
 rintro e w14 ⟨rfl,X14⟩
 have Z14:=((Ext.refl w13).alloc _).trans X14
 have Y14:=Y13.trans Z14
 obtain ⟨mo',mc',e1,_,hA⟩:=(HA13.out.ext Z14).open
 simp only [Value.slice.injEq] at e1
 obtain ⟨rfl,_,rfl⟩:=e1
 obtain ⟨mb,moff,oo,oc,rfl,m0,m1,_⟩:=hA.at (i:=0) (x:=(([0]:List Int),(⟨#[49,47,50]⟩:ByteArray))) rfl
 obtain ⟨so',sc',e2,_,hC⟩:=(HS13.out.ext Z14).open
 simp only [Value.slice.injEq] at e2
 obtain ⟨rfl,_,rfl⟩:=e2
 obtain ⟨cb,coff,ro,rc,rfl,s0,s1,hCS⟩:=hC.at (i:=0) (x:=((3:Int),[(⟨#[49,47,50]⟩:ByteArray),⟨#[49,47,50]⟩])) rfl
 have m1:w14.cell? ⟨mb,moff + 1,none⟩=some (.string ⟨#[49,47,50]⟩):=by simpa using m1
 have s0:w14.cell? ⟨cb,coff,none⟩=some (.int .i64 3):=by simpa using s0
 have s1:w14.cell? ⟨cb,coff + 1,none⟩=some (.slice ro 2 rc):=by simpa using s1
 have HCS:=Lib.hid hCS
 clear X14 Z14 Y13 HA13 HS13 hA hC hCS m0
 go_wp2_with fail
 refine (equal_rats _ _ ([(⟨#[49,47,50]⟩:ByteArray),⟨#[49,47,50]⟩]:List ByteArray) _ (by exact HCS.out.ext ((Ext.refl w14).alloc _)) (by exact lit_strs_at _ _ ([(⟨#[49,47,50]⟩:ByteArray),⟨#[49,47,50]⟩]:List ByteArray) (by simp) _ (by first | rfl | simp))).mono ?_
 rintro e w15 ⟨rfl,X15⟩
 have Z15:=((Ext.refl w14).alloc _).trans X15
 have Y15:=Y14.trans Z15
 clear X15 Z15 Y14 m1 s0 s1
 go_wp2_with fail
 refine (guess_any w15).mono ?_
 rintro e w16 ⟨u16,rfl,hT16,X16⟩
 have Y16:=Y15.trans X16
 have HCK:=Lib.hid (cvCheck_any u16 (.slice none 0 0) guessT 1 [] w16 (tabPow_ext HTB.out Y16) hT16 rguess_sz (plnIn_nil w16) plnSz_nil)
 rw [facPl_nil] at HCK
 clear hT16 X16 Y15
 go_wp2_with fail
 refine HCK.out.mono ?_
 rintro e w17 ⟨rfl,X17⟩
 have Y17:=Y16.trans X17
 clear X17 Y16 HCK
 go_wp2_with fail
 go_ret
 exact ⟨rfl,Y17⟩
end Go.Proofs.YtcggohkbmhdohaaGreatDoor
