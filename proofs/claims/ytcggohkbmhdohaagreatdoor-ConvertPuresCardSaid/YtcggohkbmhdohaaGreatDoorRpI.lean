/- walk of the reference's Value -/
import Derived.Test.YtcggohkbmhdohaaGreatDoorRpAH
import Derived.Test.YtcggohkbmhdohaaGreatDoorRatAL
namespace Go.Proofs.YtcggohkbmhdohaaGreatDoor
open Go.RowKit
set_option linter.unusedVariables false
theorem rT_nb {q:Rat} (h:q ≠ 0):((ratT q).toList == [48])=false:=by rw [ratT_is0]; exact decide_eq_false h
theorem rT_n0 {q:Rat} (h:q ≠ 0):¬ (ratT q).toList=[48]:=fun e => by have:=rT_nb h; rw [e] at this; simp at this
set_option maxHeartbeats 12800000 in
set_option maxRecDepth 100000 in
theorem rValue_any (v a b:Value) (T:List Nd) (S0 S1:List Ch) (hB:BothOk T S0 S1) (hm:mildB T=true) (h0:∀ c ∈ S0,∀ s ∈ c.2,s.size ≤ 12) (h1:∀ c ∈ S1,∀ s ∈ c.2,s.size ≤ 12):∀ (d k:Nat) (w:World),T.length - k ≤ d → k < T.length → TreeIn w v T → StrIn w a S0 → StrIn w b S1 →
 Calls Tryz.prog 18 #[v,.int .i64 (k:Int),.agg #[a,b]] w fun e w' => e=.returned (.string (ratT (valT T (bothG S0 S1) k))) ∧ Ext w w'
 | 0,k,w,hd,hk,_,_,_ => absurd hk (by omega)
 | d + 1,k,w,hd,hk,hv,ha,hb => by
   obtain ⟨wo,rfl⟩:∃ wo:World,wo=w:=⟨_,rfl⟩
   have HIH:=Lib.hid (fun (n:Nat) W (g1:k < n) (g2:n < T.length) (hX:Ext wo W) => rValue_any v a b T S0 S1 hB hm h0 h1 d n W (by omega) g2 (hv.ext hX) (ha.ext hX) (hb.ext hX))
   have hT:=hB.v
   have HVT:=Lib.hid hT
   have hl:=mild_len hm
   obtain ⟨ao,c',rfl,hlen,hn⟩:=hv.open
   obtain ⟨s0o,s0c,rfl,hsl0,hs0⟩:=ha.open
   obtain ⟨s1o,s1c,rfl,hsl1,hs1⟩:=hb.open
   obtain ⟨x,hx⟩:∃ x,T[k]?=some x:=⟨T[k],List.getElem?_eq_getElem hk⟩
   have HXE:=Lib.hid hx
   obtain ⟨b2,off2,no,nc,oo,oc,rfl,c0,c1,c2,c3,c4,c5,hnx,hod,_⟩:=hn.at (show Hid (T[k]?=some x) from hx)
   have hnx2:=hnx
   obtain ⟨oo2,oc2,eo2,_,hod2⟩:=hod.open
   simp only [Value.slice.injEq] at eo2
   obtain ⟨rfl,_,rfl⟩:=eo2
   have HNX:=Lib.hid hnx2
   have HOD:=Lib.hid hod2
   clear hnx hod
   obtain ⟨T3,hT3⟩:∃ T3,wo.heap.size=T3:=⟨_,rfl⟩
   obtain ⟨W3,hW3⟩:∃ W3,wo.alloc (.cells #[.slice s0o S0.length s0c,.slice s1o S1.length s1c] 40)=W3:=⟨_,rfl⟩
   have X3:Ext wo W3:=by rw [← hW3]; exact (Ext.refl wo).alloc _
   have a0:W3.cell? ⟨T3,0,none⟩=some (.slice s0o S0.length s0c):=by rw [← hW3,← hT3]; simp [go_sem]
   have a1:W3.cell? ⟨T3,1,none⟩=some (.slice s1o S1.length s1c):=by rw [← hW3,← hT3]; simp [go_sem]
   have c0:=X3.cell c0
   have c1:=X3.cell c1
   have c2:=X3.cell c2
   have c3:=X3.cell c3
   have c4:=X3.cell c4
   have c5:=X3.cell c5
   have hkk:(k:Int) < (T.length:Int):=by omega
   have hnode:=hT.node k x hx
   have HVS:=Lib.hid (fun (n:Nat) (g:n < T.length) => (both_sizes hB hm h0 h1 (List.getElem?_eq_getElem g:T[n]?=some T[n])))
   have HSB:=Lib.hid (both_sizes hB hm h0 h1 hx).2
   have HOS:=Lib.hid (fun (c n:Nat) (g:x.next[c]?=some (n:Int)) => odd_small hB hm h0 h1 hx g)
   obtain ⟨T4,hT4⟩:∃ T4,W3.heap.size=T4:=⟨_,rfl⟩
   rcases hnode with ⟨k0,_,_,hN,hO,hr⟩ | ⟨k0,_,_,_,hOL,_,hNE⟩ | ⟨k0,hON,_,hpl,hi1,hi2,hNE⟩
   · -- an end
     have hp:x.pay=ratT (valT T (bothG S0 S1) k):=by rw [valT_end hT _ hx k0]; exact text_ratT (ratErr_ok hr)
     rw [k0] at c0
     rw [hp] at c5
     generalize ratT (valT T (bothG S0 S1) k)=tt at *
     obtain ⟨px,hpx⟩:∃ px,x.player=px:=⟨_,rfl⟩
     obtain ⟨qx,hqx⟩:∃ qx,x.info=qx:=⟨_,rfl⟩
     obtain ⟨nx,hnx⟩:∃ nx,x.next.length=nx:=⟨_,rfl⟩
     obtain ⟨ox,hox⟩:∃ ox,x.odds.length=ox:=⟨_,rfl⟩
     rw [hpx] at c1
     rw [hqx] at c2
     rw [hnx] at c3
     rw [hox] at c4
     have HX3:=Lib.hid X3
     clear HIH HVS HSB HOS HNX HOD hB hm h0 h1 hv ha hb hn hs0 hs1 hT HVT hr hp hx HXE hN hO hod2 hnx2 hpx hqx hnx hox X3
     go_enter Tryz.func18,Tryz.ntmps18
     go_wp2_with fail
     go_ret
     exact ⟨rfl,HX3.out.alloc _⟩
   all_goals
    have hN6:x.next.length ≤ 6:=(nextE_zero hNE).2.1
    have hkn:x.kind ≠ 0:=by rw [k0]; decide
    have HTA:=Lib.hid (fun (c:Nat) (g:x.next.length ≤ c) => term_all (G:=bothG S0 S1) hT hx hkn g)
    have HTS:=Lib.hid (fun (c:Nat) (n:Int) (g:x.next[c]?=some n) => term_step (T:=T) (G:=bothG S0 S1) g)
    have HCH:=Lib.hid (fun (m:Int) (g:m ∈ x.next) => hT.child hx g)
   · -- chance
     have HFO:=Lib.hid (fun (c n:Nat) (g:x.next[c]?=some (n:Int)) => (by
      obtain ⟨_,_,s,e1,e2,e3⟩:=both_step hB hx g
      have hc:=(List.getElem?_eq_some_iff.1 g).1
      have ho:x.odds[c]?=some (x.odds[c]'(by omega)):=List.getElem?_eq_getElem (by omega)
      refine ⟨_,ho,?_,odds_ok hT hx _ (List.mem_of_getElem? ho)⟩
      unfold oddP
      rw [if_pos k0,ho]; rfl:∃ o,x.odds[c]?=some o ∧ oddP (bothG S0 S1) x c=ratOf o ∧ RatOk o))
     rw [k0] at c0
     obtain ⟨px,hpx⟩:∃ px,x.player=px:=⟨_,rfl⟩
     obtain ⟨qx,hqx⟩:∃ qx,x.info=qx:=⟨_,rfl⟩
     obtain ⟨nx,hnxl⟩:∃ nx,x.next.length=nx:=⟨_,rfl⟩
     obtain ⟨ox,hox⟩:∃ ox,x.odds.length=ox:=⟨_,rfl⟩
     obtain ⟨yx,hyx⟩:∃ yx,x.pay=yx:=⟨_,rfl⟩
     have HNL:=Lib.hid hnxl
     have HOL:=Lib.hid hox
     have HQI:=Lib.hid hqx
     rw [hpx] at c1
     rw [hqx] at c2
     rw [hnxl] at c3 hN6
     rw [hox] at c4
     rw [hyx] at c5
     obtain ⟨W4,hW4⟩:∃ W4,W3.alloc (.cells #[.int .i64 1,.int .i64 px,.int .i64 qx,.slice no nx nc,.slice oo ox oc,.string yx] 79)=W4:=⟨_,rfl⟩
     have X4:Ext W3 W4:=by rw [← hW4]; exact (Ext.refl W3).alloc _
     have y0:W4.cell? ⟨T4,0,none⟩=some (.int .i64 1):=by rw [← hW4,← hT4]; simp [go_sem]
     have y1:W4.cell? ⟨T4,1,none⟩=some (.int .i64 px):=by rw [← hW4,← hT4]; simp [go_sem]
     have y2:W4.cell? ⟨T4,2,none⟩=some (.int .i64 qx):=by rw [← hW4,← hT4]; simp [go_sem]
     have y3:W4.cell? ⟨T4,3,none⟩=some (.slice no nx nc):=by rw [← hW4,← hT4]; simp [go_sem]
     have y4:W4.cell? ⟨T4,4,none⟩=some (.slice oo ox oc):=by rw [← hW4,← hT4]; simp [go_sem]
     have HY0:=Lib.hid y0
     have HY1:=Lib.hid y1
     have HY2:=Lib.hid y2
     have HY4:=Lib.hid y4
     have HA0:=Lib.hid (X4.cell a0)
     have HA1:=Lib.hid (X4.cell a1)
     have HX4:=Lib.hid (X3.trans X4)
     have HQ0:Hid (sumC (termT T (bothG S0 S1) x) (x.next.take 0) 0=0):=rfl
     clear hB hm h0 h1 hv ha hb hn hs0 hs1 hT hod2 hnx2 hpx hqx hnxl hox hyx X3 X4 a0 a1 hx hNE hkn
     go_enter Tryz.func18,Tryz.ntmps18
     go_wp2_with fail
     clear c0 c1 c2 c3 c4 c5 hT3 hT4 hW3 hW4 y0 y1 y2 y3 y4
     go_loopw [8,26] (fun sv iv wr => ∃ (c:Nat) (q:Rat),c ≤ nx ∧ iv=.int .i64 c ∧ sv=.string (ratT q) ∧ Hid (q=sumC (termT T (bothG S0 S1) x) (x.next.take c) 0) ∧ Ext W4 wr) (fun _ iv _ => nx - (intOf iv).toNat)
     case atStart => exact ⟨0,0,Nat.zero_le _,rfl,by rw [ratT_zero],HQ0.out.symm,Ext.refl _⟩
     case round =>
      obtain ⟨c,q,hc,rfl,rfl,HQ,Z⟩:=hrel
      by_cases hlt:c < nx
      · obtain ⟨m,d1,_,_⟩:=get_lt (xs:=x.next) (k:=c) (by rw [HNL.out]; exact hlt)
        have hmc:=HCH.out m (List.mem_of_getElem? d1.out)
        obtain ⟨n,rfl⟩:∃ n:Nat,m=(n:Int):=⟨m.toNat,by omega⟩
        obtain ⟨nb,noff,rfl,f0⟩:=(HNX.out.ext (HX4.out.trans Z)).at d1
        have f0:wr.cell? ⟨nb,noff + c,none⟩=some (.int .i64 (n:Int)):=f0
        have hcc:(c:Int) < (nx:Int):=by omega
        have HST:=Lib.hid (HTS.out c _ d1.out)
        have HST:Hid (sumC (termT T (bothG S0 S1) x) (x.next.take (c + 1)) 0=sumC (termT T (bothG S0 S1) x) (x.next.take c) 0 + oddP (bothG S0 S1) x c * valT T (bothG S0 S1) n):=HST.out
        have HQB:Hid (RB 1500 q):=by show RB _ _; rw [HQ.out]; exact HSB.out c
        have HRB:=Lib.hid (HOS.out c n d1.out)
        have hkn2:k < n:=by omega
        have hnT:n < T.length:=by omega
        have y0:=Z.cell HY0.out
        have y1:=Z.cell HY1.out
        have y2:=Z.cell HY2.out
        have y4:=Z.cell HY4.out
        have a0:=Z.cell HA0.out
        have a1:=Z.cell HA1.out
        obtain ⟨o,o1,o2,o3⟩:=HFO.out c n d1.out
        obtain ⟨ob,ooff,rfl,g0⟩:=(HOD.out.ext (HX4.out.trans Z)).at (show Hid (x.odds[c]?=some o) from o1)
        have hol:(c:Int) < (ox:Int):=by have:=(List.getElem?_eq_some_iff.1 o1).1; have:=HOL.out; omega
        have ht:o=ratT (ratOf o):=text_ratT o3
        obtain ⟨r,hr⟩:∃ r,ratOf o=r:=⟨_,rfl⟩
        rw [hr] at ht o2
        rw [o2] at HRB
        have HRR:=Lib.hid o2
        subst ht
        have HZ6:=Lib.hid Z
        clear d1 o1 o3 hr hlt
        by_cases hr0:r=0
        · subst hr0
          try rw [ratT_zero] at g0
          try rw [ratT_zero]
          go_wp2_with fail
          go_roundw
          case rel => exact ⟨c + 1,q,by omega,by go_num,rfl,by show _=_; rw [HST.out,← HQ.out,HRR.out,Rat.zero_mul,Rat.add_zero],HZ6.out⟩
          case measure => simp [intOf]; omega
        · have hbn:((ratT r).toList == [48])=false:=rT_nb hr0
          have hbq:¬ (ratT r).toList=[48]:=rT_n0 hr0
          go_wp2_with fail
          refine (HIH.out n _ (by omega) (by omega) (HX4.out.trans (HZ6.out))).mono ?_
          rintro e w7 ⟨rfl,X7⟩
          have hvb:=(HVS.out n (by omega)).1
          have hvm:=RB_mul HRB.out hvb
          go_wp2_with fail
          refine (rMul_any (k:=12) (m:=1500) (by omega) HRB.out hvb _).mono ?_
          rintro e w8 ⟨rfl,X8⟩
          go_wp2_with fail
          refine (rAdd_any (k:=1500) (m:=1512) (by omega) HQB.out hvm _).mono ?_
          rintro e w9 ⟨rfl,X9⟩
          go_wp2_with fail
          go_roundw
          case rel => exact ⟨c + 1,q + r * valT T (bothG S0 S1) n,by omega,by go_num,rfl,by show _=_; rw [HST.out,← HQ.out,HRR.out],(HZ6.out).trans (X7.trans (X8.trans X9))⟩
          case measure => simp [intOf]; omega
      · have hce:c=nx:=by omega
        subst hce
        have hq:=HQ.out
        have hq2:=HTA.out c (by rw [HNL.out]; exact Nat.le_refl _)
        have hge:¬ (c:Int) < (c:Int):=by omega
        clear hlt
        go_wp2_with fail
        go_ret
        exact ⟨by first | rfl | rw [hq,hq2],HX4.out.trans Z⟩
   · -- a move
     have HPLY:Hid (∃ (pn:Nat) (S:List Ch) (so:Option Addr) (sc:Nat),x.player=(pn:Int) ∧ pn < 2 ∧ W3.cell? ⟨T3,pn,none⟩=some (.slice so S.length sc) ∧ ChsOf wo so S ∧ bothG S0 S1 x.player=S ∧ FitS T x.player S ∧ S.length ≤ 17592186044416):=by
      rcases hpl with hp | hp
      · exact ⟨0,S0,s0o,s0c,hp,by omega,a0,hs0,by rw [hp]; rfl,by rw [hp]; exact hB.fit (.inl rfl),hsl0⟩
      · exact ⟨1,S1,s1o,s1c,hp,by omega,a1,hs1,by rw [hp]; rfl,by rw [hp]; exact hB.fit (.inr rfl),hsl1⟩
     obtain ⟨pn,S,so,sc,hpn,hp2,hsc,hS,hSG,hfit,hSl⟩:=HPLY.out
     have HS:=Lib.hid hS
     have HFT:=Lib.hid hfit
     have HLP:=Lib.hid (fun (c:Nat) => (by unfold oddP; rw [if_neg (by rw [k0]; decide),hSG]:oddP (bothG S0 S1) x c=lastP S x.info c))
     have HSW:=Lib.hid (fun (ch:Ch) (hc:ch ∈ S) (g:ch.1=x.info) => hfit.wide ch hc x (List.mem_of_getElem? hx) k0 rfl g.symm)
     rw [k0] at c0
     obtain ⟨px,hpx⟩:∃ px,x.player=px:=⟨_,rfl⟩
     obtain ⟨qx,hqx⟩:∃ qx,x.info=qx:=⟨_,rfl⟩
     obtain ⟨nx,hnxl⟩:∃ nx,x.next.length=nx:=⟨_,rfl⟩
     obtain ⟨ox,hox⟩:∃ ox,x.odds.length=ox:=⟨_,rfl⟩
     obtain ⟨yx,hyx⟩:∃ yx,x.pay=yx:=⟨_,rfl⟩
     have HNL:=Lib.hid hnxl
     have HOL:=Lib.hid hox
     have HQI:=Lib.hid hqx
     rw [hpx] at c1
     rw [hqx] at c2
     rw [hnxl] at c3 hN6
     rw [hox] at c4
     rw [hyx] at c5
     have hpp:px=(pn:Int):=by rw [← hpx]; exact hpn
     have HSC:Hid (W3.cell? ⟨T3,pn,none⟩=some (.slice so S.length sc)):=hsc
     have hpn2:(pn:Int) < 2:=by omega
     rw [hpp] at c1
     clear hpp
     obtain ⟨W4,hW4⟩:∃ W4,W3.alloc (.cells #[.int .i64 2,.int .i64 (pn:Int),.int .i64 qx,.slice no nx nc,.slice oo ox oc,.string yx] 79)=W4:=⟨_,rfl⟩
     have X4:Ext W3 W4:=by rw [← hW4]; exact (Ext.refl W3).alloc _
     have y0:W4.cell? ⟨T4,0,none⟩=some (.int .i64 2):=by rw [← hW4,← hT4]; simp [go_sem]
     have y1:W4.cell? ⟨T4,1,none⟩=some (.int .i64 (pn:Int)):=by rw [← hW4,← hT4]; simp [go_sem]
     have y2:W4.cell? ⟨T4,2,none⟩=some (.int .i64 qx):=by rw [← hW4,← hT4]; simp [go_sem]
     have y3:W4.cell? ⟨T4,3,none⟩=some (.slice no nx nc):=by rw [← hW4,← hT4]; simp [go_sem]
     have y4:W4.cell? ⟨T4,4,none⟩=some (.slice oo ox oc):=by rw [← hW4,← hT4]; simp [go_sem]
     have HY0:=Lib.hid y0
     have HY1:=Lib.hid y1
     have HY2:=Lib.hid y2
     have HY4:=Lib.hid y4
     have HA0:=Lib.hid (X4.cell a0)
     have HSC:Hid (W4.cell? ⟨T3,pn,none⟩=some (.slice so S.length sc)):=X4.cell HSC.out
     have HA1:=Lib.hid (X4.cell a1)
     have HX4:=Lib.hid (X3.trans X4)
     have HQ0:Hid (sumC (termT T (bothG S0 S1) x) (x.next.take 0) 0=0):=rfl
     clear hB hm h0 h1 hv ha hb hn hs0 hs1 hT hod2 hnx2 hpx hqx hnxl hox hyx X3 X4 a0 a1 hx hNE hkn
     go_enter Tryz.func18,Tryz.ntmps18
     go_wp2_with fail
     clear c0 c1 c2 c3 c4 c5 hT3 hT4 hW3 hW4 y0 y1 y2 y3 y4
     go_loopw [8,26] (fun sv iv wr => ∃ (c:Nat) (q:Rat),c ≤ nx ∧ iv=.int .i64 c ∧ sv=.string (ratT q) ∧ Hid (q=sumC (termT T (bothG S0 S1) x) (x.next.take c) 0) ∧ Ext W4 wr) (fun _ iv _ => nx - (intOf iv).toNat)
     case atStart => exact ⟨0,0,Nat.zero_le _,rfl,by rw [ratT_zero],HQ0.out.symm,Ext.refl _⟩
     case round =>
      obtain ⟨c,q,hc,rfl,rfl,HQ,Z⟩:=hrel
      by_cases hlt:c < nx
      · obtain ⟨m,d1,_,_⟩:=get_lt (xs:=x.next) (k:=c) (by rw [HNL.out]; exact hlt)
        have hmc:=HCH.out m (List.mem_of_getElem? d1.out)
        obtain ⟨n,rfl⟩:∃ n:Nat,m=(n:Int):=⟨m.toNat,by omega⟩
        obtain ⟨nb,noff,rfl,f0⟩:=(HNX.out.ext (HX4.out.trans Z)).at d1
        have f0:wr.cell? ⟨nb,noff + c,none⟩=some (.int .i64 (n:Int)):=f0
        have hcc:(c:Int) < (nx:Int):=by omega
        have HST:=Lib.hid (HTS.out c _ d1.out)
        have HST:Hid (sumC (termT T (bothG S0 S1) x) (x.next.take (c + 1)) 0=sumC (termT T (bothG S0 S1) x) (x.next.take c) 0 + oddP (bothG S0 S1) x c * valT T (bothG S0 S1) n):=HST.out
        have HQB:Hid (RB 1500 q):=by show RB _ _; rw [HQ.out]; exact HSB.out c
        have HRB:=Lib.hid (HOS.out c n d1.out)
        have hkn2:k < n:=by omega
        have hnT:n < T.length:=by omega
        have y0:=Z.cell HY0.out
        have y1:=Z.cell HY1.out
        have y2:=Z.cell HY2.out
        have y4:=Z.cell HY4.out
        have a0:=Z.cell HA0.out
        have a1:=Z.cell HA1.out
        have hsc2:=Z.cell HSC.out
        have HZ6:=Lib.hid Z
        clear d1 hlt a0 a1
        obtain ⟨wq,rfl⟩:∃ wq:World,wq=wr:=⟨_,rfl⟩
        go_wp2_with fail
        clear f0 y0 y1 y2 y4 hsc2
        go_loopw [11,44] (fun ov jv wr => ∃ (j:Nat) (r:Rat),j ≤ S.length ∧ jv=.int .i64 j ∧ ov=.string (ratT r) ∧ Hid (r=lastP (S.take j) qx c) ∧ Ext wq wr) (fun _ jv _ => S.length - (intOf jv).toNat)
        case atStart => exact ⟨0,0,Nat.zero_le _,rfl,by rw [ratT_zero],rfl,Ext.refl _⟩
        case round =>
         obtain ⟨j,r,hj,rfl,rfl,HR,X⟩:=hrel
         by_cases hlj:j < S.length
         · obtain ⟨ch,e1,_,_⟩:=get_lt hlj
           obtain ⟨sb2,soff,co,cc,rfl,g0',g1',hco⟩:=(HS.out.ext (HX4.out.trans (HZ6.out.trans X))).at e1
           have hjj:(j:Int) < (S.length:Int):=by omega
           have HPS:=Lib.hid (last_step (q:=qx) (c:=c) e1.out)
           have HCM:=Lib.hid (List.mem_of_getElem? e1.out)
           have HOKC:=Lib.hid (HFT.out.ok ch HCM.out)
           have HWC:=Lib.hid (HSW.out ch HCM.out)
           obtain ⟨ci,os⟩:=ch
           dsimp only at g0' g1' hco HPS HOKC HWC
           rw [← HR.out] at HPS
           have y2:=X.cell (HZ6.out.cell HY2.out)
           obtain ⟨T9,hT9⟩:∃ T9,wr.heap.size=T9:=⟨_,rfl⟩
           obtain ⟨W9,hW9⟩:∃ W9,wr.alloc (.cells #[.int .i64 ci,.slice co os.length cc] 73)=W9:=⟨_,rfl⟩
           have X9:Ext wr W9:=by rw [← hW9]; exact (Ext.refl wr).alloc _
           have z0:W9.cell? ⟨T9,0,none⟩=some (.int .i64 ci):=by rw [← hW9,← hT9]; simp [go_sem]
           have z1:W9.cell? ⟨T9,1,none⟩=some (.slice co os.length cc):=by rw [← hW9,← hT9]; simp [go_sem]
           have y2:=X9.cell y2
           have HX9:=Lib.hid (X.trans X9)
           by_cases hci:ci=qx
           · have hwc:=HWC.out (by rw [hci,HQI.out])
             obtain ⟨o,o1,_,_⟩:=get_lt (xs:=os) (k:=c) (by have:=HNL.out; omega)
             have HOO:=Lib.hid (HOKC.out o (List.mem_of_getElem? o1.out))
             have hsl9:(c:Int) < (os.length:Int):=by have:=HNL.out; omega
             obtain ⟨co2,cc2,e2,_,hoc⟩:=(hco.ext X9).open
             simp only [Value.slice.injEq] at e2
             obtain ⟨rfl,_,rfl⟩:=e2
             obtain ⟨ob,ooff,rfl,ho0⟩:=hoc.at o1
             have HPF:Hid (lastP (S.take (j + 1)) qx c=ratOf o):=by show _=_; rw [HPS.out,if_pos hci,o1.out]; rfl
             have ht:o=ratT (ratOf o):=text_ratT HOO.out
             clear HOO o1 HPS HOKC HWC HCM hoc hco e1 hlj hwc
             generalize ratOf o=r2 at *
             subst ht
             subst hci
             clear HR X X9
             go_wp2_with fail
             go_roundw
             case rel => exact ⟨j + 1,r2,by omega,by go_num,rfl,HPF.out.symm,HX9.out⟩
             case measure => simp [intOf]; omega
           · have HPF:Hid (lastP (S.take (j + 1)) qx c=r):=by show _=_; rw [HPS.out,if_neg hci]
             have hb1:(ci == qx)=false:=by rw [beq_eq_false_iff_ne]; exact hci
             clear HR X X9 HPS HOKC HWC HCM hco e1 hlj
             go_wp2_with fail
             go_roundw
             case rel => exact ⟨j + 1,r,by omega,by go_num,rfl,HPF.out.symm,HX9.out⟩
             case measure => simp [intOf]; omega
         · have hje:j=S.length:=by omega
           subst hje
           have HRE:Hid (r=lastP S qx c):=by have h:=HR.out; rwa [List.take_of_length_le (Nat.le_refl _)] at h
           have hge:¬ (S.length:Int) < (S.length:Int):=by omega
           have HRR:Hid (oddP (bothG S0 S1) x c=r):=by show _=_; rw [HLP.out c,HQI.out]; exact HRE.out.symm
           have HRB:Hid (RB 12 r):=by have h:=HRB.out; rwa [HRR.out] at h
           have a0:=X.cell (HZ6.out.cell HA0.out)
           have a1:=X.cell (HZ6.out.cell HA1.out)
           have HZ6:=Lib.hid (HZ6.out.trans X)
           clear hlj HR X
           by_cases hr0:r=0
           · subst hr0
             try rw [ratT_zero] at g0
             try rw [ratT_zero]
             go_wp2_with fail
             go_roundw
             case rel => exact ⟨c + 1,q,by omega,by go_num,rfl,by show _=_; rw [HST.out,← HQ.out,HRR.out,Rat.zero_mul,Rat.add_zero],HZ6.out⟩
             case measure => simp [intOf]; omega
           · have hbn:((ratT r).toList == [48])=false:=rT_nb hr0
             have hbq:¬ (ratT r).toList=[48]:=rT_n0 hr0
             go_wp2_with fail
             refine (HIH.out n _ (by omega) (by omega) (HX4.out.trans (HZ6.out))).mono ?_
             rintro e w7 ⟨rfl,X7⟩
             have hvb:=(HVS.out n (by omega)).1
             have hvm:=RB_mul HRB.out hvb
             go_wp2_with fail
             refine (rMul_any (k:=12) (m:=1500) (by omega) HRB.out hvb _).mono ?_
             rintro e w8 ⟨rfl,X8⟩
             go_wp2_with fail
             refine (rAdd_any (k:=1500) (m:=1512) (by omega) HQB.out hvm _).mono ?_
             rintro e w9 ⟨rfl,X9⟩
             go_wp2_with fail
             go_roundw
             case rel => exact ⟨c + 1,q + r * valT T (bothG S0 S1) n,by omega,by go_num,rfl,by show _=_; rw [HST.out,← HQ.out,HRR.out],(HZ6.out).trans (X7.trans (X8.trans X9))⟩
             case measure => simp [intOf]; omega
      · have hce:c=nx:=by omega
        subst hce
        have hq:=HQ.out
        have hq2:=HTA.out c (by rw [HNL.out]; exact Nat.le_refl _)
        have hge:¬ (c:Int) < (c:Int):=by omega
        clear hlt
        go_wp2_with fail
        go_ret
        exact ⟨by first | rfl | rw [hq,hq2],HX4.out.trans Z⟩
end Go.Proofs.YtcggohkbmhdohaaGreatDoor
