/- walks of package big: digit -/
import Derived.Test.YtcggohkbmhdohaaGreatDoorWkC
import Derived.Test.YtcggohkbmhdohaaGreatDoorPlA
import Derived.Lib.BufferOwn
namespace Go.Proofs.YtcggohkbmhdohaaGreatDoor
open Go.RowKit
set_option linter.unusedVariables false
theorem val_pos_of_top {vs:List Nat} {n:Nat} (hl:vs.length=n + 2) (h:1 ≤ vs.getD (n + 1) 0):0 < val vs:=by
 rw [val_top2 hl]
 have h1:0 < 4294967296 ^ n:=Nat.pow_pos (by omega)
 have h2:0 < 4294967296 ^ n * (vs.getD n 0 + 4294967296 * vs.getD (n + 1) 0):=Nat.mul_pos h1 (by omega)
 omega
theorem getD_of {l:List Nat} {k x:Nat} (h:l[k]?=some x):l.getD k 0=x:=by rw [List.getD_eq_getElem?_getD,h]; rfl
theorem row_at {A us Z:List Nat} {j i x:Nat} (hA:A.length=j) (h:us[i]?=some x):((A ++ us ++ Z).map encD)[j + i]?=some (.int .u32 (x:Nat)):=by
 have hi:=(List.getElem?_eq_some_iff.1 h).1
 rw [List.getElem?_map,List.append_assoc,List.getElem?_append_right (by omega),hA,Nat.add_sub_cancel_left,List.getElem?_append_left hi,h]
 rfl
theorem row_set {A os us Z:List Nat} {j i u y:Nat} (hA:A.length=j) (ho:os.length=i) :
 ((A ++ (os ++ u :: us) ++ Z).map encD).set (j + i) (.int .u32 (y:Nat))=(A ++ ((os ++ [y]) ++ us) ++ Z).map encD:=by
 subst hA; subst ho
 have e:(.int .u32 (y:Nat):Value)=encD y:=rfl
 rw [e,← List.map_set]
 congr 1
 rw [List.append_assoc,List.set_append_right _ _ (by omega),Nat.add_sub_cancel_left,List.append_assoc os,List.set_append_right _ _ (by omega)]
 simp
theorem mul_bound {g v c:Nat} (hg:g ≤ 4294967295) (hv:v < 4294967296) (hc:c ≤ 4294967295):g * v ≤ 18446744065119617025 ∧ c + g * v ≤ 18446744069414584320 ∧ (c + g * v) / 4294967296 ≤ 4294967295:=by
 have:g * v ≤ 4294967295 * 4294967295:=Nat.mul_le_mul hg (by omega)
 omega
abbrev DigitPost (base B L C l:Nat) (A us Z vs:List Nat) (w:World) (e:Ending) (w':World):Prop :=
 ∃ (q:Nat) (os:List Nat),e=.returned (.int .u32 q) ∧ q=val us / val vs ∧ os.length=l ∧ Dg os ∧ val os=val us % val vs ∧
   w'.ownsRow base 167 1 (.slice (some ⟨B,0,none⟩) L C) L ((A ++ os ++ Z).map encD) ∧ w.grownBy w' (some B)
set_option maxHeartbeats 3200000 in
set_option maxRecDepth 100000 in
theorem kdigit_any (base B j cc b2 o2 c2 n l m:Nat) (L C:Nat) (A us Z vs:List Nat) (w:World)
 (HO:w.ownsRow base 167 1 (.slice (some ⟨B,0,none⟩) L C) L ((A ++ us ++ Z).map encD)) (hA:A.length=j)
 (hl:us.length=l) (hl3:l=n + 3) (hm:vs.length=m) (hm2:m=n + 2) (hu:Dg us) (hv:Dg vs) (hmax:l ≤ 1073741824)
 (hne:b2 ≠ B) (hcv:∀ i x,vs[i]?=some x → w.cell? ⟨b2,o2 + i,none⟩=some (.int .u32 (x:Nat)))
 (hv1:1 ≤ vs.getD (n + 1) 0) (hq9:val us / val vs < 4294967296) :
 Calls Tryz.prog 172 #[.slice (some ⟨B,j,none⟩) l cc,.slice (some ⟨b2,o2,none⟩) m c2] w (DigitPost base B L C l A us Z vs w):=by
 obtain ⟨wo,rfl⟩:∃ wo:World,wo=w:=⟨_,rfl⟩
 have hV:=val_pos_of_top (by omega:vs.length=n + 2) hv1
 obtain ⟨q,hq⟩:∃ q,val us / val vs=q:=⟨_,rfl⟩
 obtain ⟨m1,hm1e⟩:∃ m1,n + 1=m1:=⟨_,rfl⟩
 obtain ⟨u2,hu2,_,_⟩:=get_lt (show m < us.length by omega)
 obtain ⟨u1,hu1,_,_⟩:=get_lt (show m1 < us.length by omega)
 obtain ⟨u0,hu0,_,_⟩:=get_lt (show n < us.length by omega)
 obtain ⟨v1,hv1s,_,_⟩:=get_lt (show m1 < vs.length by omega)
 obtain ⟨v0,hv0s,_,_⟩:=get_lt (show n < vs.length by omega)
 have eu2:=getD_of hu2.out
 have eu1:=getD_of hu1.out
 have eu0:=getD_of hu0.out
 have ev1:=getD_of hv1s.out
 have ev0:=getD_of hv0s.out
 have lu2:=hu.at hu2.out
 have lu1:=hu.at hu1.out
 have lu0:=hu.at hu0.out
 have lv1:=hv.at hv1s.out
 have lv0:=hv.at hv0s.out
 obtain ⟨top,htop⟩:∃ top,u2 * 4294967296 + u1=top:=⟨_,rfl⟩
 have htop2:us.getD (n + 2) 0 * 4294967296 + us.getD (n + 1) 0=top:=by rw [← hm2,hm1e,eu2,eu1]; exact htop
 have hst:=GI.start hu hv (by omega) (by omega) hq hV (by omega) hv1 htop2
 have hstep:=fun g r => GI.step (g:=g) (r:=r) hu hv (by omega:us.length=n + 3) (by omega:vs.length=n + 2) hq hV htop2
 have hstop:=fun g r => GI.stop (g:=g) (r:=r) hu hv (by omega:us.length=n + 3) (by omega:vs.length=n + 2) hq hV hv1 htop2
 rw [hm1e,ev1] at hst hv1
 simp only [hm1e,ev1,ev0,eu0] at hstep hstop
 have HEND:=Lib.hid (fun g (hg:g < 4294967296) h1 h2 => knuth_end (g:=g) hu hv (by omega) hg hV h1 h2)
 obtain ⟨t,ht⟩:∃ t,top / v1=t:=⟨_,rfl⟩
 rw [ht] at hst
 obtain ⟨g0,hg0⟩:∃ g0,min t 4294967295=g0:=⟨_,rfl⟩
 rw [hg0] at hst
 obtain ⟨p0,hp0⟩:∃ p0,g0 * v1=p0:=⟨_,rfl⟩
 rw [hp0] at hst
 obtain ⟨r0,hr0⟩:∃ r0,top - p0=r0:=⟨_,rfl⟩
 rw [hr0] at hst
 have hp0t:r0 + p0=top:=by rw [← hp0]; exact hst.1
 have eor:=or64_hi u2 u1 lu2 lu1
 rw [show (u2:Int) * 4294967296 + (u1:Int)=(top:Int) by omega] at eor
 have edv:(top:Int).tdiv (v1:Int)=(t:Int):=by rw [← ht]; exact (Int.ofNat_tdiv top v1).symm
 have hv1n:¬ (v1:Int)=0:=by omega
 have hmn:min (t:Int) 4294967295=(g0:Int):=by omega
 have egv:(g0:Int) * (v1:Int)=(p0:Int):=by rw [← hp0,Int.natCast_mul]
 have erest:(top:Int) - (p0:Int)=(r0:Int):=by omega
 have htl:(top:Int) ≤ 18446744073709551615:=by omega
 have htt:t ≤ top:=by rw [← ht]; exact Nat.div_le_self _ _
 have htti:(t:Int) ≤ 18446744073709551615:=by omega
 have hp0i:(p0:Int) ≤ 18446744073709551615:=by omega
 have hr0i:r0 ≤ 18446744073709551615:=by omega
 have hg0l:g0 ≤ 4294967295:=by omega
 have hg0i:(g0:Int) ≤ 4294967295:=by omega
 have em1:(m:Int) - 1=(m1:Int):=by omega
 have em0:(m:Int) - 2=(n:Int):=by omega
 have im:(m:Int) < (l:Int):=by omega
 have im1:(m1:Int) < (l:Int):=by omega
 have im0:(n:Int) < (l:Int):=by omega
 have im1m:(m1:Int) < (m:Int):=by omega
 have im0m:(n:Int) < (m:Int):=by omega
 have hmi:(m:Int) ≤ 1073741824:=by omega
 have hli:(l:Int) ≤ 1073741824:=by omega
 have lu2i:(u2:Int) ≤ 4294967295:=by omega
 have lu1i:(u1:Int) ≤ 4294967295:=by omega
 have lu0i:(u0:Int) ≤ 4294967295:=by omega
 have lv1i:(v1:Int) ≤ 4294967295:=by omega
 have lv0i:(v0:Int) ≤ 4294967295:=by omega
 have HST:=Lib.hid hst
 have HSTEP:=Lib.hid hstep
 have HSTOP:=Lib.hid hstop
 have HAL:=Lib.hid hA
 have HL:=Lib.hid hl
 have HM:=Lib.hid hm
 have HML:Hid (l=m + 1):=by show _=_; omega
 have HU:=Lib.hid hu
 have HV:=Lib.hid hv
 have HQ:=Lib.hid hq
 have HNE:=Lib.hid hne
 have HCV:=Lib.hid hcv
 have cu2:=own_cell HO (j:=j + m) (row_at hA hu2.out)
 have cu1:=own_cell HO (j:=j + m1) (row_at hA hu1.out)
 have cv1:=hcv m1 v1 hv1s.out
 clear hst hstep hstop hA hl hm hu hv hq hne hcv hV htop htop2 eu2 eu1 eu0 ev1 ev0 lu2 lu1 lu0 lv0 ht hg0 hp0 hr0 hq9 hm2 hl3 hm1e hp0t htt
 go_enter Tryz.func172,Tryz.ntmps172
 go_wp2_with fail
 go_quiet (fail)
 have HOz:(wo.drewN nq).ownsRow base 167 1 (.slice (some ⟨B,0,none⟩) L C) L ((A ++ us ++ Z).map encD):=own_ext HO ((Ext.refl wo).drewN nq)
 have Gz:wo.grownBy (wo.drewN nq) (some B):=⟨rfl,rfl,rfl,Nat.le_refl _,fun _ _ _ => rfl⟩
 have cz1:(wo.drewN nq).cell? ⟨b2,o2 + m1,none⟩=some (.int .u32 v1):=(((Ext.refl wo).drewN nq).cell cv1)
 clear cu2 cu1 cv1 HO
 generalize wo.drewN nq=wz at *
 go_wp2_with fail
 go_loopw [7,8] (fun gv rv wr => ∃ (g r:Nat),gv=.int .u64 g ∧ rv=.int .u64 r ∧ g ≤ 4294967295 ∧ r ≤ 18446744073709551615 ∧ Hid (GI top v1 q g r) ∧ wr.ownsRow base 167 1 (.slice (some ⟨B,0,none⟩) L C) L ((A ++ us ++ Z).map encD) ∧ wo.grownBy wr (some B)) (fun gv _ _ => (intOf gv).toNat)
 case atStart => exact ⟨g0,r0,rfl,rfl,hg0l,hr0i,HST.out,HOz,Gz⟩
 case round =>
  obtain ⟨g,r,rfl,rfl,hg,hr,HI,HO,G⟩:=hrel
  have hgi:(g:Int) ≤ 4294967295:=by omega
  have hri:(r:Int) ≤ 18446744073709551615:=by omega
  obtain ⟨p,hp⟩:∃ p,g * v0=p:=⟨_,rfl⟩
  have hpl:=mul_bound (c:=0) hg (show v0 < 4294967296 by omega) (by omega)
  rw [hp] at hpl
  have hpli:(p:Int) ≤ 18446744065119617025:=by omega
  have epi:(g:Int) * (v0:Int)=(p:Int):=by rw [← hp,Int.natCast_mul]
  have cu0:=own_cell HO (j:=j + n) (row_at HAL.out hu0.out)
  have cv0:wr.cell? ⟨b2,o2 + n,none⟩=some (.int .u32 v0):=G.cell (HCV.out n v0 hv0s.out) (fun e => HNE.out (Option.some.inj e))
  have cv1:wr.cell? ⟨b2,o2 + m1,none⟩=some (.int .u32 v1):=G.cell (HCV.out m1 v1 hv1s.out) (fun e => HNE.out (Option.some.inj e))
  have HOd:Hid (∀ k,(wr.drewN k).ownsRow base 167 1 (.slice (some ⟨B,0,none⟩) L C) L ((A ++ us ++ Z).map encD)):=fun k => own_ext HO ((Ext.refl wr).drewN k)
  have Gd:Hid (∀ k,wo.grownBy (wr.drewN k) (some B)):=fun k => ⟨G.os,G.tape,G.output,G.size,G.block⟩
  clear HO
  by_cases hgo:r < 4294967296 ∧ r * 4294967296 + u0 < p
  · obtain ⟨hr32,hcond⟩:=hgo
    obtain ⟨hg1,hnext⟩:=HSTEP.out g r HI.out (by rw [hp]; exact hcond)
    have eor0:=or64_hi r u0 hr32 (by omega)
    have hr32i:(r:Int) < 4294967296:=by omega
    have hci:(r:Int) * 4294967296 + (u0:Int) < (p:Int):=by omega
    have hg1i:(1:Int) ≤ (g:Int):=by omega
    obtain ⟨g2,hg2⟩:∃ g2,g - 1=g2:=⟨_,rfl⟩
    obtain ⟨r2,hr2⟩:∃ r2,r + v1=r2:=⟨_,rfl⟩
    rw [hg2,hr2] at hnext
    have hg2i:(g:Int) - 1=(g2:Int):=by omega
    have hr2i:(r:Int) + (v1:Int)=(r2:Int):=by omega
    have hd1:decide ((r:Int) < 4294967296)=true:=decide_eq_true hr32i
    have hd2:decide ((r:Int) * 4294967296 + (u0:Int) < (p:Int))=true:=decide_eq_true hci
    have HN:=Lib.hid hnext
    have cv1z:∀ k,(wr.drewN k).cell? ⟨b2,o2 + m1,none⟩=some (.int .u32 v1):=fun k => ((Ext.refl wr).drewN k).cell cv1
    have hg2l:g2 ≤ 4294967295:=by omega
    have hr2l:r2 ≤ 18446744073709551615:=by omega
    have hg2lt:Hid (g2 < g):=by show _ < _; omega
    have hr2li:(r2:Int) ≤ 18446744073709551615:=by omega
    clear hnext hp hpl hg2 hr2 hcond hr32 hg1
    go_wp2_with fail
    go_quiet (fail)
    have cz:=cv1z nq
    clear cv1z cv1 cv0 cu0
    generalize hwz:wr.drewN nq=wy at *
    go_wp2_with fail
    go_roundw
    case rel => exact ⟨g2,r2,rfl,rfl,hg2l,hr2l,HN.out,by rw [← hwz]; exact HOd.out nq,by rw [← hwz]; exact Gd.out nq⟩
    case measure => have:=hg2lt.out; simp [intOf]; omega
  · have hqg:=HI.out.2.1
    have hgq:=HSTOP.out g r HI.out (by rw [hp]; omega)
    have hend:=HEND.out g (by omega) (by rw [HQ.out]; exact hqg) (by rw [HQ.out]; exact hgq)
    have hF1:=mulSub_len g us vs 0 0
    have hF2:=mulSub_dg g us vs 0 0
    have hF3:=mulSub_bor g us vs 0 0 (by omega)
    obtain ⟨F,hF⟩:∃ F,mulSub g us vs 0 0=F:=⟨_,rfl⟩
    rw [hF] at hend hF1 hF2 hF3
    have HEN:=Lib.hid hend
    have HF:=Lib.hid hF
    have HF1:=Lib.hid hF1
    have HF2:=Lib.hid hF2
    have HF3:=Lib.hid hF3
    have hcase:4294967296 ≤ r ∨ (r < 4294967296 ∧ p ≤ r * 4294967296 + u0):=by omega
    clear hgo hqg hgq hend hF hF1 hF2 hF3 hp hpl
    rcases hcase with hr32 | ⟨hr32,hcond⟩
    · have hr32i:(4294967296:Int) ≤ (r:Int):=by omega
      have hd1:decide ((r:Int) < 4294967296)=false:=decide_eq_false (by omega)
      clear hr32 cv1
      go_wp2_with fail
      go_quiet (fail)
      clear cv0 cu0
      generalize hwz:wr.drewN nq=wy at *
      have HOy:wy.ownsRow base 167 1 (.slice (some ⟨B,0,none⟩) L C) L ((A ++ us ++ Z).map encD):=by rw [← hwz]; exact HOd.out nq
      have Gy:wo.grownBy wy (some B):=by rw [← hwz]; exact Gd.out nq
      clear hwz hd1 hr32i
      go_wp2_with fail
      go_loopw [9,10,83] (fun cv bv iv wr => ∃ (i c b:Nat) (os:List Nat),i ≤ l ∧ iv=.int .i64 i ∧ cv=.int .u64 c ∧ bv=.int .i64 b ∧ c ≤ 4294967295 ∧ b ≤ 1 ∧ Hid (os.length=i) ∧ wr.ownsRow base 167 1 (.slice (some ⟨B,0,none⟩) L C) L ((A ++ (os ++ us.drop i) ++ Z).map encD) ∧ wo.grownBy wr (some B) ∧ Hid ((os ++ (mulSub g (us.drop i) (vs.drop i) c b).1,(mulSub g (us.drop i) (vs.drop i) c b).2)=F)) (fun _ _ iv _ => l - (intOf iv).toNat)
      case atStart => exact ⟨0,0,0,[],Nat.zero_le _,rfl,rfl,rfl,by omega,by omega,rfl,HOy,Gy,HF.out⟩
      case round =>
       obtain ⟨i,c,b,os,hi,rfl,rfl,rfl,hc,hb,HOL,HO,G,HI⟩:=hrel
       have hci:(c:Int) ≤ 4294967295:=by omega
       have hbi:(b:Int) ≤ 1:=by omega
       by_cases hlt:i < l
       · obtain ⟨u,x1,x2,x3⟩:=get_lt (show i < us.length by rw [HL.out]; exact hlt)
         have hul:=HU.out.at x1.out
         have huli:(u:Int) ≤ 4294967295:=by omega
         have hki:(i:Int) < (l:Int):=by omega
         have hi2:=HI.out
         rw [x2.out] at hi2 HO
         have cu:=own_cell HO (j:=j + i) (x:=.int .u32 u) (by
          have:=row_at (A:=A) (us:=os ++ u :: us.drop (i + 1)) (Z:=Z) (i:=i) (x:=u) HAL.out (by rw [List.getElem?_append_right (by rw [HOL.out]; exact Nat.le_refl _),HOL.out,Nat.sub_self]; rfl)
          exact this)
         have fu:=HO.frozenAt (j + i)
         obtain ⟨v,hv⟩:∃ v,vs.getD i 0=v:=⟨_,rfl⟩
         have hvl:v < 4294967296:=by
          rw [← hv]
          by_cases him:i < vs.length
          · rw [List.getD_eq_getElem?_getD,List.getElem?_eq_getElem him]; exact HV.out _ (List.getElem_mem ..)
          · rw [List.getD_eq_getElem?_getD,List.getElem?_eq_none (by omega)]; decide
         obtain ⟨s,hs⟩:∃ s,c + g * v=s:=⟨_,rfl⟩
         obtain ⟨lo,hlo⟩:∃ lo,s % 4294967296=lo:=⟨_,rfl⟩
         obtain ⟨hh,hhh⟩:∃ hh,s / 4294967296=hh:=⟨_,rfl⟩
         obtain ⟨bb,hbb⟩:∃ bb,bor u lo b=bb:=⟨_,rfl⟩
         obtain ⟨y,hy⟩:∃ y,(u + 4294967296 - b - lo) % 4294967296=y:=⟨_,rfl⟩
         obtain ⟨pp,hpp⟩:∃ pp,g * v=pp:=⟨_,rfl⟩
         have hvli:(v:Int) ≤ 4294967295:=by omega
         have hbd:=mul_bound hg hvl hc
         have hstp:=mulSub_step (us:=us.drop (i + 1)) (vs:=vs.drop i) (by rw [headD_drop]; exact hv) hs hlo hhh hbb hy
         rw [hstp,tail_drop] at hi2
         have HI2:Hid (((os ++ [y]) ++ (mulSub g (us.drop (i + 1)) (vs.drop (i + 1)) hh bb).1,(mulSub g (us.drop (i + 1)) (vs.drop (i + 1)) hh bb).2)=F):=by show _=_; rw [List.append_assoc]; exact hi2
         have HOL2:Hid ((os ++ [y]).length=i + 1):=by show _=_; rw [List.length_append,HOL.out]; rfl
         have s1:=HO.stored (j + i) (.int .u32 y)
         rw [row_set HAL.out HOL.out] at s1
         have H1:=Lib.hid s1.1
         have G1:=Lib.hid (Lib.grownBy_setB G (j + i) (.int .u32 y))
         rw [hpp] at hs hbd
         have hsl:s ≤ 18446744069414584320:=by rw [← hs]; exact hbd.2.1
         have hhl:hh ≤ 4294967295:=by rw [← hhh,← hs]; exact hbd.2.2
         have epp:(g:Int) * (v:Int)=(pp:Int):=by rw [← hpp,Int.natCast_mul]
         have hppi:(pp:Int) ≤ 18446744065119617025:=by have:=hbd.1; omega
         have es:(c:Int) + (pp:Int)=(s:Int):=by omega
         have hsi:(s:Int) ≤ 18446744069414584320:=by omega
         have elo:(s:Int) % 4294967296=(lo:Int):=by omega
         have ehh:(s:Int) / 4294967296=(hh:Int):=by omega
         have hlol:(lo:Int) ≤ 4294967295:=by omega
         have eand:bits .and .u64 (s:Int) 4294967295=(lo:Int):=by
          have:=bits_mask .u64 64 (by decide) wraps64 32 (by omega) (s:Int) (by omega) (by omega)
          rw [show ((2:Int) ^ 32 - 1)=4294967295 by decide,show ((2:Int) ^ 32)=4294967296 by decide] at this
          rw [this]; exact elo
         have hyl:(y:Int) ≤ 4294967295:=by omega
         have hneg:(u < b + lo ∧ bb=1 ∧ (u:Int) - (lo:Int) - (b:Int) < 0 ∧ (u:Int) - (lo:Int) - (b:Int) + 4294967296=(y:Int)) ∨ (b + lo ≤ u ∧ bb=0 ∧ 0 ≤ (u:Int) - (lo:Int) - (b:Int) ∧ (u:Int) - (lo:Int) - (b:Int)=(y:Int)):=by
          rw [← hbb]; unfold bor
          by_cases h:u < b + lo
          · refine .inl ⟨h,if_pos h,by omega,by omega⟩
          · refine .inr ⟨by omega,if_neg h,by omega,by omega⟩
         have him:(i < m ∧ Hid (vs[i]?=some v)) ∨ (m ≤ i ∧ pp=0):=by
          by_cases h:i < m
          · refine .inl ⟨h,?_⟩
            show _=_
            rw [← hv,List.getD_eq_getElem?_getD,List.getElem?_eq_getElem (by rw [HM.out]; exact h)]; rfl
          · refine .inr ⟨by omega,?_⟩
            have:v=0:=by rw [← hv,List.getD_eq_getElem?_getD,List.getElem?_eq_none (by rw [HM.out]; omega)]; rfl
            rw [← hpp,this,Nat.mul_zero]
         clear hi2 hstp s1 hs hlo hhh hbb hy hpp hbd hv hvl
         rcases him with ⟨h,hvs⟩ | ⟨h,h0⟩
         · have hmi2:(i:Int) < (m:Int):=by omega
           have cv:wr.cell? ⟨b2,o2 + i,none⟩=some (.int .u32 v):=G.cell (HCV.out i v hvs.out) (fun e => HNE.out (Option.some.inj e))
           clear h
           rcases hneg with ⟨n1,rfl,n2,n3⟩ | ⟨n1,rfl,n2,n3⟩
           all_goals
            clear n1
            go_wp2_with fail
            go_roundw
            case rel => first | exact ⟨i + 1,hh,1,os ++ [y],by omega,by go_num,rfl,rfl,hhl,by omega,HOL2.out,H1.out,G1.out,HI2.out⟩ | exact ⟨i + 1,hh,0,os ++ [y],by omega,by go_num,rfl,rfl,hhl,by omega,HOL2.out,H1.out,G1.out,HI2.out⟩
            case measure => simp [intOf]; omega
         · have hmi2:(m:Int) ≤ (i:Int):=by omega
           subst h0
           have es2:c=s:=by omega
           subst es2
           clear h es
           rcases hneg with ⟨n1,rfl,n2,n3⟩ | ⟨n1,rfl,n2,n3⟩
           all_goals
            clear n1
            go_wp2_with fail
            go_roundw
            case rel => first | exact ⟨i + 1,hh,1,os ++ [y],by omega,by go_num,rfl,rfl,hhl,by omega,HOL2.out,H1.out,G1.out,HI2.out⟩ | exact ⟨i + 1,hh,0,os ++ [y],by omega,by go_num,rfl,rfl,hhl,by omega,HOL2.out,H1.out,G1.out,HI2.out⟩
            case measure => simp [intOf]; omega
       · have hil:l=i:=by omega
         subst hil
         have hi2:=HI.out
         have hdu:us.drop l=[]:=List.drop_eq_nil_of_le (by rw [HL.out]; exact Nat.le_refl _)
         rw [hdu] at hi2 HO
         simp only [mulSub,List.append_nil] at hi2
         rw [List.append_nil] at HO
         have hen:=HEN.out
         have hdo:=HF2.out
         rw [← hi2] at hen hdo
         have hdo2:Dg os:=hdo
         have hen1:b=0 → g=val us / val vs ∧ val os=val us % val vs:=hen.1
         have hen2:b ≠ 0 → 1 ≤ g ∧ g - 1=val us / val vs ∧ val (addN os vs 0).1=val us % val vs:=hen.2
         clear hi2 hdu HI hen hdo hlt
         by_cases hb0:b=0
         · subst hb0
           obtain ⟨hgq,hvo⟩:=hen1 rfl
           have HRES:Hid (DigitPost base B L C l A us Z vs wo (.returned (.int .u32 (g:Nat))) wr):=⟨g,os,rfl,hgq,HOL.out,hdo2,hvo,HO,G⟩
           clear hen1 hen2 hgq hvo hdo2
           go_wp2_with fail
           go_ret
           exact HRES.out
         · have hb1:b=1:=by omega
           subst hb1
           obtain ⟨hg1,hgq,hvo⟩:=hen2 (by decide)
           obtain ⟨gm,hgm⟩:∃ gm,g - 1=gm:=⟨_,rfl⟩
           rw [hgm] at hgq
           have hgmi:(g:Int) - 1=(gm:Int):=by omega
           have hgml:(gm:Int) ≤ 4294967295:=by omega
           have hP1:=addN_len os vs 0
           have hP2:=addN_dg os vs 0
           obtain ⟨P,hP⟩:∃ P,addN os vs 0=P:=⟨_,rfl⟩
           rw [hP] at hP1 hP2 hvo
           have HGQ:=Lib.hid hgq
           have HVO:=Lib.hid hvo
           have HDO:=Lib.hid hdo2
           have HP:=Lib.hid hP
           have HP1:=Lib.hid hP1
           have HP2:=Lib.hid hP2
           obtain ⟨wq,rfl⟩:∃ wq:World,wq=wr:=⟨_,rfl⟩
           clear hen1 hen2 hgq hvo hdo2 hP hP1 hP2 hgm hb0
           go_wp2_with fail
           go_loopw [13,127] (fun sv iv wr => ∃ (i s:Nat) (ps:List Nat),i ≤ l ∧ iv=.int .i64 i ∧ sv=.int .u64 s ∧ s ≤ 4 ∧ Hid (ps.length=i) ∧ wr.ownsRow base 167 1 (.slice (some ⟨B,0,none⟩) L C) L ((A ++ (ps ++ os.drop i) ++ Z).map encD) ∧ wo.grownBy wr (some B) ∧ Hid (ps ++ (addN (os.drop i) (vs.drop i) s).1=P.1)) (fun _ iv _ => l - (intOf iv).toNat)
           case atStart => exact ⟨0,0,[],Nat.zero_le _,rfl,rfl,by omega,rfl,HO,G,by show _=_; exact congrArg Prod.fst HP.out⟩
           case round =>
            obtain ⟨i,s,ps,hi,rfl,rfl,hs4,HPL,HO,G,HI⟩:=hrel
            have hs4i:(s:Int) ≤ 4:=by omega
            by_cases hlt:i < l
            · obtain ⟨u,x1,x2,x3⟩:=get_lt (show i < os.length by rw [HOL.out]; exact hlt)
              have hul:=HDO.out.at x1.out
              have huli:(u:Int) ≤ 4294967295:=by omega
              have hki:(i:Int) < (l:Int):=by omega
              have hi2:=HI.out
              rw [x2.out] at hi2 HO
              have cu:=own_cell HO (j:=j + i) (x:=.int .u32 u) (by
               have:=row_at (A:=A) (us:=ps ++ u :: os.drop (i + 1)) (Z:=Z) (i:=i) (x:=u) HAL.out (by rw [List.getElem?_append_right (by rw [HPL.out]; exact Nat.le_refl _),HPL.out,Nat.sub_self]; rfl)
               exact this)
              have fu:=HO.frozenAt (j + i)
              obtain ⟨v,hv⟩:∃ v,vs.getD i 0=v:=⟨_,rfl⟩
              have hvl:v < 4294967296:=by
               rw [← hv]
               by_cases him:i < vs.length
               · rw [List.getD_eq_getElem?_getD,List.getElem?_eq_getElem him]; exact HV.out _ (List.getElem_mem ..)
               · rw [List.getD_eq_getElem?_getD,List.getElem?_eq_none (by omega)]; decide
              obtain ⟨t,ht⟩:∃ t,s + u + v=t:=⟨_,rfl⟩
              obtain ⟨lo,hlo⟩:∃ lo,t % 4294967296=lo:=⟨_,rfl⟩
              obtain ⟨hh,hhh⟩:∃ hh,t / 4294967296=hh:=⟨_,rfl⟩
              have hvli:(v:Int) ≤ 4294967295:=by omega
              have hstp:=addN_step (us:=os.drop (i + 1)) (vs:=vs.drop i) (by rw [headD_drop]; exact hv) ht hlo hhh
              rw [hstp,tail_drop] at hi2
              have HI2:Hid ((ps ++ [lo]) ++ (addN (os.drop (i + 1)) (vs.drop (i + 1)) hh).1=P.1):=by show _=_; rw [List.append_assoc]; exact hi2
              have HPL2:Hid ((ps ++ [lo]).length=i + 1):=by show _=_; rw [List.length_append,HPL.out]; rfl
              have s1:=HO.stored (j + i) (.int .u32 lo)
              rw [row_set HAL.out HPL.out] at s1
              have H1:=Lib.hid s1.1
              have G1:=Lib.hid (Lib.grownBy_setB G (j + i) (.int .u32 lo))
              have htl:t ≤ 8589934594:=by omega
              have hhl:hh ≤ 4:=by omega
              have es:(s:Int) + (u:Int) + (v:Int)=(t:Int):=by omega
              have hti:(t:Int) ≤ 8589934594:=by omega
              have elo:(t:Int) % 4294967296=(lo:Int):=by omega
              have ehh:(t:Int) / 4294967296=(hh:Int):=by omega
              have hlol:(lo:Int) ≤ 4294967295:=by omega
              have him:(i < m ∧ Hid (vs[i]?=some v)) ∨ (m ≤ i ∧ v=0):=by
               by_cases h:i < m
               · refine .inl ⟨h,?_⟩
                 show _=_
                 rw [← hv,List.getD_eq_getElem?_getD,List.getElem?_eq_getElem (by rw [HM.out]; exact h)]; rfl
               · refine .inr ⟨by omega,?_⟩
                 rw [← hv,List.getD_eq_getElem?_getD,List.getElem?_eq_none (by rw [HM.out]; omega)]; rfl
              clear hi2 hstp s1 ht hlo hhh hv hvl
              rcases him with ⟨h,hvs⟩ | ⟨h,h0⟩
              · have hmi2:(i:Int) < (m:Int):=by omega
                have cv:wr.cell? ⟨b2,o2 + i,none⟩=some (.int .u32 v):=G.cell (HCV.out i v hvs.out) (fun e => HNE.out (Option.some.inj e))
                clear h
                go_wp2_with fail
                go_roundw
                case rel => exact ⟨i + 1,hh,ps ++ [lo],by omega,by go_num,rfl,hhl,HPL2.out,H1.out,G1.out,HI2.out⟩
                case measure => simp [intOf]; omega
              · have hmi2:(m:Int) ≤ (i:Int):=by omega
                subst h0
                have es2:(s:Int) + (u:Int)=(t:Int):=by omega
                clear h es
                go_wp2_with fail
                go_roundw
                case rel => exact ⟨i + 1,hh,ps ++ [lo],by omega,by go_num,rfl,hhl,HPL2.out,H1.out,G1.out,HI2.out⟩
                case measure => simp [intOf]; omega
            · have hil:l=i:=by omega
              subst hil
              have hi2:=HI.out
              have hdu:os.drop l=[]:=List.drop_eq_nil_of_le (by rw [HOL.out]; exact Nat.le_refl _)
              rw [hdu] at hi2 HO
              simp only [addN,List.append_nil] at hi2
              rw [List.append_nil] at HO
              have HRES:Hid (DigitPost base B L C l A us Z vs wo (.returned (.int .u32 (gm:Nat))) wr):=⟨gm,ps,rfl,HGQ.out,HPL.out,by rw [hi2]; exact HP2.out,by rw [hi2]; exact HVO.out,HO,G⟩
              clear hi2 hdu HI hlt
              go_wp2_with fail
              go_ret
              exact HRES.out
    · have eor0:=or64_hi r u0 hr32 (by omega)
      have hr32i:(r:Int) < 4294967296:=by omega
      have hci:(p:Int) ≤ (r:Int) * 4294967296 + (u0:Int):=by omega
      have hd1:decide ((r:Int) < 4294967296)=true:=decide_eq_true hr32i
      have hd2:decide ((r:Int) * 4294967296 + (u0:Int) < (p:Int))=false:=decide_eq_false (by omega)
      clear hr32 hcond cv1
      go_wp2_with fail
      go_quiet (fail)
      clear cv0 cu0
      generalize hwz:wr.drewN nq=wy at *
      have HOy:wy.ownsRow base 167 1 (.slice (some ⟨B,0,none⟩) L C) L ((A ++ us ++ Z).map encD):=by rw [← hwz]; exact HOd.out nq
      have Gy:wo.grownBy wy (some B):=by rw [← hwz]; exact Gd.out nq
      clear hwz hd1 hd2 hr32i hci eor0
      go_wp2_with fail
      go_loopw [9,10,83] (fun cv bv iv wr => ∃ (i c b:Nat) (os:List Nat),i ≤ l ∧ iv=.int .i64 i ∧ cv=.int .u64 c ∧ bv=.int .i64 b ∧ c ≤ 4294967295 ∧ b ≤ 1 ∧ Hid (os.length=i) ∧ wr.ownsRow base 167 1 (.slice (some ⟨B,0,none⟩) L C) L ((A ++ (os ++ us.drop i) ++ Z).map encD) ∧ wo.grownBy wr (some B) ∧ Hid ((os ++ (mulSub g (us.drop i) (vs.drop i) c b).1,(mulSub g (us.drop i) (vs.drop i) c b).2)=F)) (fun _ _ iv _ => l - (intOf iv).toNat)
      case atStart => exact ⟨0,0,0,[],Nat.zero_le _,rfl,rfl,rfl,by omega,by omega,rfl,HOy,Gy,HF.out⟩
      case round =>
       obtain ⟨i,c,b,os,hi,rfl,rfl,rfl,hc,hb,HOL,HO,G,HI⟩:=hrel
       have hci:(c:Int) ≤ 4294967295:=by omega
       have hbi:(b:Int) ≤ 1:=by omega
       by_cases hlt:i < l
       · obtain ⟨u,x1,x2,x3⟩:=get_lt (show i < us.length by rw [HL.out]; exact hlt)
         have hul:=HU.out.at x1.out
         have huli:(u:Int) ≤ 4294967295:=by omega
         have hki:(i:Int) < (l:Int):=by omega
         have hi2:=HI.out
         rw [x2.out] at hi2 HO
         have cu:=own_cell HO (j:=j + i) (x:=.int .u32 u) (by
          have:=row_at (A:=A) (us:=os ++ u :: us.drop (i + 1)) (Z:=Z) (i:=i) (x:=u) HAL.out (by rw [List.getElem?_append_right (by rw [HOL.out]; exact Nat.le_refl _),HOL.out,Nat.sub_self]; rfl)
          exact this)
         have fu:=HO.frozenAt (j + i)
         obtain ⟨v,hv⟩:∃ v,vs.getD i 0=v:=⟨_,rfl⟩
         have hvl:v < 4294967296:=by
          rw [← hv]
          by_cases him:i < vs.length
          · rw [List.getD_eq_getElem?_getD,List.getElem?_eq_getElem him]; exact HV.out _ (List.getElem_mem ..)
          · rw [List.getD_eq_getElem?_getD,List.getElem?_eq_none (by omega)]; decide
         obtain ⟨s,hs⟩:∃ s,c + g * v=s:=⟨_,rfl⟩
         obtain ⟨lo,hlo⟩:∃ lo,s % 4294967296=lo:=⟨_,rfl⟩
         obtain ⟨hh,hhh⟩:∃ hh,s / 4294967296=hh:=⟨_,rfl⟩
         obtain ⟨bb,hbb⟩:∃ bb,bor u lo b=bb:=⟨_,rfl⟩
         obtain ⟨y,hy⟩:∃ y,(u + 4294967296 - b - lo) % 4294967296=y:=⟨_,rfl⟩
         obtain ⟨pp,hpp⟩:∃ pp,g * v=pp:=⟨_,rfl⟩
         have hvli:(v:Int) ≤ 4294967295:=by omega
         have hbd:=mul_bound hg hvl hc
         have hstp:=mulSub_step (us:=us.drop (i + 1)) (vs:=vs.drop i) (by rw [headD_drop]; exact hv) hs hlo hhh hbb hy
         rw [hstp,tail_drop] at hi2
         have HI2:Hid (((os ++ [y]) ++ (mulSub g (us.drop (i + 1)) (vs.drop (i + 1)) hh bb).1,(mulSub g (us.drop (i + 1)) (vs.drop (i + 1)) hh bb).2)=F):=by show _=_; rw [List.append_assoc]; exact hi2
         have HOL2:Hid ((os ++ [y]).length=i + 1):=by show _=_; rw [List.length_append,HOL.out]; rfl
         have s1:=HO.stored (j + i) (.int .u32 y)
         rw [row_set HAL.out HOL.out] at s1
         have H1:=Lib.hid s1.1
         have G1:=Lib.hid (Lib.grownBy_setB G (j + i) (.int .u32 y))
         rw [hpp] at hs hbd
         have hsl:s ≤ 18446744069414584320:=by rw [← hs]; exact hbd.2.1
         have hhl:hh ≤ 4294967295:=by rw [← hhh,← hs]; exact hbd.2.2
         have epp:(g:Int) * (v:Int)=(pp:Int):=by rw [← hpp,Int.natCast_mul]
         have hppi:(pp:Int) ≤ 18446744065119617025:=by have:=hbd.1; omega
         have es:(c:Int) + (pp:Int)=(s:Int):=by omega
         have hsi:(s:Int) ≤ 18446744069414584320:=by omega
         have elo:(s:Int) % 4294967296=(lo:Int):=by omega
         have ehh:(s:Int) / 4294967296=(hh:Int):=by omega
         have hlol:(lo:Int) ≤ 4294967295:=by omega
         have eand:bits .and .u64 (s:Int) 4294967295=(lo:Int):=by
          have:=bits_mask .u64 64 (by decide) wraps64 32 (by omega) (s:Int) (by omega) (by omega)
          rw [show ((2:Int) ^ 32 - 1)=4294967295 by decide,show ((2:Int) ^ 32)=4294967296 by decide] at this
          rw [this]; exact elo
         have hyl:(y:Int) ≤ 4294967295:=by omega
         have hneg:(u < b + lo ∧ bb=1 ∧ (u:Int) - (lo:Int) - (b:Int) < 0 ∧ (u:Int) - (lo:Int) - (b:Int) + 4294967296=(y:Int)) ∨ (b + lo ≤ u ∧ bb=0 ∧ 0 ≤ (u:Int) - (lo:Int) - (b:Int) ∧ (u:Int) - (lo:Int) - (b:Int)=(y:Int)):=by
          rw [← hbb]; unfold bor
          by_cases h:u < b + lo
          · refine .inl ⟨h,if_pos h,by omega,by omega⟩
          · refine .inr ⟨by omega,if_neg h,by omega,by omega⟩
         have him:(i < m ∧ Hid (vs[i]?=some v)) ∨ (m ≤ i ∧ pp=0):=by
          by_cases h:i < m
          · refine .inl ⟨h,?_⟩
            show _=_
            rw [← hv,List.getD_eq_getElem?_getD,List.getElem?_eq_getElem (by rw [HM.out]; exact h)]; rfl
          · refine .inr ⟨by omega,?_⟩
            have:v=0:=by rw [← hv,List.getD_eq_getElem?_getD,List.getElem?_eq_none (by rw [HM.out]; omega)]; rfl
            rw [← hpp,this,Nat.mul_zero]
         clear hi2 hstp s1 hs hlo hhh hbb hy hpp hbd hv hvl
         rcases him with ⟨h,hvs⟩ | ⟨h,h0⟩
         · have hmi2:(i:Int) < (m:Int):=by omega
           have cv:wr.cell? ⟨b2,o2 + i,none⟩=some (.int .u32 v):=G.cell (HCV.out i v hvs.out) (fun e => HNE.out (Option.some.inj e))
           clear h
           rcases hneg with ⟨n1,rfl,n2,n3⟩ | ⟨n1,rfl,n2,n3⟩
           all_goals
            clear n1
            go_wp2_with fail
            go_roundw
            case rel => first | exact ⟨i + 1,hh,1,os ++ [y],by omega,by go_num,rfl,rfl,hhl,by omega,HOL2.out,H1.out,G1.out,HI2.out⟩ | exact ⟨i + 1,hh,0,os ++ [y],by omega,by go_num,rfl,rfl,hhl,by omega,HOL2.out,H1.out,G1.out,HI2.out⟩
            case measure => simp [intOf]; omega
         · have hmi2:(m:Int) ≤ (i:Int):=by omega
           subst h0
           have es2:c=s:=by omega
           subst es2
           clear h es
           rcases hneg with ⟨n1,rfl,n2,n3⟩ | ⟨n1,rfl,n2,n3⟩
           all_goals
            clear n1
            go_wp2_with fail
            go_roundw
            case rel => first | exact ⟨i + 1,hh,1,os ++ [y],by omega,by go_num,rfl,rfl,hhl,by omega,HOL2.out,H1.out,G1.out,HI2.out⟩ | exact ⟨i + 1,hh,0,os ++ [y],by omega,by go_num,rfl,rfl,hhl,by omega,HOL2.out,H1.out,G1.out,HI2.out⟩
            case measure => simp [intOf]; omega
       · have hil:l=i:=by omega
         subst hil
         have hi2:=HI.out
         have hdu:us.drop l=[]:=List.drop_eq_nil_of_le (by rw [HL.out]; exact Nat.le_refl _)
         rw [hdu] at hi2 HO
         simp only [mulSub,List.append_nil] at hi2
         rw [List.append_nil] at HO
         have hen:=HEN.out
         have hdo:=HF2.out
         rw [← hi2] at hen hdo
         have hdo2:Dg os:=hdo
         have hen1:b=0 → g=val us / val vs ∧ val os=val us % val vs:=hen.1
         have hen2:b ≠ 0 → 1 ≤ g ∧ g - 1=val us / val vs ∧ val (addN os vs 0).1=val us % val vs:=hen.2
         clear hi2 hdu HI hen hdo hlt
         by_cases hb0:b=0
         · subst hb0
           obtain ⟨hgq,hvo⟩:=hen1 rfl
           have HRES:Hid (DigitPost base B L C l A us Z vs wo (.returned (.int .u32 (g:Nat))) wr):=⟨g,os,rfl,hgq,HOL.out,hdo2,hvo,HO,G⟩
           clear hen1 hen2 hgq hvo hdo2
           go_wp2_with fail
           go_ret
           exact HRES.out
         · have hb1:b=1:=by omega
           subst hb1
           obtain ⟨hg1,hgq,hvo⟩:=hen2 (by decide)
           obtain ⟨gm,hgm⟩:∃ gm,g - 1=gm:=⟨_,rfl⟩
           rw [hgm] at hgq
           have hgmi:(g:Int) - 1=(gm:Int):=by omega
           have hgml:(gm:Int) ≤ 4294967295:=by omega
           have hP1:=addN_len os vs 0
           have hP2:=addN_dg os vs 0
           obtain ⟨P,hP⟩:∃ P,addN os vs 0=P:=⟨_,rfl⟩
           rw [hP] at hP1 hP2 hvo
           have HGQ:=Lib.hid hgq
           have HVO:=Lib.hid hvo
           have HDO:=Lib.hid hdo2
           have HP:=Lib.hid hP
           have HP1:=Lib.hid hP1
           have HP2:=Lib.hid hP2
           obtain ⟨wq,rfl⟩:∃ wq:World,wq=wr:=⟨_,rfl⟩
           clear hen1 hen2 hgq hvo hdo2 hP hP1 hP2 hgm hb0
           go_wp2_with fail
           go_loopw [13,127] (fun sv iv wr => ∃ (i s:Nat) (ps:List Nat),i ≤ l ∧ iv=.int .i64 i ∧ sv=.int .u64 s ∧ s ≤ 4 ∧ Hid (ps.length=i) ∧ wr.ownsRow base 167 1 (.slice (some ⟨B,0,none⟩) L C) L ((A ++ (ps ++ os.drop i) ++ Z).map encD) ∧ wo.grownBy wr (some B) ∧ Hid (ps ++ (addN (os.drop i) (vs.drop i) s).1=P.1)) (fun _ iv _ => l - (intOf iv).toNat)
           case atStart => exact ⟨0,0,[],Nat.zero_le _,rfl,rfl,by omega,rfl,HO,G,by show _=_; exact congrArg Prod.fst HP.out⟩
           case round =>
            obtain ⟨i,s,ps,hi,rfl,rfl,hs4,HPL,HO,G,HI⟩:=hrel
            have hs4i:(s:Int) ≤ 4:=by omega
            by_cases hlt:i < l
            · obtain ⟨u,x1,x2,x3⟩:=get_lt (show i < os.length by rw [HOL.out]; exact hlt)
              have hul:=HDO.out.at x1.out
              have huli:(u:Int) ≤ 4294967295:=by omega
              have hki:(i:Int) < (l:Int):=by omega
              have hi2:=HI.out
              rw [x2.out] at hi2 HO
              have cu:=own_cell HO (j:=j + i) (x:=.int .u32 u) (by
               have:=row_at (A:=A) (us:=ps ++ u :: os.drop (i + 1)) (Z:=Z) (i:=i) (x:=u) HAL.out (by rw [List.getElem?_append_right (by rw [HPL.out]; exact Nat.le_refl _),HPL.out,Nat.sub_self]; rfl)
               exact this)
              have fu:=HO.frozenAt (j + i)
              obtain ⟨v,hv⟩:∃ v,vs.getD i 0=v:=⟨_,rfl⟩
              have hvl:v < 4294967296:=by
               rw [← hv]
               by_cases him:i < vs.length
               · rw [List.getD_eq_getElem?_getD,List.getElem?_eq_getElem him]; exact HV.out _ (List.getElem_mem ..)
               · rw [List.getD_eq_getElem?_getD,List.getElem?_eq_none (by omega)]; decide
              obtain ⟨t,ht⟩:∃ t,s + u + v=t:=⟨_,rfl⟩
              obtain ⟨lo,hlo⟩:∃ lo,t % 4294967296=lo:=⟨_,rfl⟩
              obtain ⟨hh,hhh⟩:∃ hh,t / 4294967296=hh:=⟨_,rfl⟩
              have hvli:(v:Int) ≤ 4294967295:=by omega
              have hstp:=addN_step (us:=os.drop (i + 1)) (vs:=vs.drop i) (by rw [headD_drop]; exact hv) ht hlo hhh
              rw [hstp,tail_drop] at hi2
              have HI2:Hid ((ps ++ [lo]) ++ (addN (os.drop (i + 1)) (vs.drop (i + 1)) hh).1=P.1):=by show _=_; rw [List.append_assoc]; exact hi2
              have HPL2:Hid ((ps ++ [lo]).length=i + 1):=by show _=_; rw [List.length_append,HPL.out]; rfl
              have s1:=HO.stored (j + i) (.int .u32 lo)
              rw [row_set HAL.out HPL.out] at s1
              have H1:=Lib.hid s1.1
              have G1:=Lib.hid (Lib.grownBy_setB G (j + i) (.int .u32 lo))
              have htl:t ≤ 8589934594:=by omega
              have hhl:hh ≤ 4:=by omega
              have es:(s:Int) + (u:Int) + (v:Int)=(t:Int):=by omega
              have hti:(t:Int) ≤ 8589934594:=by omega
              have elo:(t:Int) % 4294967296=(lo:Int):=by omega
              have ehh:(t:Int) / 4294967296=(hh:Int):=by omega
              have hlol:(lo:Int) ≤ 4294967295:=by omega
              have him:(i < m ∧ Hid (vs[i]?=some v)) ∨ (m ≤ i ∧ v=0):=by
               by_cases h:i < m
               · refine .inl ⟨h,?_⟩
                 show _=_
                 rw [← hv,List.getD_eq_getElem?_getD,List.getElem?_eq_getElem (by rw [HM.out]; exact h)]; rfl
               · refine .inr ⟨by omega,?_⟩
                 rw [← hv,List.getD_eq_getElem?_getD,List.getElem?_eq_none (by rw [HM.out]; omega)]; rfl
              clear hi2 hstp s1 ht hlo hhh hv hvl
              rcases him with ⟨h,hvs⟩ | ⟨h,h0⟩
              · have hmi2:(i:Int) < (m:Int):=by omega
                have cv:wr.cell? ⟨b2,o2 + i,none⟩=some (.int .u32 v):=G.cell (HCV.out i v hvs.out) (fun e => HNE.out (Option.some.inj e))
                clear h
                go_wp2_with fail
                go_roundw
                case rel => exact ⟨i + 1,hh,ps ++ [lo],by omega,by go_num,rfl,hhl,HPL2.out,H1.out,G1.out,HI2.out⟩
                case measure => simp [intOf]; omega
              · have hmi2:(m:Int) ≤ (i:Int):=by omega
                subst h0
                have es2:(s:Int) + (u:Int)=(t:Int):=by omega
                clear h es
                go_wp2_with fail
                go_roundw
                case rel => exact ⟨i + 1,hh,ps ++ [lo],by omega,by go_num,rfl,hhl,HPL2.out,H1.out,G1.out,HI2.out⟩
                case measure => simp [intOf]; omega
            · have hil:l=i:=by omega
              subst hil
              have hi2:=HI.out
              have hdu:os.drop l=[]:=List.drop_eq_nil_of_le (by rw [HOL.out]; exact Nat.le_refl _)
              rw [hdu] at hi2 HO
              simp only [addN,List.append_nil] at hi2
              rw [List.append_nil] at HO
              have HRES:Hid (DigitPost base B L C l A us Z vs wo (.returned (.int .u32 (gm:Nat))) wr):=⟨gm,ps,rfl,HGQ.out,HPL.out,by rw [hi2]; exact HP2.out,by rw [hi2]; exact HVO.out,HO,G⟩
              clear hi2 hdu HI hlt
              go_wp2_with fail
              go_ret
              exact HRES.out
end Go.Proofs.YtcggohkbmhdohaaGreatDoor
