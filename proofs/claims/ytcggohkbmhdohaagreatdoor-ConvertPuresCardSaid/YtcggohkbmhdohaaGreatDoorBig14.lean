/- walks of package big: Div in general -/
import Derived.Test.YtcggohkbmhdohaaGreatDoorBig13
import Derived.Test.YtcggohkbmhdohaaGreatDoorPlA
namespace Go.Proofs.YtcggohkbmhdohaaGreatDoor
open Go.RowKit
set_option linter.unusedVariables false
theorem ext_grown {w0 w w':World} (h:Ext w0 w) {b:Nat} (g:w.grownBy w' (some b)) (hb:w0.heap.size ≤ b):Ext w0 w' :=
 ⟨g.os.trans h.os,g.tape.trans h.tape,g.output.trans h.output,Nat.le_trans h.size g.size,fun k hk => (g.block k (Nat.lt_of_lt_of_le hk h.size) (fun e => by have:=Option.some.inj e; omega)).trans (h.block k hk)⟩
theorem or32_lo (c s k:Nat) (hk:k ≤ 31) (hc:c < 2 ^ k) (hs:s < 4294967296) (hm:s % 2 ^ k=0):bits .or .u32 (c:Int) (s:Int)=(c:Int) + (s:Int):=by
 have hp:(2:Nat) ^ k ≤ 2 ^ 31:=Nat.pow_le_pow_right (by omega) hk
 have hc32:c < 2 ^ 32:=by omega
 have h1:=(bits_nat .u32 32 (by decide) wraps32 c s hc32 (by omega)).2
 have h2:=(bits_nat .u32 32 (by decide) wraps32 s c (by omega) hc32).2
 rw [h1,Nat.or_comm,← h2]
 rw [bits_join .u32 32 (by decide) wraps32 k _ _ (by omega) (by exact_mod_cast hm) (by omega) (by omega) (by exact_mod_cast hc) (by omega)]
 omega
theorem dig_top {m k x:Nat} (hl:(dig m).length=k + 1) (hx:(dig m)[k]?=some x):x ≠ 0:=by
 have h:=take_last hx
 rw [← hl,List.take_length] at h
 exact dig_last h
set_option maxHeartbeats 3200000 in
set_option maxRecDepth 100000 in
theorem div_big (v u:Value) (n m d0:Nat) (w:World) (hv:NatV w v n) (hu:NatV w u m) (h:m ≤ n) (hm2:(dig m).length=d0 + 2) (hl:(dig n).length ≤ 1073741823) :
 Calls Tryz.prog 149 #[v,u] w (DivPost n m w):=by
 obtain ⟨wo,rfl⟩:∃ wo:World,wo=w:=⟨_,rfl⟩
 have hz:0 ≤ cmpZ n m:=by
  unfold cmpZ
  rw [if_neg (by omega)]
  split <;> omega
 have HC:=Lib.hid (cmp_any v u n m wo hv hu)
 obtain ⟨z,hzz⟩:∃ z,cmpZ n m=z:=⟨_,rfl⟩
 rw [hzz] at HC hz
 have hlmn:=dig_len_le h
 obtain ⟨t1,ht1⟩:∃ t1,d0 + 1=t1:=⟨_,rfl⟩
 obtain ⟨top,htop,_,_⟩:=get_lt (xs:=dig m) (k:=t1) (by omega)
 have htopl:=(dig_dg m).at htop.out
 have htop0:=dig_top (k:=t1) (by omega) htop.out
 have hgt:=getD_of htop.out
 have HSH:=Lib.hid (fun (k p:Nat) (hk:k ≤ 31) (hp:p=2 ^ k) (h1:2147483648 ≤ top * p) (h2:top * p < 4294967296) => shift_facts (M:=m) (n:=d0) hk hp hm2 (by rw [ht1]; exact hgt) h1 h2)
 have HS1:=Lib.hid (fun W k (hx:Ext wo W) (hk:k ≤ 31) => shift_any v (dig n) k W (hv.ext hx) (dig_dg n) hk (by omega))
 have HS2:=Lib.hid (fun W k (hx:Ext wo W) (hk:k ≤ 31) => shift_any u (dig m) k W (hu.ext hx) (dig_dg m) hk (by omega))
 obtain ⟨ao,c,rfl,_,hc⟩:=hu.open
 obtain ⟨b,off,rfl,hcell0⟩:=hc.at htop
 obtain ⟨lm,hlm⟩:∃ lm,(dig m).length=lm:=⟨_,rfl⟩
 obtain ⟨ln,hln⟩:∃ ln,(dig n).length=ln:=⟨_,rfl⟩
 rw [hlm] at HC HS2 hlmn hm2 ⊢
 rw [hln] at hlmn hl HS1
 have hlmi:(2:Int) ≤ (lm:Int):=by omega
 have em1:(lm:Int) - 1=(t1:Int):=by omega
 have im1:(t1:Int) < (lm:Int):=by omega
 have hlmi9:(lm:Int) ≤ 1073741823:=by omega
 have htopi:(top:Int) ≤ 4294967295:=by omega
 have HLM:=Lib.hid hlm
 have HLN:=Lib.hid hln
 have HM2:=Lib.hid hm2
 have HT1:=Lib.hid ht1
 have HLMN:=Lib.hid hlmn
 clear hv hu hc h hzz hgt hlm hln ht1 hm2 hlmn
 go_enter Tryz.func149,Tryz.ntmps149
 go_wp2_with fail
 refine HC.out.mono ?_
 rintro e w1 ⟨rfl,X1⟩
 have c1:w1.cell? ⟨b,off + t1,none⟩=some (.int .u32 top):=X1.cell hcell0
 clear hcell0
 go_wp2_with fail
 go_loop [8] (fun kv => ∃ k:Nat,kv=.int .i64 k ∧ k ≤ 31 ∧ top * 2 ^ k < 4294967296) (fun kv => 32 - (intOf kv).toNat)
 case atStart => exact ⟨0,rfl,by omega,by rw [Nat.pow_zero,Nat.mul_one]; exact htopl⟩
 case round =>
  obtain ⟨k,rfl,hk,hkt⟩:=hrel
  obtain ⟨p,hp⟩:∃ p:Nat,2 ^ k=p:=⟨_,rfl⟩
  rw [hp] at hkt
  obtain ⟨s,hs⟩:∃ s,top * p=s:=⟨_,rfl⟩
  rw [hs] at hkt
  have hmin:min k 64=k:=by omega
  have hmin2:min k 32=k:=by omega
  have hpi:(2:Int) ^ k=(p:Int):=by rw [← hp]; simp
  have e1:(top:Int) * (p:Int)=(s:Int):=by rw [← hs,Int.natCast_mul]
  have hsi:(s:Int) ≤ 4294967295:=by omega
  by_cases hlow:s < 2147483648
  · have e2:(s:Int) / 2147483648=0:=by omega
    have hk31:k < 31:=by
     rcases Nat.lt_or_ge k 31 with h | h
     · exact h
     · exfalso
       have h2:(2:Nat) ^ 31 ≤ 2 ^ k:=Nat.pow_le_pow_right (by omega) h
       rw [hp] at h2
       have h3:1 * p ≤ top * p:=Nat.mul_le_mul_right _ (by omega)
       omega
    have HN:Hid (top * 2 ^ (k + 1) < 4294967296):=by
     show _ < _
     rw [Nat.pow_succ,hp,← Nat.mul_assoc,hs]; omega
    clear hp hs hkt
    go_wp2_with fail
    go_round
    case rel => exact ⟨k + 1,by go_num,by omega,HN.out⟩
    case measure => simp [intOf]; omega
  · have e2:(s:Int) / 2147483648=1:=by omega
    obtain ⟨f1,f2,f3,f4⟩:=HSH.out k p hk hp.symm (by omega) (by omega)
    have S1:=HS1.out w1 k X1 hk
    rw [hp] at S1
    have S1:=Lib.hid S1
    have S2:=Lib.hid (fun W (hx:Ext wo W) => HS2.out W k hx hk)
    rw [hp] at S2
    have hX:val (mulAddL p (dig n) 0)=n * p:=by rw [val_mulAddL,val_dig]; rfl
    have hV:val (mulAddL p (dig m) 0)=m * p:=by rw [val_mulAddL,val_dig]; rfl
    have hXl:n * p < p * 4294967296 ^ ln:=by
     have:=lt_dig_len n
     rw [HLN.out] at this
     rw [Nat.mul_comm]
     refine Nat.mul_lt_mul_of_pos_left this ?_
     rw [← hp]; exact Nat.pow_pos (by omega)
    have hp32:p < 4294967296:=by rw [← hp]; exact Nat.lt_of_le_of_lt (Nat.pow_le_pow_right (by omega) hk) (by decide)
    have hdu:=dg_mulAddL hp32 (dig n) 0 (dig_dg n) (by omega)
    have hdv:=dg_mulAddL hp32 (dig m) 0 (dig_dg m) (by omega)
    have hst:=DI.start (S:=lm) hdu (by rw [len_mulAddL,HLN.out]) (by omega) HLMN.out hX hXl (by rw [show lm - 1=d0 + 1 by have:=HM2.out; omega]; exact f3)
    have HST:=Lib.hid hst
    have HV2:=Lib.hid hV
    have HDV:=Lib.hid hdv
    have HF1:=Lib.hid f1
    have HF2:=Lib.hid f2
    have HF4:=Lib.hid f4
    have HDU:=Lib.hid hdu
    obtain ⟨L,hL⟩:∃ L,ln + 1=L:=⟨_,rfl⟩
    obtain ⟨qn,hqn⟩:∃ qn,L - lm=qn:=⟨_,rfl⟩
    have hul:(mulAddL p (dig n) 0).length=L:=by rw [len_mulAddL,HLN.out]; exact hL
    have HUL:=Lib.hid hul
    obtain ⟨us,hus⟩:∃ us,mulAddL p (dig n) 0=us:=⟨_,rfl⟩
    obtain ⟨vs0,hvs0⟩:∃ vs,mulAddL p (dig m) 0=vs:=⟨_,rfl⟩
    rw [hus,hL] at S1
    rw [hus] at HST HDU HUL
    rw [hL,hqn] at HST
    rw [hvs0] at S2 HV2 HDV
    have HP0:=Lib.hid hp
    have hln9:L ≤ 1073741824:=by omega
    have hLmn:=HLMN.out
    have hqL:qn + lm=L:=by omega
    have hqn1:1 ≤ qn:=by omega
    have hLq:(L:Int) - (lm:Int)=(qn:Int):=by omega
    have HQL:=Lib.hid hqL
    have HZE:=Lib.hid (show 0 < m * p by
     have h1:=HF2.out
     have:=Nat.pos_of_ne_zero (n:=m * p) (fun h => by have:=HF1.out; rw [h,dig_zero] at this; simp at this)
     exact this)
    clear hX hV hXl hdu hdv hst f1 f2 f3 f4 hul hus hvs0 hp hs hkt hlow HS1 HS2 HSH hLmn hqL hL hqn
    go_wp2_with fail
    refine S1.out.mono ?_
    rintro e w2 ⟨uv,rfl,hO1,X2⟩
    obtain ⟨B,C,rfl,hB1,hB2⟩:=own_open hO1 (by omega)
    obtain ⟨hLC,hC9⟩:L ≤ C ∧ C ≤ 9223372036854775807:=by
     obtain ⟨ao2,cc,e1,_,e2,e3,_⟩:=own_cells hO1 (by omega)
     simp only [Value.slice.injEq] at e1
     have:=HUL.out
     omega
    have hC9i:(C:Int) ≤ 9223372036854775807:=by omega
    have hO1b:=own_mono hO1 X1.size
    have X12:=X1.trans X2
    clear hO1
    go_wp2_with fail
    refine (S2.out _ X12).mono ?_
    rintro e w3 ⟨vv,rfl,hO2,X3⟩
    have hO1c:=own_ext hO1b X3
    have X13:=X12.trans X3
    clear hO1b
    go_wp2_with fail
    refine (norm_own _ _ vs0 w3 hO2 (by omega) HDV.out).mono ?_
    rintro e w4 ⟨v2,rfl,hn2,hfr,rfl⟩
    rw [HV2.out] at hn2 hfr
    obtain ⟨k2,hk21,hk22⟩:=Row.block_lt hn2 (fun h => by
     have:=congrArg List.length h
     rw [List.length_map,HF1.out] at this
     simp at this)
    obtain ⟨vo,c2,rfl,_,hcv⟩:=hn2.open
    have hfl:=HF1.out
    obtain ⟨x0,hx0,_,_⟩:=get_lt (xs:=dig (m * p)) (k:=0) (by omega)
    obtain ⟨b2,o2,rfl,_⟩:=hcv.at hx0
    have hb2k:b2=k2:=by simpa [Value.ownBlock] using hk21
    subst hb2k
    have hb2:w2.heap.size ≤ b2:=by
     rcases hfr with h | ⟨k,h1,h2⟩
     · exfalso
       have:=congrArg List.length h
       rw [List.length_map,hfl] at this
       simp at this
     · have:b2=k:=by simpa [Value.ownBlock] using h1
       omega
    have hne:b2 ≠ B:=by omega
    have HCV:Hid (∀ i x,(dig (m * p))[i]?=some x → w4.cell? ⟨b2,o2 + i,none⟩=some (.int .u32 (x:Nat))):=fun i x hx => hcv.at' hx
    have hvl:(dig (m * p)).length=lm:=by rw [hfl]; exact HM2.out.symm
    have hvv:val (dig (m * p))=m * p:=val_dig _
    have hvd:=dig_dg (m * p)
    have hv1:=HF4.out
    rw [hvl]
    obtain ⟨vs,hvs⟩:∃ vs,dig (m * p)=vs:=⟨_,rfl⟩
    rw [hvs] at HCV hvl hvv hvd hv1
    have HVL:=Lib.hid hvl
    have HVV:=Lib.hid hvv
    have HVD:=Lib.hid hvd
    have HV1:=Lib.hid hv1
    have hBQ:B < w4.heap.size:=Nat.lt_of_lt_of_le hB2 X3.size
    have hwoB:wo.heap.size ≤ B:=Nat.le_trans X1.size hB1
    clear hO2 hn2 hfr hk21 hcv hfl hx0 hvl hvv hvd hv1 hvs hB1 hB2 hb2 S1 S2 HF1 HF4
    go_wp2_with (first
     | (at_make; refine wp_make1 rfl rfl ei_nat rfl rfl rfl qn rfl rfl (by omega) (by omega) ?_; intro w5 hO5 hX5))
    obtain ⟨Q,hQ⟩:∃ Q,w4.heap.size=Q:=⟨_,rfl⟩
    rw [hQ] at hO5 hBQ hk22 ⊢
    have hwoQ:wo.heap.size ≤ Q:=by rw [← hQ]; exact X13.size
    go_loopw [13] (fun jv wr => ∃ (j:Nat) (A R qs Z:List Nat),j ≤ qn ∧ jv=.int .i64 ((j:Int) - 1) ∧ Hid (DI (m * p) (n * p) lm j A R qs) ∧ wr.ownsRow wo.heap.size 167 1 (.slice (some ⟨B,0,none⟩) L C) L ((A ++ R ++ Z).map encD) ∧ wr.ownsRow Q 167 1 (.slice (some ⟨Q,0,none⟩) qn qn) qn ((List.replicate j 0 ++ qs).map encD) ∧ Hid (∀ i x,vs[i]?=some x → wr.cell? ⟨b2,o2 + i,none⟩=some (.int .u32 (x:Nat))) ∧ Ext wo wr) (fun jv _ => ((intOf jv) + 1).toNat)
    case atStart => exact ⟨qn,us.take qn,us.drop qn,[],[],Nat.le_refl _,rfl,HST.out,own_cast (own_ext hO1c hX5) (by rw [List.append_nil,List.take_append_drop]) rfl,own_cast hO5 (by simp [encD]) rfl,fun i x hx => hX5.cell (HCV.out i x hx),X13.trans hX5⟩
    case round =>
     clear hO1c hO5
     obtain ⟨j,A,R,qs,Z,hj,rfl,HI,HO,HOQ,HCW,X⟩:=hrel
     obtain ⟨wr0,rfl⟩:∃ wr0:World,wr0=wr:=⟨_,rfl⟩
     by_cases h0:j=0
     · subst h0
       obtain ⟨hdv1,hdv2⟩:=HI.out.stop
       obtain ⟨hAl,hRl,_,hRd,hqd,_,_⟩:=HI.out
       have hA0:A=[]:=List.eq_nil_of_length_eq_zero hAl
       subst hA0
       rw [List.nil_append] at HO
       rw [List.replicate_zero,List.nil_append] at HOQ
       have hp0:0 < p:=by rw [← HP0.out]; exact Nat.pow_pos (by omega)
       rw [Nat.mul_div_mul_right _ _ hp0] at hdv1
       rw [Nat.mul_mod_mul_right] at hdv2
       obtain ⟨rm,hrm⟩:∃ rm,n % m=rm:=⟨_,rfl⟩
       rw [hrm] at hdv2
       obtain ⟨kk,hkk⟩:∃ kk,32 - k=kk:=⟨_,rfl⟩
       obtain ⟨P,hP⟩:∃ P:Nat,2 ^ kk=P:=⟨_,rfl⟩
       have hpP:p * P=4294967296:=by rw [← HP0.out,← hP,← Nat.pow_add,show k + kk=32 by omega]
       have hcR:CellsOf encD wr0 (some ⟨B,0,none⟩) R:=by
        intro x y hxy
        refine ⟨B,0,rfl,?_⟩
        rw [Nat.zero_add]
        exact own_cell HO (by
         show _=_
         rw [List.map_append,List.getElem?_append_left (by exact (List.getElem?_eq_some_iff.1 hxy).1)]
         exact hxy)
       have HN:=norm_any (some ⟨B,0,none⟩) C R wr0 hcR (by omega) (by omega) hC9 hRd
       rw [hRl] at HN
       obtain ⟨kr,hkr,hkt⟩:=norm_take R hRd
       have hcr:CellsOf encD wr0 (some ⟨B,0,none⟩) (dig (val R)):=by
        rw [hkt]
        intro x y hxy
        refine hcR x y ?_
        rw [← List.take_append_drop kr R,List.map_append,List.getElem?_append_left (by exact (List.getElem?_eq_some_iff.1 hxy).1)]
        exact hxy
       rw [hdv2] at HN hcr
       have hrd:=dig_dg (rm * p)
       have hback:=unsh_back (r:=rm) hpP
       have hrl:(dig (rm * p)).length ≤ 1073741824:=by rw [← hdv2,hkt,List.length_take]; omega
       obtain ⟨rs,hrs⟩:∃ rs,dig (rm * p)=rs:=⟨_,rfl⟩
       rw [hrs] at HN hcr hrd hback hrl
       have HN:=Lib.hid HN
       have HCR:=Lib.hid hcr
       have HRD:=Lib.hid hrd
       have HBK:=Lib.hid hback
       have HPP:=Lib.hid hpP
       have HKP:=Lib.hid hP
       have HQD:=Lib.hid hqd
       have HQV:=Lib.hid hdv1
       have HRM:=Lib.hid hrm
       have HUD:=Lib.hid (unsh_dg hpP rs hrd)
       have hUl:=unsh_len p P rs
       obtain ⟨F,hF⟩:∃ F,unsh p P rs=F:=⟨_,rfl⟩
       rw [hF] at HBK HUD hUl
       have HF:=Lib.hid hF
       have HFL:=Lib.hid hUl
       have hki:(k:Int) ≤ 31:=by omega
       have hkki:(32:Int) - (k:Int)=(kk:Int):=by omega
       have hkk32:kk ≤ 32:=by omega
       have hmk:min kk 64=kk:=by omega
       have hmk2:min kk 32=kk:=by omega
       have hPi:(2:Int) ^ kk=(P:Int):=by rw [← hP]; simp
       have hlmC:(lm:Int) ≤ (C:Int):=by have:=HQL.out; omega
       have HKK:=Lib.hid hkk
       have hp9:=HP0.out
       clear hdv1 hdv2 hAl hRl hRd hqd hkr hkt hcr hrd hback hpP hP hrs hcR hrm HI HO hUl hF hkk hp9 HCW
       go_wp2_with fail
       refine HN.out.mono ?_
       rintro e w6 ⟨rfl,rfl⟩
       have hrs9:(rs.length:Int) ≤ 1073741824:=by omega
       go_wp2_with (first
        | (at_make; refine wp_make1 rfl rfl ei_nat rfl rfl rfl rs.length rfl rfl (by omega) (by omega) ?_; intro w7 hO7 hX7))
       obtain ⟨Q2,hQ2⟩:∃ Q2,w6.heap.size=Q2:=⟨_,rfl⟩
       rw [hQ2] at hO7 ⊢
       have hQ2b:w6.heap.size ≤ Q2:=Nat.le_of_eq hQ2
       go_loopw [95] (fun iv wr => ∃ (i:Nat) (os:List Nat),i ≤ rs.length ∧ iv=.int .i64 i ∧ Hid (os.length=i) ∧ wr.ownsRow Q2 167 1 (.slice (some ⟨Q2,0,none⟩) rs.length rs.length) rs.length ((os ++ List.replicate (rs.length - i) 0).map encD) ∧ Hid (os ++ unsh p P (rs.drop i)=F) ∧ Ext w6 wr) (fun iv _ => rs.length - (intOf iv).toNat)
       case atStart => exact ⟨0,[],Nat.zero_le _,rfl,rfl,own_cast hO7 (by simp [encD]) rfl,by show _=_; rw [List.drop_zero,List.nil_append]; exact HF.out,hX7⟩
       case round =>
        obtain ⟨i,os,hi,rfl,HOL,HO,HI,X7⟩:=hrel
        by_cases hlt:i < rs.length
        · obtain ⟨d,d1,d2,d3⟩:=get_lt hlt
          have cr:=(HCR.out.ext X7).at' d1
          rw [Nat.zero_add] at cr
          have hcell:wr.cell? ⟨B,i,none⟩=some (.int .u32 d):=cr
          have hdl:=HRD.out.at d1.out
          have hdi:(d:Int) ≤ 4294967295:=by omega
          have hii:(i:Int) < (rs.length:Int):=by omega
          obtain ⟨y0,hy0⟩:∃ y0,d / p=y0:=⟨_,rfl⟩
          have ey0:(d:Int) / (p:Int)=(y0:Int):=by rw [← hy0]; rfl
          have hy9:y0 ≤ d:=by rw [← hy0]; exact Nat.div_le_self _ _
          have hy9i:(y0:Int) ≤ 4294967295:=by omega
          have hi2:=HI.out
          rw [d2.out,unsh,hy0] at hi2
          obtain ⟨r,hr⟩:∃ r,rs.length - i=r + 1:=⟨rs.length - i - 1,by omega⟩
          have hr2:rs.length - (i + 1)=r:=by omega
          rw [hr] at HO
          have co:=own_cell HO (j:=i) (x:=.int .u32 0) (by show _=_; rw [List.map_append,List.getElem?_append_right (by rw [List.length_map,HOL.out]; exact Nat.le_refl _),List.length_map,HOL.out,Nat.sub_self]; rfl)
          have fo:=HO.frozenAt i
          have s1:=HO.stored i (.int .u32 (y0:Nat))
          have hset:∀ y z:Nat,((os ++ [y] ++ List.replicate r 0).map encD).set i (.int .u32 (z:Nat))=((os ++ [z]) ++ List.replicate r 0).map encD:=by
           intro y z
           rw [List.append_assoc,List.map_append,List.set_append_right _ _ (by rw [List.length_map,HOL.out]; exact Nat.le_refl _),List.length_map,HOL.out,Nat.sub_self]
           simp [encD]
          rw [show os ++ List.replicate (r + 1) 0=os ++ [0] ++ List.replicate r 0 by rw [List.replicate_succ]; simp,hset] at s1
          have X8:=X7.setCell (p:=⟨Q2,i,none⟩) hQ2b (.int .u32 (y0:Nat))
          have HR2:=Lib.hid hr2
          have hlen2:∀ y:Nat,Hid ((os ++ [y]).length=i + 1):=fun y => by show _=_; rw [List.length_append,HOL.out]; rfl
          by_cases hcase:i + 1 < rs.length ∧ 0 < k
          · obtain ⟨hn1,hk0⟩:=hcase
            obtain ⟨g,g1,g2,g3⟩:=get_lt hn1
            have cr2:=(HCR.out.ext X8).at' g1
            rw [Nat.zero_add] at cr2
            have hcell2:(wr.setCell ⟨Q2,i,none⟩ (.int .u32 (y0:Nat))).cell? ⟨B,i + 1,none⟩=some (.int .u32 g):=cr2
            have hgl:=HRD.out.at g1.out
            have hgi:(g:Int) ≤ 4294967295:=by omega
            have hhd:(rs.drop (i + 1)).headD 0=g:=by rw [g2.out]; rfl
            rw [hhd] at hi2
            obtain ⟨u1,u2⟩:=unsh_cell (h:=g) HPP.out hdl
            rw [hy0] at u1
            obtain ⟨e0,he0⟩:∃ e0,(g % p) * P=e0:=⟨_,rfl⟩
            rw [he0] at hi2 u2
            obtain ⟨gP,hgP⟩:∃ gP,g * P=gP:=⟨_,rfl⟩
            have egP:(g:Int) * (P:Int)=(gP:Int):=by rw [← hgP,Int.natCast_mul]
            have emod:gP % 4294967296=e0:=by rw [← hgP,← he0,← HPP.out,Nat.mul_mod_mul_right]
            have emodi:(gP:Int) % 4294967296=(e0:Int):=by omega
            obtain ⟨y,hy⟩:∃ y,y0 + e0=y:=⟨_,rfl⟩
            have eor:=or32_lo y0 e0 kk (by have:=HKK.out; omega) (by rw [HKP.out]; exact u1) (by omega) (by rw [HKP.out,← he0]; exact Nat.mul_mod_left _ _)
            rw [show (y0:Int) + (e0:Int)=(y:Int) by omega] at eor
            have hyl:(y:Int) ≤ 4294967295:=by omega
            rw [hy] at hi2
            have co2:=own_cell s1.1 (j:=i) (x:=.int .u32 (y0:Nat)) (by show _=_; rw [List.append_assoc,List.map_append,List.getElem?_append_right (by rw [List.length_map,HOL.out]; exact Nat.le_refl _),List.length_map,HOL.out,Nat.sub_self]; rfl)
            have fo2:=s1.1.frozenAt i
            have s2:=s1.1.stored i (.int .u32 (y:Nat))
            rw [hset] at s2
            have H2:=Lib.hid s2.1
            have HI2:Hid (os ++ [y] ++ unsh p P (rs.drop (i + 1))=F):=by show _=_; rw [List.append_assoc]; exact hi2
            have hn1i:(i:Int) + 1 < (rs.length:Int):=by omega
            have hk0i:(0:Int) < (k:Int):=by omega
            have X9:=Lib.hid ((X8.drewN 1))
            clear hi2 s1 s2 hset hr hy0 cr cr2 hhd u1 u2 he0 hgP emod hy hn1 hk0 HO
            go_wp2_with fail
            go_region
            all_goals go_wp2_with fail
            go_roundw
            case rel => exact ⟨i + 1,os ++ [y],by omega,by go_num,hlen2 y,by rw [HR2.out]; exact H2.out,HI2,(X8.drewN _).setCell (p:=⟨Q2,i,none⟩) hQ2b _⟩
            case measure => simp [intOf]; omega
          · have hz:((rs.drop (i + 1)).headD 0 % p) * P=0:=by
             by_cases hn1:i + 1 < rs.length
             · have hk00:k=0:=by omega
               have hp1:p=1:=by rw [← HP0.out,hk00]
               rw [hp1,Nat.mod_one,Nat.zero_mul]
             · rw [List.drop_eq_nil_of_le (by omega)]
               show (0 % p) * P=0
               rw [Nat.zero_mod,Nat.zero_mul]
            rw [hz,Nat.add_zero] at hi2
            have HI2:Hid (os ++ [y0] ++ unsh p P (rs.drop (i + 1))=F):=by show _=_; rw [List.append_assoc]; exact hi2
            have H1:=Lib.hid s1.1
            have hyk:k=0 → y0=d:=by
             intro hk00
             have hp1:p=1:=by rw [← HP0.out,hk00]
             rw [← hy0,hp1,Nat.div_one]
            have HYK:=Lib.hid hyk
            have hcase2:(rs.length ≤ i + 1) ∨ (i + 1 < rs.length ∧ k=0):=by omega
            clear hi2 s1 hset hr hy0 cr hz hcase HO hyk
            rcases hcase2 with hn1 | ⟨hn1,hk0⟩
            · have hn1i:(rs.length:Int) ≤ (i:Int) + 1:=by omega
              clear hn1
              go_wp2_with fail
              go_roundw
              case rel => exact ⟨i + 1,os ++ [y0],by omega,by go_num,hlen2 y0,by rw [HR2.out]; exact H1.out,HI2,X8⟩
              case measure => simp [intOf]; omega
            · have hn1i:(i:Int) + 1 < (rs.length:Int):=by omega
              have hk0i:(k:Int) ≤ 0:=by omega
              have hyd:=HYK.out hk0
              subst hyd
              clear hn1 ey0
              go_wp2_with fail
              go_roundw
              case rel => exact ⟨i + 1,os ++ [y0],by omega,by go_num,hlen2 y0,by rw [HR2.out]; exact H1.out,HI2,X8⟩
              case measure => simp [intOf]; omega
        · have hil:rs.length=i:=by omega
          have hi2:=HI.out
          rw [← hil,List.drop_length,unsh,List.append_nil] at hi2
          have HOF:wr.ownsRow Q2 167 1 (.slice (some ⟨Q2,0,none⟩) rs.length rs.length) rs.length (F.map encD):=own_cast HO (by rw [← hi2,hil,Nat.sub_self]; simp) rfl
          have HOQ2:=own_ext HOQ X7
          have XF:=X.trans X7
          subst hil
          clear HO hlt hi2
          go_wp2_with fail
          refine (norm_own _ _ qs wr HOQ2 (by omega) HQD.out).mono ?_
          rintro e w8 ⟨qv,rfl,hqv,_,rfl⟩
          go_wp2_with fail
          refine (norm_own _ _ F w8 HOF (by omega) HUD.out).mono ?_
          rintro e w9 ⟨rv,rfl,hrv,_,rfl⟩
          go_wp2_with fail
          go_ret2
          exact ⟨_,_,rfl,by rw [← HQV.out]; exact hqv,by rw [HRM.out,← HBK.out]; exact hrv,XF⟩
     · obtain ⟨i,rfl⟩:∃ i,j=i + 1:=⟨j - 1,by omega⟩
       obtain ⟨A2,a,rfl,hA2,ha⟩:=HI.out.open
       obtain ⟨hwl,hwd,hwq⟩:=HI.out.win
       rw [show A2 ++ [a] ++ R ++ Z=A2 ++ (a :: R) ++ Z by simp] at HO
       have hlm2:lm + 1=d0 + 3:=by have:=HM2.out; omega
       have HD:=Lib.hid (fun cc => kdigit_any wo.heap.size B i cc b2 o2 c2 d0 (lm + 1) lm L C A2 (a :: R) Z vs wr0 HO hA2 hwl hlm2 HVL.out HM2.out hwd HVD.out (by omega) hne HCW.out HV1.out (by rw [HVV.out]; exact hwq))
       have hii:(i:Int) < (qn:Int):=by omega
       have hiL:(i:Int) + (lm:Int) + 1 ≤ (L:Int):=by have:=HQL.out; omega
       have hiC:(i:Int) + (lm:Int) + 1 ≤ (C:Int):=by omega
       have hCi:¬ C=i:=by omega
       have hV0:=HZE.out
       have hVS:m * p ≤ 4294967296 ^ lm:=by rw [HM2.out]; exact Nat.le_of_lt HF2.out
       have HSTEP:=Lib.hid (fun q os => HI.out.step (q:=q) (os:=os) hV0 hVS)
       clear hwl hwd hwq h0 ha hV0 hVS HO hlm2
       go_wp2_with fail
       rw [show i + lm + 1 - i=lm + 1 by omega]
       refine (HD.out _).mono ?_
       rintro e w6 ⟨q,os,rfl,hq,hol,hod,hov,HO6,G6⟩
       rw [HVV.out] at hq hov
       have hnx:=HSTEP.out q os hq hol hod hov
       have hOQ6:=own_kept HOQ G6 (.inl (by simp [Value.ownBlock]; omega))
       have hq9:q < 4294967296:=hnx.2.2.2.2.1 q (by simp)
       have hqi:(q:Int) ≤ 4294967295:=by omega
       have cq:=own_cell hOQ6 (j:=i) (x:=.int .u32 0) (by show _=_; rw [List.map_append,List.map_replicate,List.getElem?_append_left (by simp),List.getElem?_replicate,if_pos (by omega)]; rfl)
       have fq:=hOQ6.frozenAt i
       have s1:=hOQ6.stored i (.int .u32 (q:Nat))
       have hset:((List.replicate (i + 1) 0 ++ qs).map encD).set i (.int .u32 (q:Nat))=(List.replicate i 0 ++ (q :: qs)).map encD:=by
        rw [List.replicate_succ',List.append_assoc,List.map_append,List.set_append_right _ _ (by simp)]
        simp [encD]
       rw [hset] at s1
       have H1:=Lib.hid s1.1
       have H2:=Lib.hid (own_kept HO6 s1.2 (.inl (by simp [Value.ownBlock]; omega)))
       have H3:Hid (∀ (i2:Nat) (x:Nat),vs[i2]?=some x → (w6.setCell ⟨Q,i,none⟩ (.int .u32 (q:Nat))).cell? ⟨b2,o2 + i2,none⟩=some (.int .u32 (x:Nat))):=fun i2 x hx => s1.2.cell (G6.cell (HCW.out i2 x hx) (fun e => hne (Option.some.inj e))) (fun e => by have:=Option.some.inj e; dsimp only at this; omega)
       have X6:=ext_grown X G6 hwoB
       have X7:=Lib.hid (X6.setCell (p:=⟨Q,i,none⟩) hwoQ (.int .u32 (q:Nat)))
       have HNX:=Lib.hid hnx
       clear hnx s1 hset hq hol hod hov HD HSTEP
       go_wp2_with fail
       go_roundw
       case rel => exact ⟨i,A2,os.take lm,q :: qs,os.drop lm ++ Z,by omega,rfl,HNX.out,by rw [show A2 ++ os.take lm ++ (os.drop lm ++ Z)=A2 ++ os ++ Z by rw [List.append_assoc,← List.append_assoc (os.take lm),List.take_append_drop,List.append_assoc]]; exact H2.out,H1.out,H3.out,X7.out⟩
       case measure => simp [intOf]
end Go.Proofs.YtcggohkbmhdohaaGreatDoor
