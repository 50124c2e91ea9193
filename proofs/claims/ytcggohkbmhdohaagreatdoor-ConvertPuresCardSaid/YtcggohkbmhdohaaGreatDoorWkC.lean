/- texts merged: Big9 Big10 Big11 Big12 -/
import Derived.Test.YtcggohkbmhdohaaGreatDoorWkB
import Derived.Deep.LoopGhost
namespace Go.Proofs.YtcggohkbmhdohaaGreatDoor
open Go.RowKit
set_option linter.unusedVariables false
abbrev lenZ (v:Value):Nat:=match v with
 | .slice _ n _ => n
 | _ => 0
theorem own_shapeN {w:World} {B:Nat} {e:TypeId} {v:Value} {n:Nat} {vs:List Value} (h:w.ownsRow B e 1 v n vs):∃ ao c,v=.slice ao n c:=by
 rcases h.2 with ⟨rfl,rfl⟩ | ⟨g,cap,cur,rfl,_⟩
 · exact ⟨none,0,rfl⟩
 · exact ⟨_,_,rfl⟩
set_option maxHeartbeats 3200000 in
set_option maxRecDepth 100000 in
theorem text_any (v:Value) (n:Nat) (w:World) (hv:NatV w v n) (htab:TabPow w) (hl:(dig n).length ≤ 1073741824) (hT:(Lib.decDigits n).length ≤ 4294967295) :
 Calls Tryz.prog 134 #[v] w fun e w' => e=.returned (.string (decT n)) ∧ Ext w w':=by
 obtain ⟨wo,rfl⟩:∃ wo:World,wo=w:=⟨_,rfl⟩
 obtain ⟨ao,c,rfl,hlen,hc⟩:=hv.open
 by_cases hn0:n=0
 · subst hn0
   have hz:(dig 0).length=0:=by rw [dig_zero]; rfl
   have hd0:Hid (decT 0=⟨#[48]⟩):=by show _=_; rw [decT,dd_small (by omega)]; rfl
   rw [hz]
   clear hc hv
   go_enter Tryz.func134,Tryz.ntmps134
   go_wp2_with fail
   go_ret
   exact ⟨by rw [hd0.out]; rfl,Ext.refl _⟩
 · have hpos:(dig n).length ≠ 0:=by
    intro e
    exact hn0 (dig_nil_iff.1 (List.eq_nil_of_length_eq_zero e))
   obtain ⟨F,hF⟩:∃ F,chunks n=F:=⟨_,rfl⟩
   have hj:=chunks_join hn0
   rw [hF] at hj
   have hFl:F.length ≤ 4294967295:=by
    have h1:=flatten_mem_len (xs:=F.reverse) (k:=0) (fun x hx => by rw [← hF] at hx; exact chunks_pos n x (List.mem_reverse.1 hx))
    rw [List.length_reverse,hj] at h1
    omega
   have HF:=Lib.hid hF
   have HJ:=Lib.hid hj
   have HFL:=Lib.hid hFl
   have HV:=Lib.hid hv
   have HN0:=Lib.hid hn0
   have HTab:=Lib.hid (fun W (hx:Ext wo W) => tabPow_ext htab hx)
   have HL:=Lib.hid hl
   have HTT:=Lib.hid hT
   obtain ⟨l,hll⟩:∃ l,(dig n).length=l + 1:=⟨(dig n).length - 1,by omega⟩
   have hv2:NatV wo (.slice ao (l + 1) c) n:=by rw [← hll]; exact HV.out
   rw [hll]
   have hl9:l ≤ 1073741824:=by omega
   have hlb:((l:Int) + 1 == 0)=false:=by rw [beq_eq_false_iff_ne]; omega
   clear hc hv hF hj hFl hn0 hpos htab hl hT hll hlen HV
   go_enter Tryz.func134,Tryz.ntmps134
   go_wp2_with fail
   go_loopw [0,3] (fun nv pv wr => ∃ (m:Nat) (ps:List ByteArray),NatV wr nv m ∧ m ≤ n ∧ wr.ownsRow wo.heap.size 9 1 pv ps.length (ps.map Value.string) ∧ Ext wo wr ∧ Hid (ps.map (·.data.toList) ++ chunks m=F)) (fun _ pv _ => F.length - lenZ pv)
   case atStart => exact ⟨n,[],hv2,Nat.le_refl _,⟨rfl,.inl ⟨rfl,rfl⟩⟩,Ext.refl _,HF.out⟩
   case round =>
    obtain ⟨m,ps,hm,hmn,HO,X,HI⟩:=hrel
    have hpl:ps.length + (chunks m).length=F.length:=by rw [← HI.out,List.length_append,List.length_map]
    obtain ⟨pa,pc,rfl⟩:=own_shapeN HO
    have hdl:(dig m).length ≤ 1073741824:=Nat.le_trans (dig_len_le hmn) HL.out
    obtain ⟨na,nc,rfl,_,_⟩:=hm.open
    by_cases hm0:m=0
    · subst hm0
      have hz:(dig 0).length=0:=by rw [dig_zero]; rfl
      have hI:=HI.out
      rw [chunks_zero,List.append_nil] at hI
      have hpsn:ps ≠ []:=by
       intro e
       rw [e] at hI
       have:=chunks_ne HN0.out
       rw [HF.out,← hI] at this
       exact this rfl
      have hps0:0 < ps.length:=List.length_pos_iff.2 hpsn
      obtain ⟨g,cap,hsl,hg1,hg2⟩:=own_open HO hps0
      simp only [Value.slice.injEq] at hsl
      obtain ⟨rfl,_,rfl⟩:=hsl
      have hps9:ps.length ≤ 4294967295:=by have:=HFL.out; rw [← hI,List.length_map] at this; exact this
      have hsz:=X.size
      have HR:=Lib.hid (reverse_own wo.heap.size g pc ps wo wr HO (by omega) X (Nat.le_refl _) hg1)
      have hcap:ps.length ≤ pc:=by
       rcases HO.2 with ⟨e1,_⟩ | ⟨g',cap',cur,e1,_,_,h3,_⟩
       · cases e1
       · simp only [Value.slice.injEq] at e1; omega
      have hjo:Hid ((Lib.join (ps.reverse.map (·.data.toList)) [])=Lib.decDigits n):=by
       show _=_
       rw [join_empty,List.map_reverse,hI,HJ.out]
      rw [hz]
      clear hI hpsn hz hm HI
      go_wp2_with fail
      refine HR.out.mono ?_
      rintro e w2 ⟨rfl,X2,hcells,hsz2⟩
      have hJ:=Tryz.strings_Join g 0 pc ps.reverse ⟨#[]⟩ w2 hcells (by omega) (by rw [List.length_reverse]; omega) (by rw [List.length_reverse]; exact hcap) (by
       show (Lib.join (ps.reverse.map (·.data.toList)) []).length ≤ _
       rw [hjo.out]; have:=HTT.out; omega)
      rw [List.length_reverse] at hJ
      have e2:Lib.join (ps.reverse.map (·.data.toList)) (⟨#[]⟩:ByteArray).data.toList=Lib.decDigits n:=hjo.out
      rw [e2] at hJ
      rw [show (⟨(Lib.decDigits n).toArray⟩:ByteArray)=decT n from rfl] at hJ
      have hJ:=Lib.hid hJ
      clear e2
      clear hcells
      go_wp2_with fail
      refine hJ.out.mono ?_
      rintro e w3 ⟨rfl,X3⟩
      go_wp2_with fail
      go_ret
      exact ⟨rfl,X2.trans X3⟩
    · have hmp:(dig m).length ≠ 0:=by
       intro e
       exact hm0 (dig_nil_iff.1 (List.eq_nil_of_length_eq_zero e))
      have hmi:(0:Int) < ((dig m).length:Int):=by omega
      have hcl:=List.length_pos_iff.2 (chunks_ne hm0)
      obtain ⟨q,hq⟩:∃ q,m / 1000000000=q:=⟨_,rfl⟩
      obtain ⟨r,hr⟩:∃ r,m % 1000000000=r:=⟨_,rfl⟩
      have hr9:r < 1000000000:=by omega
      have hri:(r:Int) ≤ 999999999:=by omega
      have hDS:=divSmall_any (.slice na (dig m).length nc) (dig m) 1000000000 wr hm (dig_dg m) (by omega) (by omega) hdl
      obtain ⟨d1,d2⟩:=divL_div (x:=1000000000) (n:=m) (by omega)
      rw [d1,d2,hq,hr] at hDS
      have hDS:=Lib.hid hDS
      have hsz:=X.size
      have hpl9:=HFL.out
      have HQ:=Lib.hid hq
      have HRR:=Lib.hid hr
      clear d1 d2 hq hr hm
      by_cases hq0:q=0
      · subst hq0
        have hz:(dig 0).length=0:=by rw [dig_zero]; rfl
        have hstep:Hid ((ps ++ [decT r]).map (·.data.toList) ++ chunks 0=F):=by
         show _=_
         have h:=HI.out
         have hmr:r=m:=by have:=HQ.out; have:=HRR.out; omega
         rw [chunks_small hm0 HQ.out] at h
         rw [List.map_append,chunks_zero,List.append_nil,← h,hmr]
         simp [decT]
        clear hmp
        go_wp2_with fail
        refine hDS.out.mono ?_
        rintro e w2 ⟨u,rfl,hu,hfr,X2⟩
        obtain ⟨ua,uc,rfl,_,_⟩:=hu.open
        have HO2:=own_ext HO X2
        have hsz2:=X2.size
        go_wp2_with fail
        refine (itoa_any r (by omega) _ (HTab.out _ (X.trans X2))).mono ?_
        rintro e w3 ⟨rfl,X3⟩
        obtain ⟨D,hD⟩:∃ D,decT r=D:=⟨_,rfl⟩
        rw [hD] at hstep ⊢
        have HO3:=own_ext HO2 X3
        have hsz3:=X3.size
        clear hD
        go_wp2_with (at_builtin; refine wp_app1 (s:=.tmp 29) (x:=.tmp 31) (y:=.string D) rfl rfl ei_strs HO3 rfl rfl rfl rfl (by omega) (by omega) (by omega) ?_; intro v' w' hown hgrew; obtain ⟨va,vc,rfl⟩:=own_shapeN hown)
        go_roundw
        case rel =>
         have XX:Ext wo w':=hgrew.extNew ((X.trans X2).trans X3) HO3 (Nat.le_refl _)
         refine ⟨0,ps ++ [D],?_,Nat.zero_le _,own_cast hown (by simp) (by simp),XX,hstep.out⟩
         have h4:RowX (Value.ownBlock (.slice pa ps.length pc)) w3 (.slice ua (dig 0).length uc) ((dig 0).map encD):=⟨hu.ext X3,.inl (by rw [dig_zero]; rfl)⟩
         have:=(hgrew.row h4).1
         rw [hz] at this
         exact this
        case measure => simp only [lenZ]; omega
      · have hqp:(dig q).length ≠ 0:=by
         intro e
         exact hq0 (dig_nil_iff.1 (List.eq_nil_of_length_eq_zero e))
        have hqi:(0:Int) < ((dig q).length:Int):=by omega
        have hqn:q ≤ n:=by have:=HQ.out; omega
        have hlt9:=dd_len_lt (n:=r) (k:=8) (by omega)
        obtain ⟨k,hk⟩:∃ k,9 - (decT r).size=k:=⟨_,rfl⟩
        have hds:(decT r).size=(Lib.decDigits r).length:=by rw [← bsz,decT_list]
        have hki:(9:Int) - ((decT r).size:Int)=(k:Int):=by omega
        have hk9:k ≤ 9:=by omega
        have hR0:=fun W => repeat0_any k W hk9
        obtain ⟨Z,hZ⟩:∃ Z:ByteArray,(⟨(List.replicate k (48:UInt8)).toArray⟩:ByteArray)=Z:=⟨_,rfl⟩
        have hZs:Z.size=k:=by rw [← hZ]; simp [ByteArray.size]
        have hZl:Z.data.toList=List.replicate k 48:=by rw [← hZ]
        rw [hZ] at hR0
        have hPl:(Z ++ decT r).data.toList=pad9 r:=by
         rw [ByteArray.data_append,Array.toList_append,hZl,decT_list,pad9,← hds,hk]
        have hstep:Hid ((ps ++ [Z ++ decT r]).map (·.data.toList) ++ chunks q=F):=by
         show _=_
         have h:=HI.out
         rw [chunks_big (by rw [HQ.out]; exact hq0),HQ.out,HRR.out] at h
         rw [List.map_append,← h,List.append_assoc]
         simp only [List.map_cons,List.map_nil,hPl]; rfl
        have hR0:=Lib.hid hR0
        obtain ⟨D,hD⟩:∃ D,decT r=D:=⟨_,rfl⟩
        rw [hD] at hki hstep hds
        have hDs:D.size ≤ 9:=by omega
        have hsum:Z.size + D.size ≤ 18:=by omega
        have HDD:=Lib.hid hD
        clear hmp hqp hk hZ hZl hPl hD hlt9 hds hZs hq0
        go_wp2_with fail
        refine hDS.out.mono ?_
        rintro e w2 ⟨u,rfl,hu,hfr,X2⟩
        obtain ⟨ua,uc,rfl,_,_⟩:=hu.open
        have HO2:=own_ext HO X2
        have hsz2:=X2.size
        go_wp2_with fail
        refine (itoa_any r (by omega) _ (HTab.out _ (X.trans X2))).mono ?_
        rintro e w3 ⟨rfl,X3⟩
        rw [HDD.out]
        have HO3:=own_ext HO2 X3
        have hsz3:=X3.size
        go_wp2_with fail
        refine (hR0.out _).mono ?_
        rintro e w4 ⟨rfl,X4⟩
        have HO4:=own_ext HO3 X4
        have hsz4:=X4.size
        go_wp2_with (at_builtin; refine wp_app1 (s:=.tmp 29) (x:=.tmp 31) (y:=.string (Z ++ D)) rfl rfl ei_strs HO4 rfl rfl rfl rfl (by omega) (by omega) (by omega) ?_; intro v' w' hown hgrew; obtain ⟨va,vc,rfl⟩:=own_shapeN hown)
        go_roundw
        case rel =>
         have XX:Ext wo w':=hgrew.extNew (((X.trans X2).trans X3).trans X4) HO4 (Nat.le_refl _)
         refine ⟨q,ps ++ [Z ++ D],?_,hqn,own_cast hown (by simp) (by simp),XX,hstep.out⟩
         have h4:RowX (Value.ownBlock (.slice pa ps.length pc)) w4 (.slice ua (dig q).length uc) ((dig q).map encD):=⟨(hu.ext X3).ext X4,hfr.away (fun k hk => (HO.lt k hk).2)⟩
         exact (hgrew.row h4).1
        case measure => simp only [lenZ]; omega
def cmpZ (a b:Nat):Int:=if a < b then -1 else if b < a then 1 else 0
theorem cmpZ_int (a b:Nat):Lib.compareInt (a:Int) (b:Int)=cmpZ a b:=by
 unfold Lib.compareInt cmpZ
 by_cases h:a < b
 · rw [if_pos (by omega),if_pos h]
 · rw [if_neg (by omega),if_neg h]
   by_cases h2:b < a
   · rw [if_pos (by omega),if_pos h2]
   · rw [if_neg (by omega),if_neg h2]
theorem isNaN_any (a:Nat) (w:World):Calls Tryz.prog 185 #[.int .u32 a] w fun e w' => e=.returned (.bool false) ∧ w=w':=by
 have h:((a:Int) != (a:Int))=false:=by simp
 go_enter Tryz.func185,Tryz.ntmps185
 go_wp2_with fail
 go_ret
 exact ⟨rfl,rfl⟩
set_option maxHeartbeats 800000 in
set_option maxRecDepth 100000 in
theorem compare32_any (a b:Nat) (w:World):Calls Tryz.prog 173 #[.int .u32 a,.int .u32 b] w fun e w' => e=.returned (.int .i64 (cmpZ a b)) ∧ w=w':=by
 have hp:(a < b ∧ cmpZ a b=-1) ∨ (b < a ∧ cmpZ a b=1) ∨ (a=b ∧ cmpZ a b=0):=by
  unfold cmpZ
  by_cases h:a < b
  · exact .inl ⟨h,if_pos h⟩
  · by_cases h2:b < a
    · exact .inr (.inl ⟨h2,by rw [if_neg h,if_pos h2]⟩)
    · exact .inr (.inr ⟨by omega,by rw [if_neg h,if_neg h2]⟩)
 generalize cmpZ a b=z at *
 have H1:=Lib.hid (isNaN_any a)
 have H2:=Lib.hid (isNaN_any b)
 rcases hp with ⟨h,rfl⟩ | ⟨h,rfl⟩ | ⟨h,rfl⟩
 · have hi:(a:Int) < (b:Int):=by omega
   clear h
   go_enter Tryz.func173,Tryz.ntmps173
   go_wp2_with fail
   refine (H1.out _).mono ?_
   rintro e w1 ⟨rfl,rfl⟩
   go_wp2_with fail
   refine (H2.out _).mono ?_
   rintro e w2 ⟨rfl,rfl⟩
   go_wp2_with fail
   go_ret
   exact ⟨rfl,rfl⟩
 · have hi:(b:Int) < (a:Int):=by omega
   have hi2:(b:Int) ≤ (a:Int):=by omega
   clear h
   go_enter Tryz.func173,Tryz.ntmps173
   go_wp2_with fail
   refine (H1.out _).mono ?_
   rintro e w1 ⟨rfl,rfl⟩
   go_wp2_with fail
   refine (H2.out _).mono ?_
   rintro e w2 ⟨rfl,rfl⟩
   go_wp2_with fail
   go_ret
   exact ⟨rfl,rfl⟩
 · subst h
   go_enter Tryz.func173,Tryz.ntmps173
   go_wp2_with fail
   refine (H1.out _).mono ?_
   rintro e w1 ⟨rfl,rfl⟩
   go_wp2_with fail
   refine (H2.out _).mono ?_
   rintro e w2 ⟨rfl,rfl⟩
   go_wp2_with fail
   go_ret
   exact ⟨rfl,rfl⟩
theorem val_top {l:List Nat} {j d:Nat} (h:l[j]?=some d):val l=val (l.take j) + 4294967296 ^ j * (d + 4294967296 * val (l.drop (j + 1))):=by
 obtain ⟨h1,h2⟩:=List.getElem?_eq_some_iff.1 h
 have h3:l=l.take j ++ (d :: l.drop (j + 1)):=by
  rw [← h2,← List.drop_eq_getElem_cons h1,List.take_append_drop]
 have h4:val l=val (l.take j ++ (d :: l.drop (j + 1))):=by rw [← h3]
 rw [h4,val_append,List.length_take,Nat.min_eq_left (by omega),val]
theorem cmp_digit {a b:List Nat} {j x y:Nat} (ha:Dg a) (hb:Dg b) (hx:a[j]?=some x) (hy:b[j]?=some y) (he:a.drop (j + 1)=b.drop (j + 1)) (hne:x ≠ y):cmpZ (val a) (val b)=cmpZ x y:=by
 have e1:=val_top hx
 have e2:=val_top hy
 rw [← he] at e2
 have l1:=val_lt (ha.take j)
 have l2:=val_lt (hb.take j)
 have k1:(a.take j).length=j:=by rw [List.length_take]; have:=(List.getElem?_eq_some_iff.1 hx).1; omega
 have k2:(b.take j).length=j:=by rw [List.length_take]; have:=(List.getElem?_eq_some_iff.1 hy).1; omega
 rw [k1] at l1
 rw [k2] at l2
 generalize 4294967296 * val (a.drop (j + 1))=T at *
 generalize 4294967296 ^ j=P at *
 have key:∀ p q u v:Nat,u < P → v < P → p < q → u + P * (p + T) < v + P * (q + T):=by
  intro p q u v hu hv hpq
  have:=Nat.mul_le_mul_left P (show p + 1 + T ≤ q + T by omega)
  have e3:P * (p + 1 + T)=P * (p + T) + P:=by rw [show p + 1 + T=(p + T) + 1 by omega,Nat.mul_add,Nat.mul_one]
  omega
 rcases Nat.lt_or_ge x y with h | h
 · have:=key x y _ _ l1 l2 h
   rw [← e1,← e2] at this
   unfold cmpZ
   rw [if_pos this,if_pos h]
 · have h:y < x:=by omega
   have:=key y x _ _ l2 l1 h
   rw [← e1,← e2] at this
   unfold cmpZ
   rw [if_neg (by omega),if_pos this,if_neg (by omega),if_pos h]
theorem cmp_len {n m:Nat} (h:(dig n).length ≠ (dig m).length):cmpZ n m=cmpZ (dig n).length (dig m).length:=by
 rcases Nat.lt_or_ge (dig n).length (dig m).length with h1 | h1
 · have:n < m:=by
    rcases Nat.lt_or_ge n m with h2 | h2
    · exact h2
    · have:=dig_len_le h2; omega
   unfold cmpZ
   rw [if_pos this,if_pos h1]
 · have h1:(dig m).length < (dig n).length:=by omega
   have:m < n:=by
    rcases Nat.lt_or_ge m n with h2 | h2
    · exact h2
    · have:=dig_len_le h2; omega
   unfold cmpZ
   rw [if_neg (by omega),if_pos this,if_neg (by omega),if_pos h1]
set_option maxHeartbeats 1600000 in
set_option maxRecDepth 100000 in
theorem cmp_any (v u:Value) (n m:Nat) (w:World) (hv:NatV w v n) (hu:NatV w u m) :
 Calls Tryz.prog 151 #[v,u] w fun e w' => e=.returned (.int .i64 (cmpZ n m)) ∧ Ext w w':=by
 obtain ⟨wo,rfl⟩:∃ wo:World,wo=w:=⟨_,rfl⟩
 obtain ⟨ao,c,rfl,hlen,hc⟩:=hv.open
 obtain ⟨ao2,c2,rfl,hlen2,hc2⟩:=hu.open
 by_cases hl:(dig n).length=(dig m).length
 · have hz:cmpZ n m=cmpZ (val (dig n)) (val (dig m)):=by rw [val_dig,val_dig]
   rw [hz]
   have hd1:=dig_dg n
   have hd2:=dig_dg m
   generalize dig n=ds at *
   generalize dig m=ms at *
   have HL:=Lib.hid hl
   rw [← hl]
   have HC:=Lib.hid hc
   have HC2:=Lib.hid hc2
   have HD1:=Lib.hid hd1
   have HD2:=Lib.hid hd2
   have hnb:(((ds.length:Nat):Int) != ((ds.length:Nat):Int))=false:=by simp
   obtain ⟨Z,hZ⟩:∃ Z,Hid (cmpZ (val ds) (val ms)=Z):=⟨_,rfl⟩
   rw [hZ.out]
   clear hl hc hc2 hd1 hd2 hv hu hz
   go_enter Tryz.func151,Tryz.ntmps151
   go_wp2_with fail
   go_loopw [5] (fun iv wr => ∃ (k:Nat),k ≤ ds.length ∧ iv=.int .i64 ((k:Int) - 1) ∧ Ext wo wr ∧ Hid (ds.drop k=ms.drop k)) (fun iv _ => ((intOf iv) + 1).toNat)
   case atStart => exact ⟨ds.length,Nat.le_refl _,rfl,Ext.refl _,by show _=_; rw [List.drop_length,HL.out,List.drop_length]⟩
   case round =>
    obtain ⟨k,hk,rfl,X,HE⟩:=hrel
    by_cases h0:k=0
    · subst h0
      have hz0:Z=0:=by
       have h:=HE.out
       rw [List.drop_zero,List.drop_zero] at h
       rw [← hZ.out,h]
       unfold cmpZ
       rw [if_neg (by omega),if_neg (by omega)]
      subst hz0
      go_wp2_with fail
      go_ret
      exact ⟨rfl,X⟩
    · obtain ⟨j,rfl⟩:∃ j,k=j + 1:=⟨k - 1,by omega⟩
      obtain ⟨x,x1,x2,_⟩:=get_lt (show j < ds.length by omega)
      obtain ⟨y,y1,y2,_⟩:=get_lt (show j < ms.length by have:=HL.out; omega)
      obtain ⟨b,off,rfl,hc0⟩:=(HC.out.ext X).at x1
      obtain ⟨b2,off2,rfl,hc02⟩:=(HC2.out.ext X).at y1
      have hcell:wr.cell? ⟨b,off + j,none⟩=some (.int .u32 x):=hc0
      have hcell2:wr.cell? ⟨b2,off2 + j,none⟩=some (.int .u32 y):=hc02
      have hki:(j:Int) < (ds.length:Int):=by omega
      clear hc0 hc02 h0
      by_cases hxy:x=y
      · subst hxy
        have hb:((x:Int) != (x:Int))=false:=by simp
        have hnext:Hid (ds.drop j=ms.drop j):=by show _=_; rw [x2.out,y2.out,HE.out]
        go_wp2_with fail
        go_quiet (fail)
        go_wp2_with fail
        go_roundw
        case rel => exact ⟨j,by omega,rfl,X.drewN _,hnext⟩
        case measure => simp [intOf]
      · have hb:((x:Int) != (y:Int))=true:=by simp; omega
        have hzz:=cmp_digit HD1.out HD2.out x1.out y1.out HE.out hxy
        rw [hZ.out] at hzz
        have HCM:Hid (∀ W,Calls Tryz.prog 173 #[.int .u32 x,.int .u32 y] W fun e w' => e=.returned (.int .i64 (cmpZ x y)) ∧ w'=W):=fun W => (compare32_any x y W).mono (by rintro e w' ⟨h1,h2⟩; exact ⟨h1,h2.symm⟩)
        rw [← hzz] at HCM
        clear hxy hzz
        go_wp2_with fail
        go_quiet (fail)
        go_wp2_with fail
        have Xz:=X.drewN nq
        have cz1:(wr.drewN nq).cell? ⟨b,off + j,none⟩=some (.int .u32 x):=(((Ext.refl wr).drewN nq).cell hcell)
        have cz2:(wr.drewN nq).cell? ⟨b2,off2 + j,none⟩=some (.int .u32 y):=(((Ext.refl wr).drewN nq).cell hcell2)
        clear hcell hcell2
        generalize wr.drewN nq=wz at *
        go_quiet ((go_at_call 173; exact Calls.quiet_of_same (HCM.out _)))
        go_wp2_with fail
        go_ret
        exact ⟨rfl,Xz.drewN _⟩
 · have hz:=cmp_len hl
   have hlb:(((dig n).length:Int) != ((dig m).length:Int))=true:=by simp; omega
   have HCM:=Tryz.cmp_Compare_int ((dig n).length:Int) ((dig m).length:Int) wo
   rw [cmpZ_int,← hz] at HCM
   have HCM:=Lib.hid HCM
   generalize cmpZ n m=z at *
   clear hl hz hc hc2 hv hu
   go_enter Tryz.func151,Tryz.ntmps151
   go_wp2_with fail
   refine HCM.out.mono ?_
   rintro e w1 ⟨rfl,rfl⟩
   go_wp2_with fail
   go_ret
   exact ⟨rfl,Ext.refl _⟩
set_option maxHeartbeats 800000 in
set_option maxRecDepth 100000 in
theorem one_any (v:Value) (n:Nat) (w:World) (hv:NatV w v n) :
 Calls Tryz.prog 135 #[v] w fun e w' => e=.returned (.bool (decide (n=1))) ∧ Ext w w':=by
 obtain ⟨ao,c,rfl,hlen,hc⟩:=hv.open
 by_cases hl:(dig n).length=1
 · obtain ⟨d,hd⟩:∃ d,dig n=[d]:=by
    match h:dig n,hl with
    | [d],_ => exact ⟨d,rfl⟩
   have hnd:n=d:=by
    have:=val_dig n
    rw [hd] at this
    simpa [val] using this.symm
   rw [hd] at hc ⊢
   obtain ⟨b,off,rfl,hcell0⟩:=hc 0 (encD d) rfl
   have hcell:w.cell? ⟨b,off,none⟩=some (.int .u32 d):=by rw [Nat.add_zero] at hcell0; exact hcell0
   subst hnd
   clear hcell0 hc hv hd hl hlen
   simp only [List.length_cons,List.length_nil,Nat.zero_add]
   by_cases h1:n=1
   · subst h1
     go_enter Tryz.func135,Tryz.ntmps135
     go_wp2_with fail
     go_ret
     exact ⟨rfl,Ext.refl _⟩
   · have hb:((n:Int) == 1)=false:=by rw [beq_eq_false_iff_ne]; omega
     have hq:Hid (decide (n=1)=false):=by show _=_; simp [h1]
     clear h1
     go_enter Tryz.func135,Tryz.ntmps135
     go_wp2_with fail
     go_ret
     exact ⟨by rw [hq.out]; rfl,Ext.refl _⟩
 · have hq:Hid (decide (n=1)=false):=by
    show _=_
    rw [decide_eq_false_iff_not]
    rintro rfl
    apply hl
    rw [dig_pos (by omega),show 1 / 4294967296=0 by omega,dig_zero]; rfl
   have hb:(((dig n).length:Int) == 1)=false:=by rw [beq_eq_false_iff_ne]; omega
   clear hl hc hv
   go_enter Tryz.func135,Tryz.ntmps135
   go_wp2_with fail
   go_ret
   exact ⟨by rw [hq.out]; rfl,Ext.refl _⟩
set_option maxHeartbeats 400000 in
set_option maxRecDepth 100000 in
theorem clone_digs (v:Value) (xs:List Nat) (w:World) (hv:Digs w v xs) :
 Calls Tryz.prog 170 #[v] w fun e w' => ∃ u,e=.returned u ∧ Digs w' u xs ∧ Ext w w':=by
 have hsrc:=Lib.hid (hv.src (fun _ => rfl))
 have hv0:=hv
 obtain ⟨ao,c,rfl,hn,hlen,hne,hc⟩:=hv
 simp only [List.length_map] at hsrc hlen ⊢
 have q22:=fun (w:World) (a:Option Addr) (n c n' c':Nat) => Lib.run_eql_slice_nil (P:=Tryz.prog) w 85 167 a n c n' c' Tryz.underlying85
 cases ao with
 | none =>
   have hxs:xs=[]:=by
    cases xs with
    | nil => rfl
    | cons x xs => exact absurd rfl (hne (by simp))
   subst hxs
   clear hsrc hc hne hn hlen hv0
   go_enter Tryz.func170,Tryz.ntmps170
   go_wp2_with fail
   go_ret
   exact ⟨_,rfl,Row.nil w,Ext.refl _⟩
 | some ad =>
   clear hc hne hn hv0
   go_enter Tryz.func170,Tryz.ntmps170
   have hs2:=hsrc.out.ext ((Ext.refl w).alloc (.cells #[] 167))
   have hs3:=Lib.hid hs2; clear hs2
   go_wp2_with (at_builtin; refine wp_app rfl rfl ei_nat rfl (own_empty w _) rfl hs3.out (by omega) (by omega) (by simp) ?_; intro v' w' hown hgrew)
   go_ret
   exact ⟨_,rfl,own_rowOf (enc:=encD) (n:=xs.length) (by simpa using hown) hlen,hgrew.extNew ((Ext.refl w).alloc _) (own_empty w _) (Nat.le_refl _)⟩
theorem dig_one {m:Nat} (h0:0 < m) (h:m < 4294967296):dig m=[m]:=by
 rw [dig_pos (by omega),show m / 4294967296=0 by omega,dig_zero,show m % 4294967296=m by omega]
def DivPost (n m:Nat) (w:World) (e:Ending) (w':World):Prop :=
 ∃ a b,e=.returned (.tuple #[a,b]) ∧ NatV w' a (n / m) ∧ NatV w' b (n % m) ∧ Ext w w'
set_option maxHeartbeats 1600000 in
set_option maxRecDepth 100000 in
theorem div_lt (v u:Value) (n m:Nat) (w:World) (hv:NatV w v n) (hu:NatV w u m) (h:n < m) :
 Calls Tryz.prog 149 #[v,u] w (DivPost n m w):=by
 have hz:cmpZ n m=-1:=if_pos h
 have HC:=cmp_any v u n m w hv hu
 rw [hz] at HC
 have HC:=Lib.hid HC
 have HCL:=Lib.hid (fun W (hx:Ext w W) => clone_digs v (dig n) W (hv.ext hx))
 have hq:Hid (n / m=0):=Nat.div_eq_of_lt h
 have hr:Hid (n % m=n):=Nat.mod_eq_of_lt h
 clear hz hv hu h
 go_enter Tryz.func149,Tryz.ntmps149
 go_wp2_with fail
 refine HC.out.mono ?_
 rintro e w1 ⟨rfl,X1⟩
 go_wp2_with fail
 refine (HCL.out _ X1).mono ?_
 rintro e w2 ⟨b,rfl,hb,X2⟩
 go_wp2_with fail
 go_ret2
 exact ⟨_,_,rfl,by rw [hq.out]; exact natV_nil _,by rw [hr.out]; exact hb,X1.trans X2⟩
set_option maxHeartbeats 1600000 in
set_option maxRecDepth 100000 in
theorem div_one (v u:Value) (n m:Nat) (w:World) (hv:NatV w v n) (hu:NatV w u m) (h:m ≤ n) (hm0:0 < m) (hm:m < 4294967296) (hl:(dig n).length ≤ 1073741824) :
 Calls Tryz.prog 149 #[v,u] w (DivPost n m w):=by
 have hz:0 ≤ cmpZ n m:=by
  unfold cmpZ
  rw [if_neg (by omega)]
  split <;> omega
 have HC:=Lib.hid (cmp_any v u n m w hv hu)
 obtain ⟨z,hzz⟩:∃ z,cmpZ n m=z:=⟨_,rfl⟩
 rw [hzz] at HC hz
 have hv9:=fun W (hx:Ext w W) => divSmall_any v (dig n) m W (hv.ext hx) (dig_dg n) hm hm0 hl
 obtain ⟨d1,d2⟩:=divL_div (x:=m) (n:=n) hm0
 rw [d1,d2] at hv9
 obtain ⟨q,hq⟩:∃ q,n / m=q:=⟨_,rfl⟩
 obtain ⟨r,hr⟩:∃ r,n % m=r:=⟨_,rfl⟩
 rw [hq,hr] at hv9
 have hr9:r < 4294967296:=by
  have:=Nat.mod_lt n hm0
  omega
 have hri:(r:Int) ≤ 4294967295:=by omega
 have HD:=Lib.hid hv9
 have HQ:=Lib.hid hq
 have HR:=Lib.hid hr
 obtain ⟨ao,c,rfl,_,hc⟩:=hu.open
 rw [dig_one hm0 hm] at hc HC
 obtain ⟨b,off,rfl,hcell0⟩:=hc 0 (encD m) rfl
 have hcell:Hid (∀ W,Ext w W → W.cell? ⟨b,off,none⟩=some (.int .u32 m)):=by
  show ∀ W,_ → _
  intro W hx
  have:=hx.cell hcell0
  rw [Nat.add_zero] at this
  exact this
 simp only [dig_one hm0 hm,List.length_cons,List.length_nil,Nat.zero_add] at *
 clear d1 d2 hq hr hv hu hc hcell0 hzz
 go_enter Tryz.func149,Tryz.ntmps149
 go_wp2_with fail
 refine HC.out.mono ?_
 rintro e w1 ⟨rfl,X1⟩
 have c1:=hcell.out _ X1
 go_wp2_with fail
 refine (HD.out _ X1).mono ?_
 rintro e w2 ⟨a,rfl,ha,_,X2⟩
 go_wp2_with fail
 refine (small_any r _ (by omega)).mono ?_
 rintro e w3 ⟨b3,rfl,hb3,X3⟩
 go_wp2_with fail
 go_ret2
 exact ⟨_,_,rfl,by rw [HQ.out]; exact ha.ext X3,by rw [HR.out]; exact hb3,(X1.trans X2).trans X3⟩
theorem div_small (v u:Value) (n m:Nat) (w:World) (hv:NatV w v n) (hu:NatV w u m) (hm0:0 < m) (hm:m < 4294967296) (hl:(dig n).length ≤ 1073741824) :
 Calls Tryz.prog 149 #[v,u] w (DivPost n m w):=by
 by_cases h:n < m
 · exact div_lt v u n m w hv hu h
 · exact div_one v u n m w hv hu (by omega) hm0 hm hl
theorem or64_lo (c s k:Nat) (hk:k ≤ 63) (hc:c < 2 ^ k) (hs:s < 18446744073709551616) (hm:s % 2 ^ k=0):bits .or .u64 (c:Int) (s:Int)=(c:Int) + (s:Int):=by
 have hp:(2:Nat) ^ k ≤ 2 ^ 63:=Nat.pow_le_pow_right (by omega) hk
 have hc64:c < 2 ^ 64:=by omega
 have h1:=(bits_nat .u64 64 (by decide) wraps64 c s hc64 (by omega)).2
 have h2:=(bits_nat .u64 64 (by decide) wraps64 s c (by omega) hc64).2
 rw [h1,Nat.or_comm,← h2]
 rw [bits_join .u64 64 (by decide) wraps64 k _ _ (by omega) (by exact_mod_cast hm) (by omega) (by omega) (by exact_mod_cast hc) (by omega)]
 omega
theorem shift_carry {c d p:Nat} (hp:p ≤ 2147483648) (hp0:0 < p) (hc:c < p) (hd:d < 4294967296):c + d * p ≤ 9223372036854775807 ∧ (c + d * p) / 4294967296 < p:=by
 have h1:d * p ≤ 4294967295 * p:=Nat.mul_le_mul_right p (by omega)
 refine ⟨by omega,?_⟩
 apply Nat.div_lt_of_lt_mul
 omega
set_option maxHeartbeats 1600000 in
set_option maxRecDepth 100000 in
theorem shift_any (v:Value) (ds:List Nat) (k:Nat) (w:World) (hv:Digs w v ds) (hd:Dg ds) (hk:k ≤ 31) (hl:ds.length ≤ 1073741824) :
 Calls Tryz.prog 171 #[v,.int .i64 k] w fun e w' => ∃ u,e=.returned u ∧ w'.ownsRow w.heap.size 167 1 u (ds.length + 1) ((mulAddL (2 ^ k) ds 0).map encD) ∧ Ext w w':=by
 obtain ⟨wo,rfl⟩:∃ wo:World,wo=w:=⟨_,rfl⟩
 obtain ⟨p,hp⟩:∃ p:Nat,2 ^ k=p:=⟨_,rfl⟩
 rw [hp]
 have hp31:p ≤ 2147483648:=by rw [← hp]; exact Nat.pow_le_pow_right (show 0 < 2 by omega) hk
 have hp0:0 < p:=by rw [← hp]; exact Nat.pow_pos (by omega)
 obtain ⟨F,hF⟩:∃ F,mulAddL p ds 0=F:=⟨_,rfl⟩
 rw [hF]
 obtain ⟨ao,c,rfl,hlen,hc⟩:=hv.open
 have HF:=Lib.hid hF
 have HC:=Lib.hid hc
 have HD:=Lib.hid hd
 have HP:=Lib.hid hp
 have hki:(k:Int) ≤ 31:=by omega
 have hmin:min k 64=k:=by omega
 have hpi:(2:Int) ^ k=(p:Int):=by rw [← hp]; simp
 clear hF hc hd hv hp
 go_enter Tryz.func171,Tryz.ntmps171
 go_wp2_with (first
  | (at_make; refine wp_make0 rfl rfl ei_nat rfl rfl (ds.length + 1) (by omega) (by omega) (by omega) ?_; intro w2 hO2 hX2))
 go_loopw [5,6,15] (fun o cv iv wr => ∃ (i cr:Nat) (os:List Nat),i ≤ ds.length ∧ iv=.int .i64 i ∧ cv=.int .u64 cr ∧ cr < p ∧ os.length=i ∧ wr.ownsRow wo.heap.size 167 1 o i (os.map encD) ∧ Ext wo wr ∧ Hid (os ++ mulAddL p (ds.drop i) cr=F)) (fun _ _ iv _ => ds.length - (intOf iv).toNat)
 case atStart => exact ⟨0,0,[],Nat.zero_le _,rfl,rfl,hp0,rfl,hO2,hX2,HF.out⟩
 case round =>
  obtain ⟨i,cr,os,hi,rfl,rfl,hcr,hol,HO,X,HI⟩:=hrel
  have hci:(cr:Int) ≤ 2147483648:=by omega
  have HOL:=Lib.hid hol
  clear hol
  by_cases hlt:i < ds.length
  · obtain ⟨d,d1,d2,d3⟩:=get_lt hlt
    obtain ⟨b,off,rfl,hc0⟩:=(HC.out.ext X).at d1
    have hcell:wr.cell? ⟨b,off + i,none⟩=some (.int .u32 d):=hc0
    have hdl:=HD.out.at d1.out
    obtain ⟨s,hs⟩:∃ s,d * p=s:=⟨_,rfl⟩
    have hcar:=shift_carry hp31 hp0 hcr hdl
    have hi2:=HI.out
    rw [d2.out,mulAddL] at hi2
    have eor:=or64_lo cr s k (by omega) (by rw [HP.out]; exact hcr) (by omega) (by rw [HP.out,← hs]; exact Nat.mul_mod_left _ _)
    rw [hs] at hcar hi2
    obtain ⟨t,ht⟩:∃ t,cr + s=t:=⟨_,rfl⟩
    rw [ht] at hcar hi2
    rw [show (cr:Int) + (s:Int)=(t:Int) by omega] at eor
    obtain ⟨lo,hlo⟩:∃ lo,t % 4294967296=lo:=⟨_,rfl⟩
    obtain ⟨hh,hhi⟩:∃ hh,t / 4294967296=hh:=⟨_,rfl⟩
    rw [hlo,hhi] at hi2
    rw [hhi] at hcar
    have HI2:Hid ((os ++ [lo]) ++ mulAddL p (ds.drop (i + 1)) hh=F):=by show _=_; rw [List.append_assoc]; exact hi2
    have e1:(d:Int) * (p:Int)=(s:Int):=by rw [← hs,Int.natCast_mul]
    have b1:(s:Int) ≤ 9223372036854775807:=by omega
    have e2:(t:Int) % 4294967296=(lo:Int):=by omega
    have e3:(t:Int) / 4294967296=(hh:Int):=by omega
    have b2:(t:Int) ≤ 9223372036854775807:=by omega
    have hdi:(d:Int) ≤ 4294967295:=by omega
    have hki:(i:Int) < (ds.length:Int):=by omega
    have HCAR:=Lib.hid hcar.2
    clear hi2 hlo hhi hs hc0 ht hcar
    have hsz:=X.size
    go_wp2_with (at_builtin; refine wp_app1 (s:=.tmp 25) (x:=.tmp 28) (y:=.int .u32 lo) rfl rfl ei_nat HO rfl rfl rfl rfl (by omega) (by omega) (by omega) ?_; intro v' w' hown hgrew)
    go_roundw
    case rel => exact ⟨i + 1,hh,os ++ [lo],by omega,by go_num,rfl,HCAR.out,by rw [List.length_append,HOL.out]; rfl,own_cast hown (by simp [encD]) rfl,hgrew.extNew X HO (Nat.le_refl _),HI2⟩
    case measure => simp [intOf]; omega
  · have hil:i=ds.length:=by omega
    subst hil
    have hi2:=HI.out
    rw [List.drop_length,mulAddL] at hi2
    have HI2:=Lib.hid hi2
    have hcm:(cr:Int) % 4294967296=(cr:Int):=by omega
    have hsz:=X.size
    clear hi2
    go_wp2_with (at_builtin; refine wp_app1 (s:=.tmp 33) (x:=.tmp 36) (y:=.int .u32 cr) rfl rfl ei_nat HO rfl rfl rfl rfl (by omega) (by omega) (by omega) ?_; intro v' w' hown hgrew)
    go_ret
    exact ⟨v',rfl,own_cast hown (by rw [← HI2.out]; simp [encD]) rfl,hgrew.extNew X HO (Nat.le_refl _)⟩
end Go.Proofs.YtcggohkbmhdohaaGreatDoor
