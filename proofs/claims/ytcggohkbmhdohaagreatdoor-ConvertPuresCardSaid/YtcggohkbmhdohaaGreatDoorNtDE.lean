/- texts merged: NatT NatX NatY NatU NatV NatW -/
import Derived.Test.YtcggohkbmhdohaaGreatDoorNtAC
import Derived.Deep.RegionHeld3
namespace Go.Proofs.YtcggohkbmhdohaaGreatDoor
open Go.RowKit
set_option linter.unusedVariables false
set_option maxHeartbeats 800000 in
set_option maxRecDepth 100000 in
theorem rNatCmp_any (a b:ByteArray) (w:World) (ca:Canon a.data.toList) (cb:Canon b.data.toList) (hla:a.size ≤ 1000000) (hlb:b.size ≤ 1000000) :
 Calls Tryz.prog 82 #[.string a,.string b] w fun e w' => e=.returned (.int .i64 (cmpZ (numB a) (numB b))) ∧ w=w':=by
 obtain ⟨q,hq⟩:∃ q,cmpZ (numB a) (numB b)=q:=⟨_,rfl⟩
 rw [hq]
 have hq2:=hq
 unfold cmpZ at hq2
 clear hq
 by_cases h1:a.size < b.size
 · have:=canon_lt ca cb (by rw [bsz,bsz]; exact h1)
   rw [if_pos (by unfold numB; exact this)] at hq2
   subst hq2
   have h1i:(a.size:Int) < (b.size:Int):=by omega
   clear this ca cb h1
   go_enter Tryz.func82,Tryz.ntmps82
   go_wp2_with fail
   go_ret
   exact ⟨rfl,rfl⟩
 · have h1i:(b.size:Int) ≤ (a.size:Int):=by omega
   by_cases h2:b.size < a.size
   · have:=canon_lt cb ca (by rw [bsz,bsz]; exact h2)
     rw [if_neg (by unfold numB; omega),if_pos (by unfold numB; exact this)] at hq2
     subst hq2
     have h2i:(b.size:Int) < (a.size:Int):=by omega
     clear this ca cb h1 h2 h1i
     go_enter Tryz.func82,Tryz.ntmps82
     go_wp2_with fail
     go_ret
     exact ⟨rfl,rfl⟩
   · have h2i:(a.size:Int) ≤ (b.size:Int):=by omega
     have hless:=bytes_less ca.1 cb.1 (by rw [bsz,bsz]; omega)
     rw [← Lib.toList_data a,← Lib.toList_data b] at hless
     by_cases h3:numB a < numB b
     · rw [if_pos h3] at hq2
       subst hq2
       have hb:Op.bytesLess a.toList b.toList=true:=by rw [hless]; simp only [Lib.toList_data]; exact decide_eq_true h3
       clear hless ca cb h1 h2 h3
       go_enter Tryz.func82,Tryz.ntmps82
       go_wp2_with fail
       go_ret
       exact ⟨rfl,rfl⟩
     · rw [if_neg h3] at hq2
       have hb:Op.bytesLess a.toList b.toList=false:=by rw [hless]; simp only [Lib.toList_data]; exact decide_eq_false h3
       by_cases h4:numB b < numB a
       · rw [if_pos h4] at hq2
         subst hq2
         have he:(a.toList == b.toList)=false:=by
          rw [beq_eq_false_iff_ne]
          intro e
          rw [Lib.toList_data,Lib.toList_data] at e
          unfold numB at h4
          rw [e] at h4
          omega
         clear hless ca cb h1 h2 h3 h4
         go_enter Tryz.func82,Tryz.ntmps82
         go_wp2_with fail
         go_ret
         exact ⟨rfl,rfl⟩
       · rw [if_neg h4] at hq2
         subst hq2
         have he:(a.toList == b.toList)=true:=by
          rw [beq_iff_eq,Lib.toList_data,Lib.toList_data]
          exact canon_eq ca cb (by unfold numB at h3 h4; omega)
         clear hless ca cb h1 h2 h3 h4
         go_enter Tryz.func82,Tryz.ntmps82
         go_wp2_with fail
         go_ret
         exact ⟨rfl,rfl⟩
def firstF:List Int → Int
 | [] => 0
 | x :: t => if x ≠ 0 then x else firstF t
theorem numB_decT (n:Nat):numB (decT n)=n:=by unfold numB; rw [decT_list,decF_dd]
theorem canon_decT (n:Nat):Canon (decT n).data.toList:=by rw [decT_list]; exact dd_canon n
theorem strip0 {l:List UInt8} (h:AllD l):stripL (48 :: l)=Lib.decDigits (decF 0 l):=by
 rw [stripL_dd (fun b hb => by
  rcases List.mem_cons.1 hb with rfl | hb
  · decide
  · exact h b hb) (by simp),decF_cons]
 have:(0 * 10 + ((48:UInt8).toNat - 48))=0:=by decide
 rw [this]
theorem canon_pos {l:List UInt8} (h:Canon l) (h0:decF 0 l ≠ 0):tenP (l.length - 1) ≤ decF 0 l:=by
 have hd:=canon_dd h
 have hne:0 < l.length:=List.length_pos_iff.2 h.2.1
 rcases Nat.lt_or_ge (decF 0 l) (tenP (l.length - 1)) with hlt | hge
 · exfalso
   by_cases h1:l.length=1
   · rw [h1] at hlt
     have:tenP (1 - 1)=1:=rfl
     omega
   · obtain ⟨k,hk⟩:∃ k,l.length - 1=k + 1:=⟨l.length - 2,by omega⟩
     rw [hk] at hlt
     have:=dd_len_lt hlt
     rw [← hd] at this
     omega
 · exact hge
theorem dd_mono {x y:Nat} (h:x ≤ y):(Lib.decDigits x).length ≤ (Lib.decDigits y).length:=by
 have h1:=decF_lt (dd_allD y)
 rw [decF_dd] at h1
 obtain ⟨k,hk⟩:∃ k,(Lib.decDigits y).length=k + 1:=⟨(Lib.decDigits y).length - 1,by have:=List.length_pos_iff.2 (dd_ne y); omega⟩
 rw [hk] at h1 ⊢
 exact dd_len_lt (Nat.lt_of_le_of_lt h h1)
theorem decF_snoc (l:List UInt8) (c:UInt8):decF 0 (l ++ [c])=decF 0 l * 10 + (c.toNat - 48):=by
 rw [decF_append,decF_cons,decF_nil]
theorem AllD.snoc {l:List UInt8} {c:UInt8} (h:AllD l) (hc:48 ≤ c.toNat ∧ c.toNat ≤ 57):AllD (l ++ [c]):=by
 intro b hb
 rcases List.mem_append.1 hb with hb | hb
 · exact h b hb
 · rw [List.mem_singleton] at hb; subst hb; exact hc
def DvI (al:List UInt8) (B i:Nat) (qs:List UInt8) (x:Nat):Prop:=AllD qs ∧ x < B ∧ decF 0 (al.take i)=decF 0 qs * B + x
theorem DvI.start {al bs:List UInt8} {n:Nat} (ha:AllD al) (hb:Canon bs) (h0:decF 0 bs ≠ 0) (hn:n ≤ bs.length - 1):DvI al (decF 0 bs) n [] (decF 0 (al.take n)):=by
 refine ⟨fun b hb => (by cases hb),?_,by simp [decF_nil]⟩
 have h1:=decF_lt (ha.take n)
 have h2:(10:Nat) ^ (al.take n).length ≤ 10 ^ (bs.length - 1):=Nat.pow_le_pow_right (by omega) (by rw [List.length_take]; omega)
 have h3:=canon_pos hb h0
 unfold tenP at h3
 omega
theorem take_snoc {al:List UInt8} {i:Nat} {c:UInt8} (h:al[i]?=some c):al.take (i + 1)=al.take i ++ [c]:=by
 obtain ⟨h1,h2⟩:=List.getElem?_eq_some_iff.1 h
 rw [List.take_succ_eq_append_getElem h1,h2]
theorem DvI.step {al:List UInt8} {B i x t r:Nat} {qs:List UInt8} {c:UInt8} (h:DvI al B i qs x) (ha:AllD al) (hc:al[i]?=some c) (hr:r < B) (ht:r + t * B=x * 10 + (c.toNat - 48)) (ht9:t ≤ 9) :
 DvI al B (i + 1) (qs ++ [(48 + t).toUInt8]) r:=by
 obtain ⟨h1,h2,h3⟩:=h
 have hb:=byte48 ht9
 refine ⟨h1.snoc (by rw [hb]; omega),hr,?_⟩
 rw [take_snoc hc,decF_snoc,decF_snoc,hb,h3,Nat.add_mul,Nat.add_mul,Nat.mul_right_comm,show 48 + t - 48=t by omega]
 omega
theorem DvI.small {al:List UInt8} {B i x t r:Nat} {qs:List UInt8} {c:UInt8} (h:DvI al B i qs x) (ha:AllD al) (hc:al[i]?=some c) (ht:r + t * B=x * 10 + (c.toNat - 48)):t ≤ 9:=by
 obtain ⟨h1,h2,h3⟩:=h
 have hc9:=ha c (List.mem_of_getElem? hc)
 rcases Nat.lt_or_ge 9 t with h | h
 · exfalso
   have:=Nat.mul_le_mul_right B (show 10 ≤ t from h)
   omega
 · exact h
theorem DvI.stop {al:List UInt8} {B i x:Nat} {qs:List UInt8} (h:DvI al B i qs x) (hi:al.length=i):AllD qs ∧ decF 0 qs=decF 0 al / B ∧ x=decF 0 al % B:=by
 obtain ⟨h1,h2,h3⟩:=h
 rw [← hi,List.take_length] at h3
 have:=(Nat.div_mod_unique (a:=decF 0 al) (b:=B) (c:=x) (d:=decF 0 qs) (by omega)).2 ⟨by rw [h3,Nat.mul_comm]; omega,h2⟩
 exact ⟨h1,this.1.symm,this.2.symm⟩
theorem encode_dig {t:Nat} (h:t ≤ 9):Utf8.encode (48 + (t:Int))=⟨#[(48 + t).toUInt8]⟩:=by
 have:t=0 ∨ t=1 ∨ t=2 ∨ t=3 ∨ t=4 ∨ t=5 ∨ t=6 ∨ t=7 ∨ t=8 ∨ t=9:=by omega
 rcases this with rfl | rfl | rfl | rfl | rfl | rfl | rfl | rfl | rfl | rfl <;> rfl
theorem next_len {x y k:Nat} {bs:List UInt8} (hx:x < decF 0 bs) (hb:AllD bs) (hy:y ≤ x * 10 + 9):(Lib.decDigits y).length ≤ bs.length + 1:=by
 have h1:=decF_lt hb
 apply dd_len_lt
 rw [Nat.pow_succ]
 omega
theorem ext_one {a:ByteArray} {i:Nat} {c:UInt8} (h:a.data.toList[i]?=some c):(a.extract i (i + 1)).data.toList=[c]:=by
 obtain ⟨h1,h2⟩:=List.getElem?_eq_some_iff.1 h
 rw [ByteArray.data_extract,Array.toList_extract,List.extract_eq_take_drop,show i + 1 - i=1 by omega]
 rw [List.drop_eq_getElem_cons h1,h2]
 rfl
set_option maxHeartbeats 3200000 in
set_option maxRecDepth 100000 in
theorem rNatDiv_any (a b:ByteArray) (w:World) (ha:AllD a.data.toList) (cb:Canon b.data.toList) (hb0:numB b ≠ 0) (hla:a.size ≤ 900000) (hlb:b.size ≤ 900000) :
 Calls Tryz.prog 115 #[.string a,.string b] w fun e w' => e=.returned (.tuple #[.string (decT (numB a / numB b)),.string (decT (numB a % numB b))]) ∧ Ext w w':=by
 obtain ⟨wo,rfl⟩:∃ wo:World,wo=w:=⟨_,rfl⟩
 have hsb:0 < b.size:=by rw [← bsz]; exact List.length_pos_iff.2 cb.2.1
 obtain ⟨n,hn⟩:∃ n,min a.size (b.size - 1)=n:=⟨_,rfl⟩
 have hni:max (0:Int) (min (a.size:Int) ((b.size:Int) - 1))=(n:Int):=by omega
 have hna:n ≤ a.size:=by omega
 have hnai:(n:Int) ≤ (a.size:Int):=by omega
 have hlai:(a.size:Int) ≤ 900000:=by omega
 have hlbi:(b.size:Int) ≤ 900000:=by omega
 have hlb1:(1:Int) ≤ (b.size:Int):=by omega
 obtain ⟨B,hB⟩:∃ B,numB b=B:=⟨_,rfl⟩
 obtain ⟨A,hA⟩:∃ A,numB a=A:=⟨_,rfl⟩
 have hst:=DvI.start (n:=n) ha cb hb0 (by rw [bsz]; omega)
 have hBd:decF 0 b.data.toList=B:=hB
 have hAd:decF 0 a.data.toList=A:=hA
 rw [hBd] at hst
 have HT0:=strip0 (ha.take n)
 generalize decF 0 (a.data.toList.take n)=x0 at *
 have HS0:=Lib.hid (fun W => strip_any ((⟨#[48]⟩:ByteArray) ++ a.extract 0 n) W (by rw [ByteArray.size_append,ByteArray.size_extract]; show 1 + _ ≤ _; omega) (Lib.decDigits x0) (by
  show _=_
  rw [show ((⟨#[48]⟩:ByteArray) ++ a.extract 0 n).data.toList=48 :: (a.extract 0 n).data.toList by simp,ext_take]; exact HT0))
 have HCMP:=Lib.hid (fun W y (hy:(Lib.decDigits y).length ≤ 1000000) => rNatCmp_any (decT y) b W (canon_decT y) cb (by rw [decT_size]; exact hy) (by omega))
 have HSUB:=Lib.hid (fun W y (hy:(Lib.decDigits y).length ≤ 1000000) hle => rNatSub_any (decT y) b W (canon_decT y).1 cb.1 (by rw [decT_size]; exact hy) (by omega) hle)
 simp only [numB_decT,hB] at HCMP HSUB
 have HLEN:=Lib.hid (fun x y (hx:x < B) (hy:y ≤ x * 10 + 9) => next_len (k:=0) (bs:=b.data.toList) (by rw [hBd]; exact hx) cb.1 hy)
 rw [bsz] at HLEN
 rw [hA,hB]
 have HST:=Lib.hid hst
 have HAD:=Lib.hid ha
 have HA:=Lib.hid hAd
 have hdT:∀ y,(⟨(Lib.decDigits y).toArray⟩:ByteArray)=decT y:=fun _ => rfl
 simp only [hdT] at HS0
 have HB0:Hid (B ≠ 0):=by show _ ≠ _; rw [← hB]; exact hb0
 clear hst ha hAd HT0 hBd cb hb0 hB hA hn hdT
 go_enter Tryz.func115,Tryz.ntmps115
 go_wp2_with fail
 refine (HS0.out _).mono ?_
 rintro e w1 ⟨rfl,X1⟩
 clear hni
 go_wp2_with fail
 go_loopw [7,8,9] (fun qv rv iv wr => ∃ (i x:Nat) (q:ByteArray),i ≤ a.size ∧ iv=.int .i64 i ∧ rv=.string (decT x) ∧ qv=.string q ∧ Hid (q.size ≤ i) ∧ Hid (DvI a.data.toList B i q.data.toList x) ∧ Ext wo wr) (fun _ _ iv _ => a.size - (intOf iv).toNat)
 case atStart => exact ⟨n,x0,⟨#[]⟩,hna,rfl,rfl,rfl,Nat.zero_le _,HST.out,X1⟩
 case round =>
  obtain ⟨i,x,q,hi,rfl,rfl,rfl,HQ,HI,X⟩:=hrel
  obtain ⟨wr0,rfl⟩:∃ wr0:World,wr0=wr:=⟨_,rfl⟩
  by_cases hlt:i < a.size
  · have hki:(i:Int) < (a.size:Int):=by omega
    obtain ⟨c,c1,_,_⟩:=get_lt (show i < a.data.toList.length by rw [bsz]; exact hlt)
    have hc:=HAD.out c (List.mem_of_getElem? c1.out)
    obtain ⟨Y,hY⟩:∃ Y,x * 10 + (c.toNat - 48)=Y:=⟨_,rfl⟩
    have hxB:=HI.out.2.1
    have hYx:Y ≤ x * 10 + 9:=by omega
    have hx9:=HLEN.out x x hxB (by omega)
    have hY9:=HLEN.out x Y hxB (by omega)
    have hEl:=ext_one c1.out
    obtain ⟨E,hE⟩:∃ E,a.extract i (i + 1)=E:=⟨_,rfl⟩
    rw [hE] at hEl
    have hTl:(decT x ++ E).data.toList=Lib.decDigits x ++ [c]:=by rw [ByteArray.data_append,Array.toList_append,decT_list,hEl]
    have hEs:E.size=1:=by rw [← bsz,hEl]; rfl
    have hSx:(decT x).size ≤ 900001:=by rw [decT_size]; omega
    have HS1:=Lib.hid (fun W => strip_any (decT x ++ E) W (by rw [ByteArray.size_append]; omega) (Lib.decDigits Y) (by
     show _=_
     rw [hTl,stripL_dd (AllD.snoc (dd_allD x) hc) (by simp),decF_snoc,decF_dd,hY]))
    have HST1:=Lib.hid (fun (t r:Nat) (hr:r < B) (ht:r + t * B=Y) (ht9:t ≤ 9) => HI.out.step HAD.out c1.out hr (ht.trans hY.symm) ht9)
    have HSM:=Lib.hid (fun (t r:Nat) (ht:r + t * B=Y) => HI.out.small HAD.out c1.out (ht.trans hY.symm))
    have hT2:(⟨(Lib.decDigits Y).toArray⟩:ByteArray)=decT Y:=rfl
    rw [hT2] at HS1
    have HSX:=Lib.hid hSx
    have hSxi:((decT x).size:Int) ≤ 900001:=by omega
    have hEsi:(E.size:Int) ≤ 1:=by omega
    clear hEl hTl hSx hT2 hx9 hc hY hlt hEs
    go_wp2_with fail
    refine (HS1.out _).mono ?_
    rintro e w1 ⟨rfl,X1⟩
    have X2:=X.trans X1
    clear X X1 hE HS1
    go_wp2_with fail
    go_loopg [8,10] Y (fun r rv dv wr => ∃ (t:Nat),rv=.string (decT r) ∧ dv=.int .u8 (48 + (t:Int)) ∧ t ≤ 9 ∧ Hid (r + t * B=Y) ∧ r ≤ Y ∧ Ext wo wr)
    case atStart => exact ⟨0,rfl,rfl,Nat.zero_le _,by show _=_; omega,Nat.le_refl _,X2⟩
    case round =>
     obtain ⟨t,rfl,rfl,ht9,HR,hrY,X⟩:=hrel
     have hr9:=HLEN.out x gk hxB (by omega)
     have HC:=Lib.hid (fun W => HCMP.out W gk (by omega))
     have hti:(t:Int) ≤ 9:=by omega
     by_cases hlt:gk < B
     · rw [show cmpZ gk B=-1 from if_pos hlt] at HC
       have HEN:=Lib.hid (HST1.out t gk hlt HR.out ht9)
       have henc:=encode_dig ht9
       obtain ⟨D,hD⟩:∃ D:ByteArray,(⟨#[(48 + t).toUInt8]⟩:ByteArray)=D:=⟨_,rfl⟩
       rw [hD] at henc
       have hDl:D.data.toList=[(48 + t).toUInt8]:=by rw [← hD]
       have hDs:D.size=1:=by rw [← bsz,hDl]; rfl
       have HEN2:Hid (DvI a.data.toList B (i + 1) (q ++ D).data.toList gk):=by
        show DvI _ _ _ _ _
        rw [ByteArray.data_append,Array.toList_append,hDl]; exact HEN.out
       have HQ2:Hid ((q ++ D).size ≤ i + 1):=by show _ ≤ _; rw [ByteArray.size_append]; have:=HQ.out; omega
       have hqi:(q.size:Int) ≤ 900000:=by have:=HQ.out; omega
       have hDi:(D.size:Int) ≤ 1:=by omega
       clear hlt hDl hD HEN hr9 hDs
       go_wp2_with fail
       refine (HC.out _).mono ?_
       rintro e w2 ⟨rfl,rfl⟩
       go_wp2_with fail
       go_roundw
       case rel => exact ⟨i + 1,gk,q ++ D,by omega,by go_num,rfl,rfl,HQ2,HEN2.out,X⟩
       case measure => simp [intOf]; omega
     · obtain ⟨z,hz⟩:∃ z,cmpZ gk B=z:=⟨_,rfl⟩
       rw [hz] at HC
       have hz0:0 ≤ z:=by rw [← hz]; unfold cmpZ; rw [if_neg hlt]; split <;> omega
       have HSB:=Lib.hid (fun W => HSUB.out W gk (by omega) (by omega))
       have hB0:=HB0.out
       obtain ⟨r2,hr2⟩:∃ r2,gk - B=r2:=⟨_,rfl⟩
       rw [hr2] at HSB
       have hR2:r2 + (t + 1) * B=Y:=by rw [Nat.add_mul]; have:=HR.out; omega
       have ht2:=HSM.out (t + 1) r2 hR2
       have HR2:=Lib.hid hR2
       have hlt2:Hid (r2 < gk):=by show _ < _; omega
       have hrY2:r2 ≤ Y:=by omega
       clear hR2 hr2 hB0 hz hlt hr9
       go_wp2_with fail
       refine (HC.out _).mono ?_
       rintro e w2 ⟨rfl,rfl⟩
       go_wp2_with fail
       refine (HSB.out _).mono ?_
       rintro e w3 ⟨rfl,X3⟩
       go_wp2_with fail
       go_roundg r2
       case rel => exact ⟨t + 1,rfl,by go_num,ht2,HR2,hrY2,X.trans X3⟩
       case measure => exact hlt2.out
  · have hil:a.size=i:=by omega
    subst hil
    obtain ⟨s1,s2,s3⟩:=HI.out.stop (bsz a)
    rw [HA.out] at s2 s3
    have hq:=HQ.out
    have HSQ:=Lib.hid (fun W => strip_any ((⟨#[48]⟩:ByteArray) ++ q) W (by rw [ByteArray.size_append]; show 1 + _ ≤ _; omega) (Lib.decDigits (A / B)) (by
     show _=_
     rw [show ((⟨#[48]⟩:ByteArray) ++ q).data.toList=48 :: q.data.toList by simp,strip0 s1,s2]))
    have hT2:(⟨(Lib.decDigits (A / B)).toArray⟩:ByteArray)=decT (A / B):=rfl
    rw [hT2] at HSQ
    have HX:=Lib.hid s3
    have hqi:(q.size:Int) ≤ 900000:=by omega
    clear s1 s2 s3 hT2 hlt hq
    go_wp2_with fail
    refine (HSQ.out _).mono ?_
    rintro e w1 ⟨rfl,X1⟩
    go_wp2_with fail
    go_ret2
    exact ⟨by rw [← HX.out]; rfl,X.trans X1⟩
theorem decT_zero_iff {n:Nat}:(decT n=⟨#[48]⟩) ↔ n=0:=by
 constructor
 · intro h
   have:=numB_decT n
   rw [h] at this
   rw [← this]; rfl
 · rintro rfl
   rw [decT,dd_small (by omega)]; rfl
set_option maxHeartbeats 1600000 in
set_option maxRecDepth 100000 in
theorem rNatGcd_any (n m:Nat) (w:World) (hn:(Lib.decDigits n).length ≤ 900000) (hm:(Lib.decDigits m).length ≤ 900000) :
 Calls Tryz.prog 114 #[.string (decT n),.string (decT m)] w fun e w' => e=.returned (.string (decT (Nat.gcd n m))) ∧ Ext w w':=by
 obtain ⟨wo,rfl⟩:∃ wo:World,wo=w:=⟨_,rfl⟩
 obtain ⟨F,hF⟩:∃ F,Nat.gcd n m=F:=⟨_,rfl⟩
 rw [hF]
 have HF:=Lib.hid hF
 have HD:=Lib.hid (fun W x y (hx:(Lib.decDigits x).length ≤ 900000) (hy:(Lib.decDigits y).length ≤ 900000) (h0:y ≠ 0) => rNatDiv_any (decT x) (decT y) W (canon_decT x).1 (canon_decT y) (by rw [numB_decT]; exact h0) (by rw [decT_size]; exact hx) (by rw [decT_size]; exact hy))
 simp only [numB_decT] at HD
 clear hF
 go_enter Tryz.func114,Tryz.ntmps114
 go_wp2_with fail
 go_loopg [0,1] m (fun y av bv wr => ∃ (x:Nat),av=.string (decT x) ∧ bv=.string (decT y) ∧ (Lib.decDigits x).length ≤ 900000 ∧ (Lib.decDigits y).length ≤ 900000 ∧ Hid (Nat.gcd x y=F) ∧ Ext wo wr)
 case atStart => exact ⟨n,rfl,rfl,hn,hm,HF,Ext.refl _⟩
 case round =>
  obtain ⟨x,rfl,rfl,hx,hy,HG,X⟩:=hrel
  obtain ⟨T,hT⟩:∃ T,decT gk=T:=⟨_,rfl⟩
  have HT:=Lib.hid hT
  by_cases h0:gk=0
  · subst h0
    have hz:=decT_zero_iff.2 (rfl:(0:Nat)=0)
    have hxF:Hid (decT F=decT x):=by show _=_; rw [← HG.out,Nat.gcd_zero_right]
    have hb:(T.toList == [48])=true:=by rw [← hT,hz,Lib.toList_data]; rfl
    rw [hT]
    clear hT hz
    go_wp2_with fail
    go_ret
    exact ⟨by rw [hxF.out]; rfl,X⟩
  · have hb:(T.toList == [48])=false:=by
     rw [beq_eq_false_iff_ne]
     intro e
     apply h0
     apply decT_zero_iff.1
     rw [hT]
     rw [Lib.toList_data] at e
     exact bytes_of_list e
    have HDD:=Lib.hid (fun W => HD.out W x gk hx hy h0)
    have hG2:Nat.gcd gk (x % gk)=F:=by rw [← HG.out,Nat.gcd_comm x gk,Nat.gcd_rec gk x,Nat.gcd_comm]
    have HG2:=Lib.hid hG2
    have hlt:Hid (x % gk < gk):=Nat.mod_lt _ (by omega)
    have hr9:(Lib.decDigits (x % gk)).length ≤ 900000:=by
     exact Nat.le_trans (dd_mono (Nat.mod_le _ _)) hx
    obtain ⟨r,hr⟩:∃ r,x % gk=r:=⟨_,rfl⟩
    rw [hr] at HG2 hlt hr9 HDD
    obtain ⟨qq,hqq⟩:∃ qq,x / gk=qq:=⟨_,rfl⟩
    rw [hqq] at HDD
    rw [hT] at HDD ⊢
    clear hG2 hr hqq h0 hT
    go_wp2_with fail
    refine (HDD.out _).mono ?_
    rintro e w1 ⟨rfl,X1⟩
    go_wp2_with fail
    go_roundg r
    case rel => exact ⟨gk,by rw [HT.out],rfl,hy,hr9,HG2,X.trans X1⟩
    case measure => exact hlt.out
def LeAt (f:Nat → Nat) (o:List Nat):Prop:=∀ j x,o[j]?=some x → x ≤ f j
theorem v10_set:∀ (o:List Nat) (j x y:Nat),o[j]?=some x → v10 (o.set j y) + tenP j * x=v10 o + tenP j * y
 | [],j,x,y,h => by simp at h
 | a :: t,0,x,y,h => by
   simp only [List.getElem?_cons_zero,Option.some.injEq] at h
   subst h
   simp only [List.set_cons_zero,v10,tenP,Nat.pow_zero,Nat.one_mul]
   omega
 | a :: t,j + 1,x,y,h => by
   have ih:=v10_set t j x y (by simpa using h)
   rw [List.set_cons_succ,v10,v10,tenP_succ,Nat.mul_comm (tenP j) 10,Nat.mul_assoc,Nat.mul_assoc]
   omega
theorem LeAt.set {f:Nat → Nat} {o:List Nat} {j y:Nat} (h:LeAt f o) (hy:y ≤ f j):LeAt f (o.set j y):=by
 intro k x hx
 rw [List.getElem?_set] at hx
 split at hx
 · rename_i e
   split at hx
   · cases hx; rw [← e]; exact hy
   · cases hx
 · exact h k x hx
theorem LeAt.mono {f g:Nat → Nat} {o:List Nat} (h:LeAt f o) (hg:∀ j,j < o.length → f j ≤ g j):LeAt g o :=
 fun j x hx => Nat.le_trans (h j x hx) (hg j (List.getElem?_eq_some_iff.1 hx).1)
theorem D9.leAt {o:List Nat} (h:D9 o):LeAt (fun _ => 9) o:=fun j x hx => h x (List.mem_of_getElem? hx)
def MI (L:Nat) (db:List Nat) (x i k:Nat) (o:List Nat) (V0:Nat):Prop :=
 o.length=L ∧ LeAt (fun j => if j < i + k then 90 else 9) o ∧ v10 o=V0 + tenP i * (x * v10 (db.take k))
theorem MI.start {L i x:Nat} {db o:List Nat} (hl:o.length=L) (h:D9 o):MI L db x i 0 o (v10 o) :=
 ⟨hl,h.leAt.mono (fun j _ => by split <;> omega),by simp [v10]⟩
theorem v10_take {l:List Nat} {k y:Nat} (h:l[k]?=some y):v10 (l.take (k + 1))=v10 (l.take k) + tenP k * y:=by
 obtain ⟨h1,h2⟩:=List.getElem?_eq_some_iff.1 h
 rw [List.take_succ_eq_append_getElem h1,h2,v10_snoc,List.length_take,Nat.min_eq_left (by omega)]
theorem MI.step {L i x k y e:Nat} {db o:List Nat} {V0:Nat} (h:MI L db x i k o V0) (hx:x ≤ 9) (hy9:y ≤ 9) (hy:db[k]?=some y) (he:o[i + k]?=some e) :
 e ≤ 9 ∧ MI L db x i (k + 1) (o.set (i + k) (e + x * y)) V0:=by
 obtain ⟨h1,h2,h3⟩:=h
 have he9:=h2 _ _ he
 simp only [Nat.lt_irrefl,if_false] at he9
 have hxy:x * y ≤ 9 * 9:=Nat.mul_le_mul hx hy9
 refine ⟨he9,by rw [List.length_set,h1],?_,?_⟩
 · apply LeAt.set
   · exact h2.mono (fun j _ => by (repeat' split) <;> omega)
   · rw [if_pos (by omega)]; omega
 · have e1:=v10_set o (i + k) e (e + x * y) he
   rw [Nat.mul_add,h3] at e1
   rw [v10_take hy,Nat.mul_add x,Nat.mul_add (tenP i),Nat.mul_left_comm x,← Nat.mul_assoc (tenP i) (tenP k),tenP_add]
   omega
theorem MI.stop {L i x:Nat} {db o:List Nat} {V0 k:Nat} (h:MI L db x i k o V0) (hk:db.length=k) :
 o.length=L ∧ LeAt (fun _ => 90) o ∧ v10 o=V0 + tenP i * (x * v10 db):=by
 obtain ⟨h1,h2,h3⟩:=h
 rw [← hk,List.take_length] at h3
 exact ⟨h1,h2.mono (fun j _ => by split <;> omega),h3⟩
def CI (L k:Nat) (o:List Nat) (V:Nat):Prop :=
 o.length=L ∧ LeAt (fun j => if j < k then 9 else if j=k then 99 else 90) o ∧ v10 o=V
theorem CI.start {L V:Nat} {o:List Nat} (h1:o.length=L) (h2:LeAt (fun _ => 90) o) (h3:v10 o=V):CI L 0 o V :=
 ⟨h1,h2.mono (fun j _ => by (repeat' split) <;> omega),h3⟩
theorem CI.small {L k V e:Nat} {o:List Nat} (h:CI L k o V) (he:o[k]?=some e) (h9:e ≤ 9):CI L (k + 1) o V:=by
 obtain ⟨h1,h2,h3⟩:=h
 refine ⟨h1,?_,h3⟩
 intro j x hx
 have:=h2 j x hx
 by_cases hj:j=k
 · subst hj
   rw [he] at hx
   cases hx
   dsimp only; rw [if_pos (by omega)]; exact h9
 · revert this
   simp only
   (repeat' split) <;> omega
theorem CI.big {L k V e f:Nat} {o:List Nat} (h:CI L k o V) (he:o[k]?=some e) (hf:o[k + 1]?=some f) :
 e ≤ 99 ∧ f ≤ 90 ∧ CI L (k + 1) ((o.set (k + 1) (f + e / 10)).set k (e % 10)) V:=by
 obtain ⟨h1,h2,h3⟩:=h
 have be:=h2 _ _ he
 have bf:=h2 _ _ hf
 simp only [Nat.lt_irrefl,if_false,if_true] at be
 simp only [show ¬ (k + 1 < k) by omega,show ¬ (k + 1=k) by omega,if_false] at bf
 refine ⟨be,bf,by rw [List.length_set,List.length_set,h1],?_,?_⟩
 · intro j x hx
   rw [List.getElem?_set,List.getElem?_set] at hx
   by_cases hj:k=j
   · subst hj
     rw [if_pos rfl] at hx
     split at hx
     · cases hx; dsimp only; rw [if_pos (by omega)]; omega
     · cases hx
   · rw [if_neg hj] at hx
     by_cases hj2:k + 1=j
     · subst hj2
       rw [if_pos rfl] at hx
       split at hx
       · cases hx; dsimp only; rw [if_neg (by omega),if_pos rfl]; omega
       · cases hx
     · rw [if_neg hj2] at hx
       have:=h2 j x hx
       revert this
       simp only
       (repeat' split) <;> omega
 · have e1:=v10_set o (k + 1) f (f + e / 10) hf
   have hk:(o.set (k + 1) (f + e / 10))[k]?=some e:=by rw [List.getElem?_set_ne (by omega)]; exact he
   have e2:=v10_set _ k e (e % 10) hk
   rw [Nat.mul_add,tenP_succ,h3] at e1
   have e3:tenP k * e=tenP k * 10 * (e / 10) + tenP k * (e % 10):=by
    rw [Nat.mul_assoc,← Nat.mul_add]; congr 1; omega
   omega
theorem CI.stop {n k V:Nat} {o:List Nat} (h:CI (n + 1) k o V) (hk:k=n) (hV:V < tenP n):o.length=n + 1 ∧ D9 o ∧ v10 o=V:=by
 subst hk
 obtain ⟨h1,h2,h3⟩:=h
 refine ⟨h1,?_,h3⟩
 have hz:o.getD k 0=0:=by
  have hs:o=o.take k ++ o.drop k:=(List.take_append_drop k o).symm
  have e1:=v10_append (o.take k) (o.drop k)
  rw [← hs,List.length_take,Nat.min_eq_left (by omega),h3,v10_drop] at e1
  rcases Nat.eq_zero_or_pos (o.getD k 0) with h | h
  · exact h
  · exfalso
    have:=Nat.mul_le_mul_left (tenP k) (show 1 ≤ o.getD k 0 + 10 * v10 (o.drop (k + 1)) by omega)
    omega
 intro d hd
 obtain ⟨j,hj⟩:=List.mem_iff_getElem?.1 hd
 have hjl:=(List.getElem?_eq_some_iff.1 hj).1
 have:=h2 j d hj
 by_cases hjk:j=k
 · subst hjk
   rw [List.getD_eq_getElem?_getD,hj] at hz
   have:d=0:=hz
   omega
 · dsimp only at this; rw [if_pos (by omega)] at this; exact this
def OI (L:Nat) (da db:List Nat) (i:Nat) (o:List Nat):Prop:=o.length=L ∧ D9 o ∧ v10 o=v10 (da.take i) * v10 db
theorem v10_zeros (n:Nat):v10 (List.replicate n 0)=0:=by
 induction n with
 | zero => rfl
 | succ n ih => rw [List.replicate_succ,v10,ih]
theorem OI.start (L:Nat) (da db:List Nat):OI L da db 0 (List.replicate L 0) :=
 ⟨by simp,fun d hd => by rw [(List.mem_replicate.1 hd).2]; omega,by rw [v10_zeros]; simp [v10]⟩
theorem row_val {da db:List Nat} {i x:Nat} (ha:D9 da) (hb:D9 db) (hx:da[i]?=some x) :
 v10 (da.take i) * v10 db + tenP i * (x * v10 db)=v10 (da.take (i + 1)) * v10 db ∧ v10 (da.take (i + 1)) * v10 db < tenP (da.length + db.length):=by
 refine ⟨by rw [v10_take hx,Nat.add_mul,Nat.mul_assoc],?_⟩
 have h1:v10 (da.take (i + 1)) < tenP (da.take (i + 1)).length:=v10_lt (fun d hd => ha d (List.mem_of_mem_take hd))
 have h2:=v10_lt hb
 have h3:tenP (da.take (i + 1)).length ≤ tenP da.length:=tenP_le (by rw [List.length_take]; omega)
 rw [← tenP_add]
 calc v10 (da.take (i + 1)) * v10 db ≤ v10 (da.take (i + 1)) * tenP db.length:=Nat.mul_le_mul_left _ (Nat.le_of_lt h2)
  _ < tenP da.length * tenP db.length:=Nat.mul_lt_mul_of_pos_right (Nat.lt_of_lt_of_le h1 h3) (by omega)
theorem OI.stop {L i:Nat} {da db o:List Nat} (h:OI L da db i o) (hi:da.length=i):D9 o ∧ v10 o=v10 da * v10 db:=by
 obtain ⟨h1,h2,h3⟩:=h
 rw [← hi,List.take_length] at h3
 exact ⟨h2,h3⟩
theorem getD_at {l:List Nat} {k x:Nat} (h:l[k]?=some x):l.getD k 0=x:=by rw [List.getD_eq_getElem?_getD,h]; rfl
theorem set_mapI (os:List Nat) (t z:Nat):(os.map encI).set t (.int .i64 (z:Nat))=(os.set t z).map encI:=by
 rw [List.map_set]; rfl
theorem get_mapI {os:List Nat} {t z:Nat} (h:os[t]?=some z):(os.map encI)[t]?=some (.int .i64 (z:Nat)):=by
 rw [List.getElem?_map,h]; rfl
set_option maxHeartbeats 3200000 in
set_option maxRecDepth 100000 in
theorem rNatMul_any (a b:ByteArray) (w:World) (ha:AllD a.data.toList) (hb:AllD b.data.toList) (hla:a.size ≤ 1000000) (hlb:b.size ≤ 1000000) :
 Calls Tryz.prog 80 #[.string a,.string b] w fun e w' => e=.returned (.string (decT (numB a * numB b))) ∧ Ext w w':=by
 obtain ⟨wo,rfl⟩:∃ wo:World,wo=w:=⟨_,rfl⟩
 have HA:=Lib.hid (fun W k (hk:k ≤ 1000001) q hq => digit_any a k W (by omega) (by omega) ha q hq)
 have HB:=Lib.hid (fun W k (hk:k ≤ 1000001) q hq => digit_any b k W (by omega) (by omega) hb q hq)
 have HDA:=Lib.hid (rd_D9 ha)
 have HDB:=Lib.hid (rd_D9 hb)
 have hl1:=rd_length a.data.toList
 have hl2:=rd_length b.data.toList
 rw [bsz] at hl1 hl2
 have HL1:=Lib.hid hl1
 have HL2:=Lib.hid hl2
 obtain ⟨S,hS⟩:∃ S,numB a * numB b=S:=⟨_,rfl⟩
 rw [hS]
 have hSv:v10 (rd a.data.toList) * v10 (rd b.data.toList)=S:=by rw [v10_rd,v10_rd]; exact hS
 have HS:=Lib.hid hSv
 generalize rd a.data.toList=da at *
 generalize rd b.data.toList=db at *
 clear ha hb hl1 hl2 hS hSv
 have hlai:(a.size:Int) ≤ 1000000:=by omega
 have hlbi:(b.size:Int) ≤ 1000000:=by omega
 obtain ⟨n,hn⟩:∃ n,a.size + b.size=n:=⟨_,rfl⟩
 have hnL:(a.size:Int) + (b.size:Int) + 1=((n + 1:Nat):Int):=by omega
 have HN:=Lib.hid hn
 have hn2:n ≤ 2000000:=by omega
 have hst:=OI.start (n + 1) da db
 obtain ⟨L,hL⟩:∃ L,n + 1=L:=⟨_,rfl⟩
 rw [hL] at hnL hst
 have HST:=Lib.hid hst
 have HL:=Lib.hid hL
 have hL1:(L:Int) - 1=(n:Int):=by omega
 have hLm:L ≤ 2000001:=by omega
 have hLi:(L:Int) ≤ 2000001:=by omega
 clear hst hL hn
 go_enter Tryz.func80,Tryz.ntmps80
 go_wp2_with (first
  | (at_make; refine wp_make1 rfl rfl ei_ints' rfl rfl rfl L rfl rfl (by omega) (by omega) ?_; intro w2 hO2 hX2))
 clear hnL
 go_loopw [19] (fun iv wr => ∃ (i:Nat) (os:List Nat),i ≤ a.size ∧ iv=.int .i64 i ∧ Hid (OI L da db i os) ∧ wr.ownsRow wo.heap.size 3 1 (.slice (some ⟨wo.heap.size,0,none⟩) L L) L (os.map encI) ∧ Ext wo wr) (fun iv _ => a.size - (intOf iv).toNat)
 case atStart => exact ⟨0,List.replicate L 0,Nat.zero_le _,rfl,HST,own_cast hO2 (by simp [encI]) rfl,hX2⟩
 case round =>
  obtain ⟨i,os,hi,rfl,HI,HO,X⟩:=hrel
  obtain ⟨wr0,rfl⟩:∃ wr0:World,wr0=wr:=⟨_,rfl⟩
  by_cases hlt:i < a.size
  · obtain ⟨x,x1,x2,x3⟩:=get_lt (show i < da.length by rw [HL1.out]; exact hlt)
    have hx9:x ≤ 9:=HDA.out x (List.mem_of_getElem? x1.out)
    have HAx:=Lib.hid (fun W => HA.out W i (by omega) x (getD_at x1.out))
    have hxi:(x:Int) ≤ 9:=by omega
    have hki:(i:Int) < (a.size:Int):=by omega
    obtain ⟨rv1,rv2⟩:=row_val (i:=i) HDA.out HDB.out x1.out
    rw [HL1.out,HL2.out,HN.out] at rv2
    have RV1:=Lib.hid rv1
    have RV2:=Lib.hid rv2
    obtain ⟨V0,hV0⟩:∃ V0,v10 os=V0:=⟨_,rfl⟩
    have hms:=MI.start (i:=i) (x:=x) (db:=db) HI.out.1 HI.out.2.1
    rw [hV0] at hms
    have HMS:=Lib.hid hms
    have hV0e:=HI.out.2.2
    rw [hV0] at hV0e
    have HV0:=Lib.hid hV0e
    clear rv1 rv2 hms hV0e hV0 hlt
    go_wp2_with fail
    refine (HAx.out _).mono ?_
    rintro e w1 ⟨rfl,rfl⟩
    go_wp2_with fail
    go_loopw [27] (fun kv wr => ∃ (k:Nat) (os:List Nat),k ≤ b.size ∧ kv=.int .i64 k ∧ Hid (MI L db x i k os V0) ∧ wr.ownsRow wo.heap.size 3 1 (.slice (some ⟨wo.heap.size,0,none⟩) L L) L (os.map encI) ∧ Ext wo wr) (fun kv _ => b.size - (intOf kv).toNat)
    case atStart => exact ⟨0,os,Nat.zero_le _,rfl,HMS,HO,X⟩
    case round =>
     obtain ⟨k,os,hk,rfl,HM,HO,X⟩:=hrel
     obtain ⟨wr1,rfl⟩:∃ wr1:World,wr1=wr:=⟨_,rfl⟩
     by_cases hlt:k < b.size
     · obtain ⟨y,y1,y2,y3⟩:=get_lt (show k < db.length by rw [HL2.out]; exact hlt)
       have hy9:y ≤ 9:=HDB.out y (List.mem_of_getElem? y1.out)
       have HBy:=Lib.hid (fun W => HB.out W k (by omega) y (getD_at y1.out))
       have hyi:(y:Int) ≤ 9:=by omega
       have hkb:(k:Int) < (b.size:Int):=by omega
       obtain ⟨t,ht⟩:∃ t,i + k=t:=⟨_,rfl⟩
       have hti:(i:Int) + (k:Int)=(t:Int):=by omega
       have htL:t < L:=by have:=HN.out; have:=HL.out; omega
       have htLi:(t:Int) < (L:Int):=by omega
       obtain ⟨e,e1,_,_⟩:=get_lt (show t < os.length by rw [HM.out.1]; exact htL)
       obtain ⟨he9,hm2⟩:=HM.out.step hx9 hy9 y1.out (by rw [ht]; exact e1.out)
       have hei:(e:Int) ≤ 9:=by omega
       obtain ⟨p,hp⟩:∃ p,x * y=p:=⟨_,rfl⟩
       have hp81:p ≤ 81:=by rw [← hp]; exact Nat.mul_le_mul hx9 hy9
       have epi:(x:Int) * (y:Int)=(p:Int):=by rw [← hp,Int.natCast_mul]
       have hpi:(p:Int) ≤ 81:=by omega
       obtain ⟨z,hz⟩:∃ z,e + p=z:=⟨_,rfl⟩
       have ezi:(e:Int) + (p:Int)=(z:Int):=by omega
       have hzi:(z:Int) ≤ 90:=by omega
       rw [hp,hz,ht] at hm2
       have HM2:=Lib.hid hm2
       have c1:=own_cell HO (j:=t) (get_mapI e1.out)
       have f1:=HO.frozenAt t
       have s1:=HO.stored t (.int .i64 z)
       rw [set_mapI] at s1
       have H1:=Lib.hid s1.1
       have h0t:(0:Int) ≤ (t:Int):=by omega
       have hti2:(i:Int) + (k:Int) < (L:Int):=by omega
       have hti0:(0:Int) ≤ (i:Int) + (k:Int):=by omega
       clear hm2 hp hz ht s1 hlt
       go_wp2_with fail
       have w1:IntKind.i64.wrap ((i:Int) + (k:Int))=(t:Int):=by rw [hti]; exact IntWalk.i64_in _ (by omega)
       have w2:IntKind.i64.wrap (t:Int)=(t:Int):=IntWalk.i64_in _ (by omega)
       have w3:IntKind.i64.wrap ((x:Int) * (y:Int))=(p:Int):=by rw [epi]; exact IntWalk.i64_in _ (by omega)
       have w4:IntKind.i64.wrap ((e:Int) + (p:Int))=(z:Int):=by rw [ezi]; exact IntWalk.i64_in _ (by omega)
       have w5:IntKind.i64.wrap (p:Int)=(p:Int):=IntWalk.i64_in _ (by omega)
       have w6:IntKind.i64.wrap (z:Int)=(z:Int):=IntWalk.i64_in _ (by omega)
       go_region_with (refine (HBy.out _).mono ?_; rintro e w' ⟨rfl,rfl⟩)
       all_goals
        clear w1 w2 w3 w4 w5 w6
        go_wp2_with fail
        go_roundw
        case rel => exact ⟨k + 1,os.set t z,by omega,by go_num,HM2,H1.out,(X.drewN _).setCell (Nat.le_refl _) _⟩
        case measure => simp [intOf]; omega
     · have hkb:b.size=k:=by omega
       subst hkb
       obtain ⟨m1,m2,m3⟩:=HM.out.stop HL2.out
       have hcs:=CI.start m1 m2 m3
       rw [HV0.out,RV1.out] at hcs
       obtain ⟨V,hV⟩:∃ V,v10 (da.take (i + 1)) * v10 db=V:=⟨_,rfl⟩
       rw [hV] at hcs
       have hVn:=RV2.out
       rw [hV] at hVn
       have HCS:=Lib.hid hcs
       have HVN:=Lib.hid hVn
       have HV:=Lib.hid hV
       clear hcs hVn hV m1 m2 m3 hlt
       go_wp2_with fail
       go_loopw [50] (fun kv wr => ∃ (k:Nat) (os:List Nat),k ≤ n ∧ kv=.int .i64 k ∧ Hid (CI L k os V) ∧ wr.ownsRow wo.heap.size 3 1 (.slice (some ⟨wo.heap.size,0,none⟩) L L) L (os.map encI) ∧ Ext wo wr) (fun kv _ => n - (intOf kv).toNat)
       case atStart => exact ⟨0,os,Nat.zero_le _,rfl,HCS,HO,X⟩
       case round =>
        obtain ⟨k,os,hk,rfl,HM,HO,X⟩:=hrel
        by_cases hlt:k < n
        · have hkL:(k:Int) < (L:Int):=by omega
          have hkL1:(k:Int) + 1 < (L:Int):=by omega
          have hkn:(k:Int) < (n:Int):=by omega
          obtain ⟨e,e1,_,_⟩:=get_lt (show k < os.length by rw [HM.out.1]; omega)
          obtain ⟨f,f1,_,_⟩:=get_lt (show k + 1 < os.length by rw [HM.out.1]; omega)
          have ce:=own_cell HO (j:=k) (get_mapI e1.out)
          obtain ⟨he99,hf90,hb⟩:=HM.out.big e1.out f1.out
          have hei:(e:Int) ≤ 99:=by omega
          have hfi:(f:Int) ≤ 90:=by omega
          by_cases h9:e ≤ 9
          · have hsm:=HM.out.small e1.out h9
            have HSM:=Lib.hid hsm
            have h9i:(e:Int) ≤ 9:=by omega
            clear hb hsm
            go_wp2_with fail
            go_roundw
            case rel => exact ⟨k + 1,os,by omega,by go_num,HSM,HO,X⟩
            case measure => simp [intOf]; omega
          · have h9i:(9:Int) < (e:Int):=by omega
            obtain ⟨g,hg⟩:∃ g,e / 10=g:=⟨_,rfl⟩
            obtain ⟨r,hr⟩:∃ r,e % 10=r:=⟨_,rfl⟩
            obtain ⟨h,hh⟩:∃ h,f + g=h:=⟨_,rfl⟩
            rw [hg,hr,hh] at hb
            have HB2:=Lib.hid hb
            have eg:(e:Int).tdiv 10=(g:Int):=by rw [← hg]; exact (Int.ofNat_tdiv e 10).symm
            have er:(e:Int).tmod 10=(r:Int):=by rw [← hr]; exact (Int.ofNat_tmod e 10).symm
            have eh:(f:Int) + (g:Int)=(h:Int):=by omega
            have hgi:(g:Int) ≤ 9:=by omega
            have hhi:(h:Int) ≤ 99:=by omega
            have hri:(r:Int) ≤ 9:=by omega
            have cf:=own_cell HO (j:=k + 1) (get_mapI f1.out)
            have fz1:=HO.frozenAt (k + 1)
            have s1:=HO.stored (k + 1) (.int .i64 h)
            rw [set_mapI] at s1
            have ce2:=own_cell s1.1 (j:=k) (x:=.int .i64 e) (by
             show _=_
             exact get_mapI (by rw [List.getElem?_set_ne (by omega)]; exact e1.out))
            have fz2:=s1.1.frozenAt k
            have s2:=s1.1.stored k (.int .i64 r)
            rw [set_mapI] at s2
            have H2:=Lib.hid s2.1
            clear hb s1 s2 hg hr hh
            go_wp2_with fail
            go_region
            all_goals go_wp2_with fail
            go_roundw
            case rel => exact ⟨k + 1,(os.set (k + 1) h).set k r,by omega,by go_num,HB2,H2.out,((X.drewN _).setCell (Nat.le_refl _) _).setCell (Nat.le_refl _) _⟩
            case measure => simp [intOf]; omega
        · have hkn:n=k:=by omega
          subst hkn
          have hcs:=HM.out
          rw [← HL.out] at hcs
          obtain ⟨o1,o2,o3⟩:=hcs.stop rfl HVN.out
          have HOI:Hid (OI L da db (i + 1) os):=⟨by rw [o1]; exact HL.out,o2,by rw [o3,HV.out]⟩
          clear hcs o1 o2 o3 hlt
          go_wp2_with fail
          go_roundw
          case rel => exact ⟨i + 1,os,by omega,by go_num,HOI,HO,X⟩
          case measure => simp [intOf]; omega
  · have hil:a.size=i:=by omega
    subst hil
    obtain ⟨o2,o3⟩:=HI.out.stop HL1.out
    have hol:=HI.out.1
    have HT:=Lib.hid (dtext_any _ os wr0 (own_rowOf (enc:=encI) HO (by omega)) o2 (by omega))
    rw [o3,HS.out] at HT
    clear hlt hol o2 o3
    go_wp2_with fail
    refine HT.out.mono ?_
    rintro e w1 ⟨rfl,X1⟩
    go_wp2_with fail
    go_ret
    exact ⟨rfl,X.trans X1⟩
end Go.Proofs.YtcggohkbmhdohaaGreatDoor
