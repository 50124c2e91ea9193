/- texts merged: RatAD RatAE RatAF RatAG RatAH RatAI -/
import Derived.Test.YtcggohkbmhdohaaGreatDoorRtC
import Derived.Test.YtcggohkbmhdohaaGreatDoorNtDE
import Derived.Test.YtcggohkbmhdohaaGreatDoorRtJ
import Derived.Test.YtcggohkbmhdohaaGreatDoorNatI
namespace Go.Proofs.YtcggohkbmhdohaaGreatDoor
open Go.RowKit
set_option linter.unusedVariables false
set_option maxHeartbeats 1600000 in
set_option maxRecDepth 100000 in
theorem rparts_pos_miss (s b n d:ByteArray) (w:World) (hs:s.size ≤ 9223372036854775806)
 (hlt:0 < s.size) (h45:s[0] ≠ 45) (hb:b=s) (h47b:∀ k (h:k < b.size),b[k] ≠ 47) (hn:n=b) (hd:d=⟨#[49]⟩) :
 Calls Tryz.prog 67 #[.string s] w fun e w' => e=.returned (.tuple #[.bool false,.string n,.string d]) ∧ Ext w w':=by
 have hst:(s.size:Int) ≤ 9223372036854775806:=by omega
 have hs0:(0:Int) < (s.size:Int):=by omega
 have hbs:b.size ≤ 9223372036854775806:=by
  rw [hb]; exact hs
 have hbsi:(b.size:Int) ≤ 9223372036854775806:=by omega
 have hb45:((s[0].toNat:Int) == 45)=false:=by
  rw [beq_eq_false_iff_ne]
  intro e
  apply h45
  apply UInt8.toNat_inj.1
  have:(45:UInt8).toNat=45:=rfl
  omega
 subst hb
 subst hn
 subst hd
 have H47:=Lib.hid h47b
 clear h45 h47b
 go_enter Tryz.func67,Tryz.ntmps67
 go_wp2_with fail
 go_loopw [17] (fun iv wr => ∃ (i:Nat),i ≤ n.size ∧ iv=.int .i64 i ∧ Ext w wr) (fun iv _ => n.size - (intOf iv).toNat)
 case atStart => exact ⟨0,Nat.zero_le _,rfl,Ext.refl _⟩
 case round =>
  obtain ⟨i,hi,rfl,X⟩:=hrel
  by_cases hlt2:i < n.size
  · have hne:=H47.out i hlt2
    have hbi:((n[i].toNat:Int) == 47)=false:=by
     rw [beq_eq_false_iff_ne]
     intro e
     apply hne
     apply UInt8.toNat_inj.1
     have:(47:UInt8).toNat=47:=rfl
     omega
    have hki:(i:Int) < (n.size:Int):=by omega
    clear hne
    go_wp2_with fail
    go_roundw
    case rel => exact ⟨i + 1,by omega,by go_num,X⟩
    case measure => simp [intOf]; omega
  · have hki:(n.size:Int) ≤ (i:Int):=by omega
    clear hlt2
    go_wp2_with fail
    refine bodyPost_ret (v:=.tuple #[.bool false,.string n,.string ⟨#[49]⟩]) (by simp [results,Tryz.results67,go_sem]) rfl ?_
    exact ⟨rfl,X⟩
set_option maxHeartbeats 1600000 in
set_option maxRecDepth 100000 in
theorem rparts_pos_hit (s b n d:ByteArray) (i0:Nat) (w:World) (hs:s.size ≤ 9223372036854775806)
 (hlt:0 < s.size) (h45:s[0] ≠ 45) (hb:b=s) (hi0:i0 < b.size) (h47:b[i0]=47) (h47b:∀ k (h:k < b.size),k < i0 → b[k] ≠ 47) (hn:b.extract 0 i0=n) (hd:b.extract (i0 + 1) b.size=d) :
 Calls Tryz.prog 67 #[.string s] w fun e w' => e=.returned (.tuple #[.bool false,.string n,.string d]) ∧ Ext w w':=by
 have hst:(s.size:Int) ≤ 9223372036854775806:=by omega
 have hs0:(0:Int) < (s.size:Int):=by omega
 have hbs:b.size ≤ 9223372036854775806:=by
  rw [hb]; exact hs
 have hbsi:(b.size:Int) ≤ 9223372036854775806:=by omega
 have hb45:((s[0].toNat:Int) == 45)=false:=by
  rw [beq_eq_false_iff_ne]
  intro e
  apply h45
  apply UInt8.toNat_inj.1
  have:(45:UInt8).toNat=45:=rfl
  omega
 subst hb
 have H47:=Lib.hid h47b
 clear h45 h47b
 go_enter Tryz.func67,Tryz.ntmps67
 go_wp2_with fail
 go_loopw [17] (fun iv wr => ∃ (i:Nat),i ≤ i0 ∧ iv=.int .i64 i ∧ Ext w wr) (fun iv _ => b.size - (intOf iv).toNat)
 case atStart => exact ⟨0,Nat.zero_le _,rfl,Ext.refl _⟩
 case round =>
  obtain ⟨i,hii,rfl,X⟩:=hrel
  have hlt2:i < b.size:=by omega
  have hki:(i:Int) < (b.size:Int):=by omega
  by_cases heq:i=i0
  · subst heq
    have hbi:((b[i].toNat:Int) == 47)=true:=by rw [h47]; rfl
    have hk1:(i:Int) + 1 ≤ (b.size:Int):=by omega
    have hk2:(i:Int) ≤ (b.size:Int):=by omega
    have e5:((i:Int) + 1).toNat=i + 1:=by omega
    have w5:IntKind.i64.wrap ((i:Int) + 1)=(i:Int) + 1:=IntWalk.i64_in _ (by omega)
    go_wp2_with fail
    go_quiet (fail)
    go_wp2_with fail
    subst hn
    subst hd
    refine bodyPost_ret (v:=.tuple #[.bool false,.string (b.extract 0 i),.string (b.extract (i + 1) b.size)]) (by simp [results,Tryz.results67,go_sem]) rfl ?_
    exact ⟨rfl,X.drewN _⟩
  · have hne:=H47.out i hlt2 (by omega)
    have hbi:((b[i].toNat:Int) == 47)=false:=by
     rw [beq_eq_false_iff_ne]
     intro e
     apply hne
     apply UInt8.toNat_inj.1
     have:(47:UInt8).toNat=47:=rfl
     omega
    clear hne
    go_wp2_with fail
    go_roundw
    case rel => exact ⟨i + 1,by omega,by go_num,X⟩
    case measure => simp [intOf]; omega
set_option maxHeartbeats 1600000 in
set_option maxRecDepth 100000 in
theorem rparts_neg_miss (s b n d:ByteArray) (w:World) (hs:s.size ≤ 9223372036854775806)
 (hlt:0 < s.size) (h45:s[0]=45) (hb:s.extract 1 s.size=b) (h47b:∀ k (h:k < b.size),b[k] ≠ 47) (hn:n=b) (hd:d=⟨#[49]⟩) :
 Calls Tryz.prog 67 #[.string s] w fun e w' => e=.returned (.tuple #[.bool true,.string n,.string d]) ∧ Ext w w':=by
 have hst:(s.size:Int) ≤ 9223372036854775806:=by omega
 have hs0:(0:Int) < (s.size:Int):=by omega
 have hbs:b.size ≤ 9223372036854775806:=by
  rw [← hb,ByteArray.size_extract]; omega
 have hbsi:(b.size:Int) ≤ 9223372036854775806:=by omega
 have hb45:((s[0].toNat:Int) == 45)=true:=by rw [h45]; rfl
 have hs1:(1:Int) ≤ (s.size:Int):=by omega
 subst hn
 subst hd
 have H47:=Lib.hid h47b
 clear h45 h47b
 go_enter Tryz.func67,Tryz.ntmps67
 go_wp2_with fail
 go_loopw [17] (fun iv wr => ∃ (i:Nat),i ≤ n.size ∧ iv=.int .i64 i ∧ Ext w wr) (fun iv _ => n.size - (intOf iv).toNat)
 case atStart => exact ⟨0,Nat.zero_le _,rfl,Ext.refl _⟩
 case round =>
  obtain ⟨i,hi,rfl,X⟩:=hrel
  by_cases hlt2:i < n.size
  · have hne:=H47.out i hlt2
    have hbi:((n[i].toNat:Int) == 47)=false:=by
     rw [beq_eq_false_iff_ne]
     intro e
     apply hne
     apply UInt8.toNat_inj.1
     have:(47:UInt8).toNat=47:=rfl
     omega
    have hki:(i:Int) < (n.size:Int):=by omega
    clear hne
    go_wp2_with fail
    go_roundw
    case rel => exact ⟨i + 1,by omega,by go_num,X⟩
    case measure => simp [intOf]; omega
  · have hki:(n.size:Int) ≤ (i:Int):=by omega
    clear hlt2
    go_wp2_with fail
    refine bodyPost_ret (v:=.tuple #[.bool true,.string n,.string ⟨#[49]⟩]) (by simp [results,Tryz.results67,go_sem]) rfl ?_
    exact ⟨rfl,X⟩
set_option maxHeartbeats 1600000 in
set_option maxRecDepth 100000 in
theorem rparts_neg_hit (s b n d:ByteArray) (i0:Nat) (w:World) (hs:s.size ≤ 9223372036854775806)
 (hlt:0 < s.size) (h45:s[0]=45) (hb:s.extract 1 s.size=b) (hi0:i0 < b.size) (h47:b[i0]=47) (h47b:∀ k (h:k < b.size),k < i0 → b[k] ≠ 47) (hn:b.extract 0 i0=n) (hd:b.extract (i0 + 1) b.size=d) :
 Calls Tryz.prog 67 #[.string s] w fun e w' => e=.returned (.tuple #[.bool true,.string n,.string d]) ∧ Ext w w':=by
 have hst:(s.size:Int) ≤ 9223372036854775806:=by omega
 have hs0:(0:Int) < (s.size:Int):=by omega
 have hbs:b.size ≤ 9223372036854775806:=by
  rw [← hb,ByteArray.size_extract]; omega
 have hbsi:(b.size:Int) ≤ 9223372036854775806:=by omega
 have hb45:((s[0].toNat:Int) == 45)=true:=by rw [h45]; rfl
 have hs1:(1:Int) ≤ (s.size:Int):=by omega
 have H47:=Lib.hid h47b
 clear h45 h47b
 go_enter Tryz.func67,Tryz.ntmps67
 go_wp2_with fail
 go_loopw [17] (fun iv wr => ∃ (i:Nat),i ≤ i0 ∧ iv=.int .i64 i ∧ Ext w wr) (fun iv _ => b.size - (intOf iv).toNat)
 case atStart => exact ⟨0,Nat.zero_le _,rfl,Ext.refl _⟩
 case round =>
  obtain ⟨i,hii,rfl,X⟩:=hrel
  have hlt2:i < b.size:=by omega
  have hki:(i:Int) < (b.size:Int):=by omega
  by_cases heq:i=i0
  · subst heq
    have hbi:((b[i].toNat:Int) == 47)=true:=by rw [h47]; rfl
    have hk1:(i:Int) + 1 ≤ (b.size:Int):=by omega
    have hk2:(i:Int) ≤ (b.size:Int):=by omega
    have e5:((i:Int) + 1).toNat=i + 1:=by omega
    have w5:IntKind.i64.wrap ((i:Int) + 1)=(i:Int) + 1:=IntWalk.i64_in _ (by omega)
    go_wp2_with fail
    go_quiet (fail)
    go_wp2_with fail
    subst hn
    subst hd
    refine bodyPost_ret (v:=.tuple #[.bool true,.string (b.extract 0 i),.string (b.extract (i + 1) b.size)]) (by simp [results,Tryz.results67,go_sem]) rfl ?_
    exact ⟨rfl,X.drewN _⟩
  · have hne:=H47.out i hlt2 (by omega)
    have hbi:((b[i].toNat:Int) == 47)=false:=by
     rw [beq_eq_false_iff_ne]
     intro e
     apply hne
     apply UInt8.toNat_inj.1
     have:(47:UInt8).toNat=47:=rfl
     omega
    clear hne
    go_wp2_with fail
    go_roundw
    case rel => exact ⟨i + 1,by omega,by go_num,X⟩
    case measure => simp [intOf]; omega
def RB (k:Nat) (q:Rat):Prop:=q.num.natAbs < 10 ^ k ∧ q.den < 10 ^ k
theorem RB.mono {k m:Nat} {q:Rat} (h:RB k q) (hk:k ≤ m):RB m q :=
 ⟨Nat.lt_of_lt_of_le h.1 (Nat.pow_le_pow_right (by omega) hk),Nat.lt_of_lt_of_le h.2 (Nat.pow_le_pow_right (by omega) hk)⟩
theorem dd_len_le {n k:Nat} (h:n < 10 ^ k):(Lib.decDigits n).length ≤ k + 1:=by
 apply dd_len_lt
 rw [Nat.pow_succ]
 omega
theorem decT_bytes (n:Nat):(decT n).data.toList=Lib.decDigits n:=decT_list n
theorem decT_allD (n:Nat):AllD (decT n).data.toList:=by rw [decT_bytes]; exact dd_allD n
theorem decT_canon (n:Nat):Canon (decT n).data.toList:=by rw [decT_bytes]; exact dd_canon n
def absT (q:Rat):ByteArray:=if q.den=1 then decT q.num.natAbs else decT q.num.natAbs ++ (⟨#[47]⟩ ++ decT q.den)
theorem ratT_abs (q:Rat):ratT q=if q.num < 0 then ⟨#[45]⟩ ++ absT q else absT q:=by
 unfold ratT signT absT
 split
 · rfl
 · split
   · rw [ByteArray.append_assoc]
   · rfl
theorem absT_data (q:Rat):(absT q).data.toList=Lib.decDigits q.num.natAbs ++ (if q.den=1 then [] else 47 :: Lib.decDigits q.den):=by
 unfold absT
 split
 · rw [decT_bytes]; simp
 · rw [bytes_data_append,bytes_data_append,decT_bytes,decT_bytes]; rfl
theorem absT_pos (q:Rat):0 < (absT q).size:=by
 rw [← bsz,absT_data,List.length_append]
 have:=List.length_pos_iff.2 (dd_ne q.num.natAbs)
 omega
theorem at_of {b:ByteArray} {k:Nat} {c:UInt8} (h:k < b.size) (e:b.data.toList[k]?=some c):b[k]=c:=by
 rw [byte_at h] at e
 exact Option.some.inj e
theorem u8_ne {c d:UInt8} (h:c.toNat ≠ d.toNat):c ≠ d:=fun e => h (by rw [e])
theorem absT_first (q:Rat) (h:0 < (absT q).size):(absT q)[0] ≠ 45:=by
 obtain ⟨c,l,hl⟩:∃ c l,Lib.decDigits q.num.natAbs=c :: l:=by
  cases hh:Lib.decDigits q.num.natAbs with
  | nil => exact absurd hh (dd_ne _)
  | cons c l => exact ⟨c,l,rfl⟩
 have h1:(absT q).data.toList[0]?=some c:=by rw [absT_data,hl]; rfl
 rw [at_of h h1]
 have:=(dd_allD q.num.natAbs c (by rw [hl]; exact List.mem_cons_self ..)).1
 apply u8_ne
 have h2:(45:UInt8).toNat=45:=rfl
 omega
theorem neg_first (b:ByteArray) (h:0 < ((⟨#[45]⟩:ByteArray) ++ b).size):((⟨#[45]⟩:ByteArray) ++ b)[0]=45:=at_of h (by rw [bytes_data_append]; rfl)
theorem neg_body (b:ByteArray):((⟨#[45]⟩:ByteArray) ++ b).extract 1 ((⟨#[45]⟩:ByteArray) ++ b).size=b:=by
 rw [bytes_of_list (show (((⟨#[45]⟩:ByteArray) ++ b).extract 1 ((⟨#[45]⟩:ByteArray) ++ b).size).data.toList=b.data.toList by
  rw [ext_drop,bytes_data_append]; rfl)]
theorem absT_no47 (q:Rat) (hd:q.den=1) (k:Nat) (h:k < (absT q).size):(absT q)[k] ≠ 47:=by
 have h1:=byte_at h
 rw [absT_data,if_pos hd,List.append_nil] at h1
 have:=(dd_allD _ _ (List.mem_of_getElem? h1)).1
 apply u8_ne
 have h2:(47:UInt8).toNat=47:=rfl
 omega
theorem absT_hit (q:Rat) (hd:q.den ≠ 1):∃ h:(decT q.num.natAbs).size < (absT q).size,(absT q)[(decT q.num.natAbs).size]=47:=by
 have hl:(decT q.num.natAbs).size < (absT q).size:=by
  rw [← bsz,← bsz (absT q),absT_data,if_neg hd,decT_bytes,List.length_append,List.length_cons]; omega
 refine ⟨hl,at_of hl ?_⟩
 rw [absT_data,if_neg hd,← bsz,decT_bytes,List.getElem?_append_right (Nat.le_refl _),Nat.sub_self]; rfl
theorem absT_before (q:Rat) (hd:q.den ≠ 1) (k:Nat) (h:k < (absT q).size) (hk:k < (decT q.num.natAbs).size):(absT q)[k] ≠ 47:=by
 have h1:=byte_at h
 rw [← bsz,decT_bytes] at hk
 rw [absT_data,List.getElem?_append_left hk] at h1
 have:=(dd_allD _ _ (List.mem_of_getElem? h1)).1
 apply u8_ne
 have h2:(47:UInt8).toNat=47:=rfl
 omega
theorem absT_num (q:Rat) (hd:q.den ≠ 1):(absT q).extract 0 (decT q.num.natAbs).size=decT q.num.natAbs:=by
 rw [bytes_of_list (show ((absT q).extract 0 (decT q.num.natAbs).size).data.toList=Lib.decDigits q.num.natAbs by
  rw [ext_take,absT_data,← bsz,decT_bytes,List.take_left])]
 rfl
theorem absT_den (q:Rat) (hd:q.den ≠ 1):(absT q).extract ((decT q.num.natAbs).size + 1) (absT q).size=decT q.den:=by
 rw [bytes_of_list (show ((absT q).extract ((decT q.num.natAbs).size + 1) (absT q).size).data.toList=Lib.decDigits q.den by
  rw [ext_drop,absT_data,if_neg hd,← bsz,decT_bytes,← List.drop_drop,List.drop_left]; rfl)]
 rfl
theorem decT_one:decT 1=⟨#[49]⟩:=decT_one_iff.2 rfl
theorem absT_int (q:Rat) (hd:q.den=1):absT q=decT q.num.natAbs:=by unfold absT; rw [if_pos hd]
theorem rparts_any (q:Rat) (w:World) (hs:(ratT q).size ≤ 9223372036854775806) :
 Calls Tryz.prog 67 #[.string (ratT q)] w fun e w' => e=.returned (.tuple #[.bool (decide (q.num < 0)),.string (decT q.num.natAbs),.string (decT q.den)]) ∧ Ext w w':=by
 rw [ratT_abs] at hs ⊢
 by_cases hn:q.num < 0
 · rw [if_pos hn] at hs ⊢
   rw [decide_eq_true hn]
   have hp:0 < ((⟨#[45]⟩:ByteArray) ++ absT q).size:=by rw [ByteArray.size_append]; exact Nat.lt_of_lt_of_le Nat.one_pos (Nat.le_add_right _ _)
   by_cases hd:q.den=1
   · exact rparts_neg_miss _ (absT q) _ _ w hs hp (neg_first _ hp) (neg_body _) (absT_no47 q hd) (absT_int q hd).symm (by rw [hd,decT_one])
   · obtain ⟨h1,h2⟩:=absT_hit q hd
     exact rparts_neg_hit _ (absT q) _ _ _ w hs hp (neg_first _ hp) (neg_body _) h1 h2 (absT_before q hd) (absT_num q hd) (absT_den q hd)
 · rw [if_neg hn] at hs ⊢
   rw [decide_eq_false hn]
   by_cases hd:q.den=1
   · exact rparts_pos_miss _ (absT q) _ _ w hs (absT_pos q) (absT_first q _) rfl (absT_no47 q hd) (absT_int q hd).symm (by rw [hd,decT_one])
   · obtain ⟨h1,h2⟩:=absT_hit q hd
     exact rparts_pos_hit _ (absT q) _ _ _ w hs (absT_pos q) (absT_first q _) rfl h1 h2 (absT_before q hd) (absT_num q hd) (absT_den q hd)
theorem ratT_size {k:Nat} {q:Rat} (h:RB k q):(ratT q).size ≤ 2 * k + 4:=by
 have h1:=dd_len_le h.1
 have h2:=dd_len_le h.2
 have h3:(absT q).size ≤ 2 * k + 3:=by
  rw [← bsz,absT_data,List.length_append]
  split
  · simp; omega
  · rw [List.length_cons]; omega
 rw [ratT_abs]
 split
 · rw [ByteArray.size_append]
   have:(⟨#[45]⟩:ByteArray).size=1:=rfl
   omega
 · omega
theorem text_ratT {s:ByteArray} (h:RatOk s):s=ratT (ratOf s):=by
 obtain ⟨p1,p2⟩:=ratOf_parts h
 have hb:bodyB s=absT (ratOf s):=by
  unfold absT
  rw [p1,p2,sg_abs,← text_of h.n1]
  rcases ixB_cases (bodyB s) 47 with hm | ⟨i,hi,hib⟩
  · have hK:hasD s=false:=cutK_miss hm
    have hnb:numT s=bodyB s:=cutA_miss hm
    have hdn:denN s=1:=by unfold denN; rw [hK]; rfl
    rw [hdn,if_pos rfl,hnb]
  · have hK:hasD s=true:=cutK_hit hi
    unfold denN
    rw [if_pos hK,if_neg (h.d4 hK),← text_of (h.d1 hK)]
    have hnb:numT s=(bodyB s).extract 0 i:=cutA_hit hi
    have hdb:denT s=(bodyB s).extract (i + 1) (bodyB s).size:=cutR_hit hi
    obtain ⟨b1,b2⟩:=Lib.indexByte_some (o:=i) hi
    rw [byte_at hib] at b1
    have h47:(bodyB s)[i]=47:=Option.some.inj b1
    have hdr:=bdrop (s:=bodyB s) (k:=i) hib
    have hall:(bodyB s).data.toList=(numT s ++ ((⟨#[47]⟩:ByteArray) ++ denT s)).data.toList:=by
     rw [bytes_data_append,bytes_data_append,hnb,hdb,ext_take,ext_drop,← h47]
     show _=(bodyB s).data.toList.take i ++ ((bodyB s)[i] :: (bodyB s).data.toList.drop (i + 1))
     rw [← hdr,List.take_append_drop]
    exact bytes_of_list hall
 rw [ratT_abs,← hb,p1]
 cases hq:negB s
 · rw [show sg false (numB (numT s))=(numB (numT s):Int) from rfl,if_neg (by omega)]
   have:bodyB s=s:=by
    unfold bodyB Lib.trimPrefix
    rw [show Lib.hasPrefix s.data.toList [45]=false from hq,if_neg (by simp)]
   rw [this]
 · have h0:=h.ng hq
   rw [show sg true (numB (numT s))=-(numB (numT s):Int) from rfl,if_pos (by omega)]
   have hp:Lib.hasPrefix s.data.toList [45]=true:=hq
   have hb2:(bodyB s).data.toList=s.data.toList.drop 1:=by
    unfold bodyB Lib.trimPrefix
    rw [hp,if_pos rfl]; rfl
   cases hl:s.data.toList with
   | nil => rw [hl] at hp; cases hp
   | cons c l =>
     have hc:c=45:=by
      rw [hl] at hp
      have:((45:UInt8) == c && _)=true:=hp
      rw [Bool.and_eq_true] at this
      exact (beq_iff_eq.1 this.1).symm
     have:s.data.toList=((⟨#[45]⟩:ByteArray) ++ bodyB s).data.toList:=by
      rw [bytes_data_append,hb2,hl,hc]; rfl
     exact bytes_of_list this
theorem ratOf_RB {s:ByteArray} {k:Nat} (h:RatOk s) (hk:s.size ≤ k) (h1:1 ≤ k):RB k (ratOf s):=by
 obtain ⟨p1,p2⟩:=ratOf_parts h
 have hn:=numT_le s
 have hd:=denT_le s
 have hlt:∀ {b:ByteArray},natB b.data.toList=true → b.size ≤ k → numB b < 10 ^ k:=fun hb hz => by
  have:=decF_lt (natB_iff.1 hb).1
  rw [bsz] at this
  exact Nat.lt_of_lt_of_le this (Nat.pow_le_pow_right (by omega) hz)
 refine ⟨?_,?_⟩
 · rw [p1,sg_abs]; exact hlt h.n1 (by omega)
 · rw [p2]
   unfold denN
   split
   · rename_i hh; exact hlt (h.d1 hh) (by omega)
   · exact Nat.lt_of_lt_of_le (by decide:1 < 10 ^ 1) (Nat.pow_le_pow_right (by omega) h1)
theorem ratT_zero:ratT 0=⟨#[48]⟩:=by decide +kernel
theorem isT_decT_zero (n:Nat):((decT n).toList == [48])=decide (n=0):=by
 by_cases h:n=0
 · rw [decide_eq_true h,decT_zero_iff.2 h,Lib.toList_data]; rfl
 · rw [decide_eq_false h,beq_eq_false_iff_ne]
   intro e
   rw [Lib.toList_data] at e
   exact h (decT_zero_iff.1 (bytes_of_list e))
def QF (neg:Bool) (n d:Nat):Rat:=Rat.divInt (sg neg n) (d:Int)
theorem QF_parts (neg:Bool) {n d:Nat} (hd:d ≠ 0):(QF neg n d).num=sg neg (n / Nat.gcd n d) ∧ (QF neg n d).den=d / Nat.gcd n d:=by
 have hz:(d:Int) ≠ 0:=by omega
 have h1:=frac_num (y:=sg neg n) hz
 have h2:=frac_den (y:=sg neg n) hz
 rw [sg_abs,Int.natAbs_natCast] at h1 h2
 refine ⟨?_,h2.symm⟩
 unfold QF
 rw [← h1,decide_eq_false (show ¬ ((d:Int) < 0) by omega),sg_neg]
 by_cases hn:0 < n
 · rw [decide_eq_true hn]; simp
 · have:n=0:=by omega
   subst this
   rw [Nat.zero_div]
   unfold sg
   cases neg <;> simp
theorem QF_RB (neg:Bool) {n d k:Nat} (hd:d ≠ 0) (h1:n < 10 ^ k) (h2:d < 10 ^ k):RB k (QF neg n d):=by
 obtain ⟨p1,p2⟩:=QF_parts neg (n:=n) hd
 refine ⟨?_,?_⟩
 · rw [p1,sg_abs]; exact Nat.lt_of_le_of_lt (Nat.div_le_self ..) h1
 · rw [p2]; exact Nat.lt_of_le_of_lt (Nat.div_le_self ..) h2
theorem QF_zero (neg:Bool) (d:Nat):QF neg 0 d=0:=by
 unfold QF sg
 cases neg <;> simp
theorem QF_text (neg:Bool) {n d:Nat} (hd:d ≠ 0) (hn:n ≠ 0) :
 ratT (QF neg n d)=(let N:=if neg=true then (⟨#[45]⟩:ByteArray) ++ decT (n / Nat.gcd n d) else decT (n / Nat.gcd n d)
  if d / Nat.gcd n d=1 then N else N ++ ⟨#[47]⟩ ++ decT (d / Nat.gcd n d)):=by
 obtain ⟨p1,p2⟩:=QF_parts neg (n:=n) hd
 have hg:0 < Nat.gcd n d:=Nat.gcd_pos_of_pos_left _ (by omega)
 have hq:0 < n / Nat.gcd n d:=Nat.div_pos (Nat.le_of_dvd (by omega) (Nat.gcd_dvd_left ..)) hg
 generalize n / Nat.gcd n d=m at *
 unfold ratT signT
 rw [p1,p2,sg_abs]
 have hs:(sg neg m < 0) ↔ neg=true:=by
  unfold sg
  cases neg <;> simp <;> omega
 simp only [hs,ByteArray.append_assoc]
set_option maxHeartbeats 1600000 in
set_option maxRecDepth 100000 in
theorem canon_zero (neg:Bool) (d:Nat) (w:World) :
 Calls Tryz.prog 68 #[.bool neg,.string ⟨#[48]⟩,.string (decT d)] w fun e w' => e=.returned (.string (ratT 0)) ∧ Ext w w':=by
 rw [ratT_zero]
 generalize decT d=D
 go_enter Tryz.func68,Tryz.ntmps68
 go_wp2_with fail
 go_ret
 exact ⟨rfl,Ext.refl _⟩
set_option maxHeartbeats 1600000 in
set_option maxRecDepth 100000 in
theorem canon_pos_one (N D G N2 D2 R1 R2:ByteArray) (w:World) (hz:(N.toList == [48])=false) (ho:(D2.toList == [49])=true) (hs1:(N2.size:Int) ≤ 4294967295) (hs2:(D2.size:Int) ≤ 4294967295)
 (HG:Hid (∀ W,Calls Tryz.prog 114 #[.string N,.string D] W fun e w' => e=.returned (.string G) ∧ Ext W w'))
 (H1:Hid (∀ W,Calls Tryz.prog 115 #[.string N,.string G] W fun e w' => e=.returned (.tuple #[.string N2,.string R1]) ∧ Ext W w'))
 (H2:Hid (∀ W,Calls Tryz.prog 115 #[.string D,.string G] W fun e w' => e=.returned (.tuple #[.string D2,.string R2]) ∧ Ext W w')) :
 Calls Tryz.prog 68 #[.bool false,.string N,.string D] w fun e w' => e=.returned (.string N2) ∧ Ext w w':=by
 go_enter Tryz.func68,Tryz.ntmps68
 go_wp2_with fail
 refine (HG.out _).mono ?_
 rintro e w2 ⟨rfl,X2⟩
 go_wp2_with fail
 refine (H1.out _).mono ?_
 rintro e w3 ⟨rfl,X3⟩
 go_wp2_with fail
 refine (H2.out _).mono ?_
 rintro e w4 ⟨rfl,X4⟩
 go_wp2_with fail
 go_ret
 exact ⟨rfl,(X2.trans X3).trans X4⟩
set_option maxHeartbeats 1600000 in
set_option maxRecDepth 100000 in
theorem canon_pos_two (N D G N2 D2 R1 R2:ByteArray) (w:World) (hz:(N.toList == [48])=false) (ho:(D2.toList == [49])=false) (hs1:(N2.size:Int) ≤ 4294967295) (hs2:(D2.size:Int) ≤ 4294967295)
 (HG:Hid (∀ W,Calls Tryz.prog 114 #[.string N,.string D] W fun e w' => e=.returned (.string G) ∧ Ext W w'))
 (H1:Hid (∀ W,Calls Tryz.prog 115 #[.string N,.string G] W fun e w' => e=.returned (.tuple #[.string N2,.string R1]) ∧ Ext W w'))
 (H2:Hid (∀ W,Calls Tryz.prog 115 #[.string D,.string G] W fun e w' => e=.returned (.tuple #[.string D2,.string R2]) ∧ Ext W w')) :
 Calls Tryz.prog 68 #[.bool false,.string N,.string D] w fun e w' => e=.returned (.string (N2 ++ ⟨#[47]⟩ ++ D2)) ∧ Ext w w':=by
 go_enter Tryz.func68,Tryz.ntmps68
 go_wp2_with fail
 refine (HG.out _).mono ?_
 rintro e w2 ⟨rfl,X2⟩
 go_wp2_with fail
 refine (H1.out _).mono ?_
 rintro e w3 ⟨rfl,X3⟩
 go_wp2_with fail
 refine (H2.out _).mono ?_
 rintro e w4 ⟨rfl,X4⟩
 go_wp2_with fail
 go_ret
 exact ⟨rfl,(X2.trans X3).trans X4⟩
set_option maxHeartbeats 1600000 in
set_option maxRecDepth 100000 in
theorem canon_neg_one (N D G N2 D2 R1 R2:ByteArray) (w:World) (hz:(N.toList == [48])=false) (ho:(D2.toList == [49])=true) (hs1:(N2.size:Int) ≤ 4294967295) (hs2:(D2.size:Int) ≤ 4294967295)
 (HG:Hid (∀ W,Calls Tryz.prog 114 #[.string N,.string D] W fun e w' => e=.returned (.string G) ∧ Ext W w'))
 (H1:Hid (∀ W,Calls Tryz.prog 115 #[.string N,.string G] W fun e w' => e=.returned (.tuple #[.string N2,.string R1]) ∧ Ext W w'))
 (H2:Hid (∀ W,Calls Tryz.prog 115 #[.string D,.string G] W fun e w' => e=.returned (.tuple #[.string D2,.string R2]) ∧ Ext W w')) :
 Calls Tryz.prog 68 #[.bool true,.string N,.string D] w fun e w' => e=.returned (.string ((⟨#[45]⟩:ByteArray) ++ N2)) ∧ Ext w w':=by
 go_enter Tryz.func68,Tryz.ntmps68
 go_wp2_with fail
 refine (HG.out _).mono ?_
 rintro e w2 ⟨rfl,X2⟩
 go_wp2_with fail
 refine (H1.out _).mono ?_
 rintro e w3 ⟨rfl,X3⟩
 go_wp2_with fail
 refine (H2.out _).mono ?_
 rintro e w4 ⟨rfl,X4⟩
 go_wp2_with fail
 go_ret
 exact ⟨rfl,(X2.trans X3).trans X4⟩
set_option maxHeartbeats 1600000 in
set_option maxRecDepth 100000 in
theorem canon_neg_two (N D G N2 D2 R1 R2:ByteArray) (w:World) (hz:(N.toList == [48])=false) (ho:(D2.toList == [49])=false) (hs1:(N2.size:Int) ≤ 4294967295) (hs2:(D2.size:Int) ≤ 4294967295)
 (HG:Hid (∀ W,Calls Tryz.prog 114 #[.string N,.string D] W fun e w' => e=.returned (.string G) ∧ Ext W w'))
 (H1:Hid (∀ W,Calls Tryz.prog 115 #[.string N,.string G] W fun e w' => e=.returned (.tuple #[.string N2,.string R1]) ∧ Ext W w'))
 (H2:Hid (∀ W,Calls Tryz.prog 115 #[.string D,.string G] W fun e w' => e=.returned (.tuple #[.string D2,.string R2]) ∧ Ext W w')) :
 Calls Tryz.prog 68 #[.bool true,.string N,.string D] w fun e w' => e=.returned (.string (((⟨#[45]⟩:ByteArray) ++ N2) ++ ⟨#[47]⟩ ++ D2)) ∧ Ext w w':=by
 go_enter Tryz.func68,Tryz.ntmps68
 go_wp2_with fail
 refine (HG.out _).mono ?_
 rintro e w2 ⟨rfl,X2⟩
 go_wp2_with fail
 refine (H1.out _).mono ?_
 rintro e w3 ⟨rfl,X3⟩
 go_wp2_with fail
 refine (H2.out _).mono ?_
 rintro e w4 ⟨rfl,X4⟩
 go_wp2_with fail
 go_ret
 exact ⟨rfl,(X2.trans X3).trans X4⟩
theorem canon_any (neg:Bool) (n d:Nat) (w:World) (hd:d ≠ 0) (k:Nat) (hk:k ≤ 800000) (hn1:n < 10 ^ k) (hd1:d < 10 ^ k) :
 Calls Tryz.prog 68 #[.bool neg,.string (decT n),.string (decT d)] w fun e w' => e=.returned (.string (ratT (QF neg n d))) ∧ Ext w w':=by
 by_cases hn:n=0
 · subst hn
   rw [QF_zero,decT_zero_iff.2 rfl]
   exact canon_zero neg d w
 · have l1:=dd_len_le hn1
   have l2:=dd_len_le hd1
   have hg0:0 < Nat.gcd n d:=Nat.gcd_pos_of_pos_left _ (by omega)
   have lg:(Lib.decDigits (Nat.gcd n d)).length ≤ k + 1:=dd_len_le (Nat.lt_of_le_of_lt (Nat.le_of_dvd (by omega) (Nat.gcd_dvd_left n d)) hn1)
   have HG:=Lib.hid (fun W => rNatGcd_any n d W (by omega) (by omega))
   have H1:=Lib.hid (fun W => rNatDiv_any (decT n) (decT (Nat.gcd n d)) W (decT_allD _) (decT_canon _) (by rw [numB_decT]; omega) (by rw [decT_size]; omega) (by rw [decT_size]; omega))
   have H2:=Lib.hid (fun W => rNatDiv_any (decT d) (decT (Nat.gcd n d)) W (decT_allD _) (decT_canon _) (by rw [numB_decT]; omega) (by rw [decT_size]; omega) (by rw [decT_size]; omega))
   simp only [numB_decT] at H1 H2
   have hz:((decT n).toList == [48])=false:=by rw [isT_decT_zero,decide_eq_false hn]
   have s1:((decT (n / Nat.gcd n d)).size:Int) ≤ 4294967295:=by
    have:=dd_len_le (Nat.lt_of_le_of_lt (Nat.div_le_self n (Nat.gcd n d)) hn1)
    rw [decT_size]; omega
   have s2:((decT (d / Nat.gcd n d)).size:Int) ≤ 4294967295:=by
    have:=dd_len_le (Nat.lt_of_le_of_lt (Nat.div_le_self d (Nat.gcd n d)) hd1)
    rw [decT_size]; omega
   rw [QF_text neg hd hn]
   by_cases h1:d / Nat.gcd n d=1
   · have ho:((decT (d / Nat.gcd n d)).toList == [49])=true:=by rw [isT_decT_one,decide_eq_true h1]
     simp only [h1,if_true]
     rw [h1] at ho s2 H2
     cases neg
     · exact canon_pos_one _ _ _ _ _ _ _ w hz ho s1 s2 HG H1 H2
     · exact canon_neg_one _ _ _ _ _ _ _ w hz ho s1 s2 HG H1 H2
   · have ho:((decT (d / Nat.gcd n d)).toList == [49])=false:=by rw [isT_decT_one,decide_eq_false h1]
     simp only [h1,if_false]
     cases neg
     · exact canon_pos_two _ _ _ _ _ _ _ w hz ho s1 s2 HG H1 H2
     · exact canon_neg_two _ _ _ _ _ _ _ w hz ho s1 s2 HG H1 H2
set_option maxHeartbeats 1600000 in
set_option maxRecDepth 100000 in
theorem ratMul_leaf (T1 T2 N D M F X Y Q:ByteArray) (p q:Bool) (w:World)
 (HP1:Hid (∀ W,Calls Tryz.prog 67 #[.string T1] W fun e w' => e=.returned (.tuple #[.bool p,.string N,.string D]) ∧ Ext W w'))
 (HP2:Hid (∀ W,Calls Tryz.prog 67 #[.string T2] W fun e w' => e=.returned (.tuple #[.bool q,.string M,.string F]) ∧ Ext W w'))
 (HM1:Hid (∀ W,Calls Tryz.prog 80 #[.string N,.string M] W fun e w' => e=.returned (.string X) ∧ Ext W w'))
 (HM2:Hid (∀ W,Calls Tryz.prog 80 #[.string D,.string F] W fun e w' => e=.returned (.string Y) ∧ Ext W w'))
 (HC:Hid (∀ W,Calls Tryz.prog 68 #[.bool (p != q),.string X,.string Y] W fun e w' => e=.returned (.string Q) ∧ Ext W w')) :
 Calls Tryz.prog 34 #[.string T1,.string T2] w fun e w' => e=.returned (.string Q) ∧ Ext w w':=by
 cases p <;> cases q <;>
 (
  go_enter Tryz.func34,Tryz.ntmps34
  go_wp2_with fail
  refine (HP1.out _).mono ?_
  rintro e w2 ⟨rfl,X2⟩
  go_wp2_with fail
  refine (HP2.out _).mono ?_
  rintro e w3 ⟨rfl,X3⟩
  go_wp2_with fail
  refine (HM1.out _).mono ?_
  rintro e w4 ⟨rfl,X4⟩
  go_wp2_with fail
  refine (HM2.out _).mono ?_
  rintro e w5 ⟨rfl,X5⟩
  go_wp2_with fail
  refine (HC.out _).mono ?_
  rintro e w6 ⟨rfl,X6⟩
  go_wp2_with fail
  go_ret
  exact ⟨rfl,((((X2.trans X3).trans X4).trans X5).trans X6)⟩)
set_option maxHeartbeats 1600000 in
set_option maxRecDepth 100000 in
theorem radd_same_true (T1 T2 N D M F X Y Z S Q:ByteArray) (w:World)
 (HP1:Hid (∀ W,Calls Tryz.prog 67 #[.string T1] W fun e w' => e=.returned (.tuple #[.bool true,.string N,.string D]) ∧ Ext W w'))
 (HP2:Hid (∀ W,Calls Tryz.prog 67 #[.string T2] W fun e w' => e=.returned (.tuple #[.bool true,.string M,.string F]) ∧ Ext W w'))
 (HM1:Hid (∀ W,Calls Tryz.prog 80 #[.string N,.string F] W fun e w' => e=.returned (.string X) ∧ Ext W w'))
 (HM2:Hid (∀ W,Calls Tryz.prog 80 #[.string M,.string D] W fun e w' => e=.returned (.string Y) ∧ Ext W w'))
 (HM3:Hid (∀ W,Calls Tryz.prog 80 #[.string D,.string F] W fun e w' => e=.returned (.string Z) ∧ Ext W w'))
 (HA:Hid (∀ W,Calls Tryz.prog 81 #[.string X,.string Y] W fun e w' => e=.returned (.string S) ∧ Ext W w'))
 (HC:Hid (∀ W,Calls Tryz.prog 68 #[.bool true,.string S,.string Z] W fun e w' => e=.returned (.string Q) ∧ Ext W w')) :
 Calls Tryz.prog 33 #[.string T1,.string T2] w fun e w' => e=.returned (.string Q) ∧ Ext w w':=by
 go_enter Tryz.func33,Tryz.ntmps33
 go_wp2_with fail
 refine (HP1.out _).mono ?_
 rintro e w2 ⟨rfl,X2⟩
 go_wp2_with fail
 refine (HP2.out _).mono ?_
 rintro e w3 ⟨rfl,X3⟩
 go_wp2_with fail
 refine (HM1.out _).mono ?_
 rintro e w4 ⟨rfl,X4⟩
 go_wp2_with fail
 refine (HM2.out _).mono ?_
 rintro e w5 ⟨rfl,X5⟩
 go_wp2_with fail
 refine (HM3.out _).mono ?_
 rintro e w6 ⟨rfl,X6⟩
 go_wp2_with fail
 refine (HA.out _).mono ?_
 rintro e w7 ⟨rfl,X7⟩
 go_wp2_with fail
 refine (HC.out _).mono ?_
 rintro e w8 ⟨rfl,X8⟩
 go_wp2_with fail
 go_ret
 exact ⟨rfl,((((((X2.trans X3).trans X4).trans X5).trans X6).trans X7).trans X8)⟩
set_option maxHeartbeats 1600000 in
set_option maxRecDepth 100000 in
theorem radd_diff_true_less (T1 T2 N D M F X Y Z S Q:ByteArray) (c:Int) (hc:c < 0) (w:World)
 (HP1:Hid (∀ W,Calls Tryz.prog 67 #[.string T1] W fun e w' => e=.returned (.tuple #[.bool true,.string N,.string D]) ∧ Ext W w'))
 (HP2:Hid (∀ W,Calls Tryz.prog 67 #[.string T2] W fun e w' => e=.returned (.tuple #[.bool false,.string M,.string F]) ∧ Ext W w'))
 (HM1:Hid (∀ W,Calls Tryz.prog 80 #[.string N,.string F] W fun e w' => e=.returned (.string X) ∧ Ext W w'))
 (HM2:Hid (∀ W,Calls Tryz.prog 80 #[.string M,.string D] W fun e w' => e=.returned (.string Y) ∧ Ext W w'))
 (HM3:Hid (∀ W,Calls Tryz.prog 80 #[.string D,.string F] W fun e w' => e=.returned (.string Z) ∧ Ext W w'))
 (HCM:Hid (∀ W,Calls Tryz.prog 82 #[.string X,.string Y] W fun e w' => e=.returned (.int .i64 c) ∧ Ext W w'))
 (HA:Hid (∀ W,Calls Tryz.prog 83 #[.string Y,.string X] W fun e w' => e=.returned (.string S) ∧ Ext W w'))
 (HC:Hid (∀ W,Calls Tryz.prog 68 #[.bool false,.string S,.string Z] W fun e w' => e=.returned (.string Q) ∧ Ext W w')) :
 Calls Tryz.prog 33 #[.string T1,.string T2] w fun e w' => e=.returned (.string Q) ∧ Ext w w':=by
 go_enter Tryz.func33,Tryz.ntmps33
 go_wp2_with fail
 refine (HP1.out _).mono ?_
 rintro e w2 ⟨rfl,X2⟩
 go_wp2_with fail
 refine (HP2.out _).mono ?_
 rintro e w3 ⟨rfl,X3⟩
 go_wp2_with fail
 refine (HM1.out _).mono ?_
 rintro e w4 ⟨rfl,X4⟩
 go_wp2_with fail
 refine (HM2.out _).mono ?_
 rintro e w5 ⟨rfl,X5⟩
 go_wp2_with fail
 refine (HM3.out _).mono ?_
 rintro e w6 ⟨rfl,X6⟩
 go_wp2_with fail
 refine (HCM.out _).mono ?_
 rintro e w7 ⟨rfl,X7⟩
 go_wp2_with fail
 refine (HA.out _).mono ?_
 rintro e w8 ⟨rfl,X8⟩
 go_wp2_with fail
 refine (HC.out _).mono ?_
 rintro e w9 ⟨rfl,X9⟩
 go_wp2_with fail
 go_ret
 exact ⟨rfl,(((((((X2.trans X3).trans X4).trans X5).trans X6).trans X7).trans X8).trans X9)⟩
set_option maxHeartbeats 1600000 in
set_option maxRecDepth 100000 in
theorem radd_diff_true_ge (T1 T2 N D M F X Y Z S Q:ByteArray) (c:Int) (hc:0 ≤ c) (w:World)
 (HP1:Hid (∀ W,Calls Tryz.prog 67 #[.string T1] W fun e w' => e=.returned (.tuple #[.bool true,.string N,.string D]) ∧ Ext W w'))
 (HP2:Hid (∀ W,Calls Tryz.prog 67 #[.string T2] W fun e w' => e=.returned (.tuple #[.bool false,.string M,.string F]) ∧ Ext W w'))
 (HM1:Hid (∀ W,Calls Tryz.prog 80 #[.string N,.string F] W fun e w' => e=.returned (.string X) ∧ Ext W w'))
 (HM2:Hid (∀ W,Calls Tryz.prog 80 #[.string M,.string D] W fun e w' => e=.returned (.string Y) ∧ Ext W w'))
 (HM3:Hid (∀ W,Calls Tryz.prog 80 #[.string D,.string F] W fun e w' => e=.returned (.string Z) ∧ Ext W w'))
 (HCM:Hid (∀ W,Calls Tryz.prog 82 #[.string X,.string Y] W fun e w' => e=.returned (.int .i64 c) ∧ Ext W w'))
 (HA:Hid (∀ W,Calls Tryz.prog 83 #[.string X,.string Y] W fun e w' => e=.returned (.string S) ∧ Ext W w'))
 (HC:Hid (∀ W,Calls Tryz.prog 68 #[.bool true,.string S,.string Z] W fun e w' => e=.returned (.string Q) ∧ Ext W w')) :
 Calls Tryz.prog 33 #[.string T1,.string T2] w fun e w' => e=.returned (.string Q) ∧ Ext w w':=by
 go_enter Tryz.func33,Tryz.ntmps33
 go_wp2_with fail
 refine (HP1.out _).mono ?_
 rintro e w2 ⟨rfl,X2⟩
 go_wp2_with fail
 refine (HP2.out _).mono ?_
 rintro e w3 ⟨rfl,X3⟩
 go_wp2_with fail
 refine (HM1.out _).mono ?_
 rintro e w4 ⟨rfl,X4⟩
 go_wp2_with fail
 refine (HM2.out _).mono ?_
 rintro e w5 ⟨rfl,X5⟩
 go_wp2_with fail
 refine (HM3.out _).mono ?_
 rintro e w6 ⟨rfl,X6⟩
 go_wp2_with fail
 refine (HCM.out _).mono ?_
 rintro e w7 ⟨rfl,X7⟩
 go_wp2_with fail
 refine (HA.out _).mono ?_
 rintro e w8 ⟨rfl,X8⟩
 go_wp2_with fail
 refine (HC.out _).mono ?_
 rintro e w9 ⟨rfl,X9⟩
 go_wp2_with fail
 go_ret
 exact ⟨rfl,(((((((X2.trans X3).trans X4).trans X5).trans X6).trans X7).trans X8).trans X9)⟩
set_option maxHeartbeats 1600000 in
set_option maxRecDepth 100000 in
theorem radd_same_false (T1 T2 N D M F X Y Z S Q:ByteArray) (w:World)
 (HP1:Hid (∀ W,Calls Tryz.prog 67 #[.string T1] W fun e w' => e=.returned (.tuple #[.bool false,.string N,.string D]) ∧ Ext W w'))
 (HP2:Hid (∀ W,Calls Tryz.prog 67 #[.string T2] W fun e w' => e=.returned (.tuple #[.bool false,.string M,.string F]) ∧ Ext W w'))
 (HM1:Hid (∀ W,Calls Tryz.prog 80 #[.string N,.string F] W fun e w' => e=.returned (.string X) ∧ Ext W w'))
 (HM2:Hid (∀ W,Calls Tryz.prog 80 #[.string M,.string D] W fun e w' => e=.returned (.string Y) ∧ Ext W w'))
 (HM3:Hid (∀ W,Calls Tryz.prog 80 #[.string D,.string F] W fun e w' => e=.returned (.string Z) ∧ Ext W w'))
 (HA:Hid (∀ W,Calls Tryz.prog 81 #[.string X,.string Y] W fun e w' => e=.returned (.string S) ∧ Ext W w'))
 (HC:Hid (∀ W,Calls Tryz.prog 68 #[.bool false,.string S,.string Z] W fun e w' => e=.returned (.string Q) ∧ Ext W w')) :
 Calls Tryz.prog 33 #[.string T1,.string T2] w fun e w' => e=.returned (.string Q) ∧ Ext w w':=by
 go_enter Tryz.func33,Tryz.ntmps33
 go_wp2_with fail
 refine (HP1.out _).mono ?_
 rintro e w2 ⟨rfl,X2⟩
 go_wp2_with fail
 refine (HP2.out _).mono ?_
 rintro e w3 ⟨rfl,X3⟩
 go_wp2_with fail
 refine (HM1.out _).mono ?_
 rintro e w4 ⟨rfl,X4⟩
 go_wp2_with fail
 refine (HM2.out _).mono ?_
 rintro e w5 ⟨rfl,X5⟩
 go_wp2_with fail
 refine (HM3.out _).mono ?_
 rintro e w6 ⟨rfl,X6⟩
 go_wp2_with fail
 refine (HA.out _).mono ?_
 rintro e w7 ⟨rfl,X7⟩
 go_wp2_with fail
 refine (HC.out _).mono ?_
 rintro e w8 ⟨rfl,X8⟩
 go_wp2_with fail
 go_ret
 exact ⟨rfl,((((((X2.trans X3).trans X4).trans X5).trans X6).trans X7).trans X8)⟩
set_option maxHeartbeats 1600000 in
set_option maxRecDepth 100000 in
theorem radd_diff_false_less (T1 T2 N D M F X Y Z S Q:ByteArray) (c:Int) (hc:c < 0) (w:World)
 (HP1:Hid (∀ W,Calls Tryz.prog 67 #[.string T1] W fun e w' => e=.returned (.tuple #[.bool false,.string N,.string D]) ∧ Ext W w'))
 (HP2:Hid (∀ W,Calls Tryz.prog 67 #[.string T2] W fun e w' => e=.returned (.tuple #[.bool true,.string M,.string F]) ∧ Ext W w'))
 (HM1:Hid (∀ W,Calls Tryz.prog 80 #[.string N,.string F] W fun e w' => e=.returned (.string X) ∧ Ext W w'))
 (HM2:Hid (∀ W,Calls Tryz.prog 80 #[.string M,.string D] W fun e w' => e=.returned (.string Y) ∧ Ext W w'))
 (HM3:Hid (∀ W,Calls Tryz.prog 80 #[.string D,.string F] W fun e w' => e=.returned (.string Z) ∧ Ext W w'))
 (HCM:Hid (∀ W,Calls Tryz.prog 82 #[.string X,.string Y] W fun e w' => e=.returned (.int .i64 c) ∧ Ext W w'))
 (HA:Hid (∀ W,Calls Tryz.prog 83 #[.string Y,.string X] W fun e w' => e=.returned (.string S) ∧ Ext W w'))
 (HC:Hid (∀ W,Calls Tryz.prog 68 #[.bool true,.string S,.string Z] W fun e w' => e=.returned (.string Q) ∧ Ext W w')) :
 Calls Tryz.prog 33 #[.string T1,.string T2] w fun e w' => e=.returned (.string Q) ∧ Ext w w':=by
 go_enter Tryz.func33,Tryz.ntmps33
 go_wp2_with fail
 refine (HP1.out _).mono ?_
 rintro e w2 ⟨rfl,X2⟩
 go_wp2_with fail
 refine (HP2.out _).mono ?_
 rintro e w3 ⟨rfl,X3⟩
 go_wp2_with fail
 refine (HM1.out _).mono ?_
 rintro e w4 ⟨rfl,X4⟩
 go_wp2_with fail
 refine (HM2.out _).mono ?_
 rintro e w5 ⟨rfl,X5⟩
 go_wp2_with fail
 refine (HM3.out _).mono ?_
 rintro e w6 ⟨rfl,X6⟩
 go_wp2_with fail
 refine (HCM.out _).mono ?_
 rintro e w7 ⟨rfl,X7⟩
 go_wp2_with fail
 refine (HA.out _).mono ?_
 rintro e w8 ⟨rfl,X8⟩
 go_wp2_with fail
 refine (HC.out _).mono ?_
 rintro e w9 ⟨rfl,X9⟩
 go_wp2_with fail
 go_ret
 exact ⟨rfl,(((((((X2.trans X3).trans X4).trans X5).trans X6).trans X7).trans X8).trans X9)⟩
set_option maxHeartbeats 1600000 in
set_option maxRecDepth 100000 in
theorem radd_diff_false_ge (T1 T2 N D M F X Y Z S Q:ByteArray) (c:Int) (hc:0 ≤ c) (w:World)
 (HP1:Hid (∀ W,Calls Tryz.prog 67 #[.string T1] W fun e w' => e=.returned (.tuple #[.bool false,.string N,.string D]) ∧ Ext W w'))
 (HP2:Hid (∀ W,Calls Tryz.prog 67 #[.string T2] W fun e w' => e=.returned (.tuple #[.bool true,.string M,.string F]) ∧ Ext W w'))
 (HM1:Hid (∀ W,Calls Tryz.prog 80 #[.string N,.string F] W fun e w' => e=.returned (.string X) ∧ Ext W w'))
 (HM2:Hid (∀ W,Calls Tryz.prog 80 #[.string M,.string D] W fun e w' => e=.returned (.string Y) ∧ Ext W w'))
 (HM3:Hid (∀ W,Calls Tryz.prog 80 #[.string D,.string F] W fun e w' => e=.returned (.string Z) ∧ Ext W w'))
 (HCM:Hid (∀ W,Calls Tryz.prog 82 #[.string X,.string Y] W fun e w' => e=.returned (.int .i64 c) ∧ Ext W w'))
 (HA:Hid (∀ W,Calls Tryz.prog 83 #[.string X,.string Y] W fun e w' => e=.returned (.string S) ∧ Ext W w'))
 (HC:Hid (∀ W,Calls Tryz.prog 68 #[.bool false,.string S,.string Z] W fun e w' => e=.returned (.string Q) ∧ Ext W w')) :
 Calls Tryz.prog 33 #[.string T1,.string T2] w fun e w' => e=.returned (.string Q) ∧ Ext w w':=by
 go_enter Tryz.func33,Tryz.ntmps33
 go_wp2_with fail
 refine (HP1.out _).mono ?_
 rintro e w2 ⟨rfl,X2⟩
 go_wp2_with fail
 refine (HP2.out _).mono ?_
 rintro e w3 ⟨rfl,X3⟩
 go_wp2_with fail
 refine (HM1.out _).mono ?_
 rintro e w4 ⟨rfl,X4⟩
 go_wp2_with fail
 refine (HM2.out _).mono ?_
 rintro e w5 ⟨rfl,X5⟩
 go_wp2_with fail
 refine (HM3.out _).mono ?_
 rintro e w6 ⟨rfl,X6⟩
 go_wp2_with fail
 refine (HCM.out _).mono ?_
 rintro e w7 ⟨rfl,X7⟩
 go_wp2_with fail
 refine (HA.out _).mono ?_
 rintro e w8 ⟨rfl,X8⟩
 go_wp2_with fail
 refine (HC.out _).mono ?_
 rintro e w9 ⟨rfl,X9⟩
 go_wp2_with fail
 go_ret
 exact ⟨rfl,(((((((X2.trans X3).trans X4).trans X5).trans X6).trans X7).trans X8).trans X9)⟩
set_option maxHeartbeats 1600000 in
set_option maxRecDepth 100000 in
theorem rsign_leaf (T N D:ByteArray) (p z:Bool) (c:Int) (w:World) (hz:(N.toList == [48])=z) (hc:c=if z=true then 0 else if p=true then -1 else 1)
 (HP:Hid (∀ W,Calls Tryz.prog 67 #[.string T] W fun e w' => e=.returned (.tuple #[.bool p,.string N,.string D]) ∧ Ext W w')) :
 Calls Tryz.prog 69 #[.string T] w fun e w' => e=.returned (.int .i64 c) ∧ Ext w w':=by
 subst hc
 cases p <;> cases z <;>
 (
  go_enter Tryz.func69,Tryz.ntmps69
  go_wp2_with fail
  refine (HP.out _).mono ?_
  rintro e w2 ⟨rfl,X2⟩
  go_wp2_with fail
  go_ret
  exact ⟨rfl,X2⟩)
theorem sg_mul (y z:Int):sg (decide (y < 0) != decide (z < 0)) (y.natAbs * z.natAbs)=y * z:=by
 unfold sg
 rcases (show y < 0 ∨ 0 ≤ y by omega) with hy | hy <;> rcases (show z < 0 ∨ 0 ≤ z by omega) with hz | hz
 · obtain ⟨m,rfl⟩:∃ m:Nat,y=-(m:Int):=⟨y.natAbs,by omega⟩
   obtain ⟨n,rfl⟩:∃ n:Nat,z=-(n:Int):=⟨z.natAbs,by omega⟩
   rw [decide_eq_true hy,decide_eq_true hz,Int.neg_mul_neg]
   simp
 · obtain ⟨m,rfl⟩:∃ m:Nat,y=-(m:Int):=⟨y.natAbs,by omega⟩
   obtain ⟨n,rfl⟩:∃ n:Nat,z=(n:Int):=⟨z.natAbs,by omega⟩
   rw [decide_eq_true hy,decide_eq_false (by omega),Int.neg_mul]
   simp
 · obtain ⟨m,rfl⟩:∃ m:Nat,y=(m:Int):=⟨y.natAbs,by omega⟩
   obtain ⟨n,rfl⟩:∃ n:Nat,z=-(n:Int):=⟨z.natAbs,by omega⟩
   rw [decide_eq_false (by omega),decide_eq_true hz,Int.mul_neg]
   simp
 · obtain ⟨m,rfl⟩:∃ m:Nat,y=(m:Int):=⟨y.natAbs,by omega⟩
   obtain ⟨n,rfl⟩:∃ n:Nat,z=(n:Int):=⟨z.natAbs,by omega⟩
   rw [decide_eq_false (by omega),decide_eq_false (by omega)]
   simp
theorem QF_mul (a b:Rat):QF (decide (a.num < 0) != decide (b.num < 0)) (a.num.natAbs * b.num.natAbs) (a.den * b.den)=a * b:=by
 unfold QF
 rw [sg_mul]
 exact rat_mul a b
theorem sign_scale (y:Int) {d:Nat} (hd:0 < d):decide (y * (d:Int) < 0)=decide (y < 0):=by
 have hi:(0:Int) < (d:Int):=by omega
 rw [decide_eq_decide]
 constructor
 · intro h
   rcases (show y < 0 ∨ 0 ≤ y by omega) with h1 | h1
   · exact h1
   · have:=Int.mul_nonneg h1 (Int.le_of_lt hi); omega
 · intro h
   exact Int.mul_neg_of_neg_of_pos h hi
theorem abs_scale (y:Int) (d:Nat):(y * (d:Int)).natAbs=y.natAbs * d:=by rw [Int.natAbs_mul,Int.natAbs_natCast]
theorem QF_same {a b:Rat} (h:decide (a.num < 0)=decide (b.num < 0)):QF (decide (a.num < 0)) (a.num.natAbs * b.den + b.num.natAbs * a.den) (a.den * b.den)=a + b:=by
 rw [← rat_add]
 unfold QF
 have:=sg_add_same (y:=a.num * b.den) (z:=b.num * a.den) (by rw [sign_scale _ b.den_pos,sign_scale _ a.den_pos,h])
 rw [sign_scale _ b.den_pos,abs_scale,abs_scale] at this
 rw [this]
theorem QF_diff {a b:Rat} (h:decide (a.num < 0) ≠ decide (b.num < 0)) (hle:b.num.natAbs * a.den ≤ a.num.natAbs * b.den):QF (decide (a.num < 0)) (a.num.natAbs * b.den - b.num.natAbs * a.den) (a.den * b.den)=a + b:=by
 rw [← rat_add]
 unfold QF
 have:=sg_add_diff (y:=a.num * b.den) (z:=b.num * a.den) (by rw [sign_scale _ b.den_pos,sign_scale _ a.den_pos]; exact h) (by rw [abs_scale,abs_scale]; exact hle)
 rw [sign_scale _ b.den_pos,abs_scale,abs_scale] at this
 rw [this]
theorem QF_swap {a b:Rat} (h:decide (a.num < 0) ≠ decide (b.num < 0)) (hle:a.num.natAbs * b.den ≤ b.num.natAbs * a.den):QF (decide (b.num < 0)) (b.num.natAbs * a.den - a.num.natAbs * b.den) (a.den * b.den)=a + b:=by
 have:=QF_diff (a:=b) (b:=a) (fun e => h e.symm) hle
 rw [Nat.mul_comm a.den,this,Rat.add_comm]
theorem RB_divInt {z:Int} {d k:Nat} (hd:d ≠ 0) (h1:z.natAbs < 10 ^ k) (h2:d < 10 ^ k):RB k (Rat.divInt z (d:Int)):=by
 have:=QF_RB (decide (z < 0)) hd h1 h2
 unfold QF at this
 rwa [sg_of] at this
theorem pow_mul_lt {x y k m:Nat} (h1:x < 10 ^ k) (h2:y < 10 ^ m):x * y < 10 ^ (k + m):=by
 rw [Nat.pow_add]; exact Nat.mul_lt_mul_of_lt_of_le h1 (Nat.le_of_lt h2) (Nat.pow_pos (by omega))
theorem pow_mono {x k m:Nat} (h:x < 10 ^ k) (hk:k ≤ m):x < 10 ^ m:=Nat.lt_of_lt_of_le h (Nat.pow_le_pow_right (by omega) hk)
theorem pow_add_lt {x y k:Nat} (h1:x < 10 ^ k) (h2:y < 10 ^ k):x + y < 10 ^ (k + 1):=by rw [Nat.pow_succ]; omega
theorem den_mul_ne (a b:Rat):a.den * b.den ≠ 0:=Nat.mul_ne_zero a.den_nz b.den_nz
theorem RB_add {k m:Nat} {a b:Rat} (ha:RB k a) (hb:RB m b):RB (k + m + 1) (a + b):=by
 rw [← rat_add]
 refine RB_divInt (den_mul_ne a b) ?_ (pow_mono (pow_mul_lt ha.2 hb.2) (by omega))
 refine Nat.lt_of_le_of_lt (Int.natAbs_add_le ..) ?_
 rw [abs_scale,abs_scale]
 refine pow_add_lt (pow_mul_lt ha.1 hb.2) ?_
 rw [Nat.mul_comm]; exact pow_mul_lt ha.2 hb.1
theorem RB_mul {k m:Nat} {a b:Rat} (ha:RB k a) (hb:RB m b):RB (k + m) (a * b):=by
 rw [← QF_mul]
 exact QF_RB _ (den_mul_ne a b) (pow_mul_lt ha.1 hb.1) (pow_mul_lt ha.2 hb.2)
theorem rDec_mul {n m k:Nat} (hk:k ≤ 800000) (h1:n < 10 ^ k) (h2:m < 10 ^ k):Hid (∀ W,Calls Tryz.prog 80 #[.string (decT n),.string (decT m)] W fun e w' => e=.returned (.string (decT (n * m))) ∧ Ext W w'):=fun W => by
 have l1:=dd_len_le h1
 have l2:=dd_len_le h2
 have:=rNatMul_any (decT n) (decT m) W (decT_allD _) (decT_allD _) (by rw [decT_size]; omega) (by rw [decT_size]; omega)
 rwa [numB_decT,numB_decT] at this
theorem rDec_add {n m k:Nat} (hk:k ≤ 800000) (h1:n < 10 ^ k) (h2:m < 10 ^ k):Hid (∀ W,Calls Tryz.prog 81 #[.string (decT n),.string (decT m)] W fun e w' => e=.returned (.string (decT (n + m))) ∧ Ext W w'):=fun W => by
 have l1:=dd_len_le h1
 have l2:=dd_len_le h2
 have:=rNatAdd_any (decT n) (decT m) W (decT_allD _) (decT_allD _) (by rw [decT_size]; omega) (by rw [decT_size]; omega)
 rwa [numB_decT,numB_decT] at this
theorem rDec_sub {n m k:Nat} (hk:k ≤ 800000) (h1:n < 10 ^ k) (h2:m < 10 ^ k) (hle:m ≤ n):Hid (∀ W,Calls Tryz.prog 83 #[.string (decT n),.string (decT m)] W fun e w' => e=.returned (.string (decT (n - m))) ∧ Ext W w'):=fun W => by
 have l1:=dd_len_le h1
 have l2:=dd_len_le h2
 have:=rNatSub_any (decT n) (decT m) W (decT_allD _) (decT_allD _) (by rw [decT_size]; omega) (by rw [decT_size]; omega) (by rw [numB_decT,numB_decT]; exact hle)
 rwa [numB_decT,numB_decT] at this
theorem rDec_cmp {n m k:Nat} (hk:k ≤ 800000) (h1:n < 10 ^ k) (h2:m < 10 ^ k):Hid (∀ W,Calls Tryz.prog 82 #[.string (decT n),.string (decT m)] W fun e w' => e=.returned (.int .i64 (cmpZ n m)) ∧ Ext W w'):=fun W => by
 have l1:=dd_len_le h1
 have l2:=dd_len_le h2
 have:=rNatCmp_any (decT n) (decT m) W (decT_canon _) (decT_canon _) (by rw [decT_size]; omega) (by rw [decT_size]; omega)
 rw [numB_decT,numB_decT] at this
 exact this.mono fun e w' ⟨h,hw⟩ => ⟨h,hw ▸ Ext.refl _⟩
theorem rParts {q:Rat} {k:Nat} (hk:k ≤ 800000) (h:RB k q):Hid (∀ W,Calls Tryz.prog 67 #[.string (ratT q)] W fun e w' => e=.returned (.tuple #[.bool (decide (q.num < 0)),.string (decT q.num.natAbs),.string (decT q.den)]) ∧ Ext W w'):=fun W => rparts_any q W (by have:=ratT_size h; omega)
theorem rCanon {n d k:Nat} (neg:Bool) (hk:k ≤ 800000) (hd:d ≠ 0) (h1:n < 10 ^ k) (h2:d < 10 ^ k):Hid (∀ W,Calls Tryz.prog 68 #[.bool neg,.string (decT n),.string (decT d)] W fun e w' => e=.returned (.string (ratT (QF neg n d))) ∧ Ext W w'):=fun W => canon_any neg n d W hd k hk h1 h2
theorem rMul_any {a b:Rat} {k m:Nat} (hk:k + m ≤ 800000) (ha:RB k a) (hb:RB m b) (w:World):Calls Tryz.prog 34 #[.string (ratT a),.string (ratT b)] w fun e w' => e=.returned (.string (ratT (a * b))) ∧ Ext w w':=by
 have ha2:=ha.mono (show k ≤ k + m by omega)
 have hb2:=hb.mono (show m ≤ k + m by omega)
 have:=ratMul_leaf _ _ _ _ _ _ _ _ _ _ _ w (rParts hk ha2) (rParts hk hb2) (rDec_mul hk ha2.1 hb2.1) (rDec_mul hk ha2.2 hb2.2) (rCanon (decide (a.num < 0) != decide (b.num < 0)) hk (den_mul_ne a b) (pow_mul_lt ha.1 hb.1) (pow_mul_lt ha.2 hb.2))
 rwa [QF_mul] at this
theorem rAdd_any {a b:Rat} {k m:Nat} (hk:k + m + 1 ≤ 800000) (ha:RB k a) (hb:RB m b) (w:World):Calls Tryz.prog 33 #[.string (ratT a),.string (ratT b)] w fun e w' => e=.returned (.string (ratT (a + b))) ∧ Ext w w':=by
 have ha2:=ha.mono (show k ≤ k + m + 1 by omega)
 have hb2:=hb.mono (show m ≤ k + m + 1 by omega)
 have hx:=pow_mul_lt ha.1 hb.2
 have hy:b.num.natAbs * a.den < 10 ^ (k + m):=by rw [Nat.mul_comm]; exact pow_mul_lt ha.2 hb.1
 have hz:=pow_mul_lt ha.2 hb.2
 have hx1:=pow_mono hx (show k + m ≤ k + m + 1 by omega)
 have hy1:=pow_mono hy (show k + m ≤ k + m + 1 by omega)
 have hz1:=pow_mono hz (show k + m ≤ k + m + 1 by omega)
 have hs:=pow_add_lt hx hy
 have P1:=rParts hk ha2
 have P2:=rParts hk hb2
 have M1:=rDec_mul hk ha2.1 hb2.2
 have M2:=rDec_mul hk hb2.1 ha2.2
 have M3:=rDec_mul hk ha2.2 hb2.2
 have CM:=rDec_cmp hk hx1 hy1
 by_cases h:decide (a.num < 0)=decide (b.num < 0)
 · have HA:=rDec_add hk hx1 hy1
   have HC:=rCanon (decide (a.num < 0)) hk (den_mul_ne a b) hs hz1
   rw [QF_same h] at HC
   rw [← h] at P2
   cases hb1:decide (a.num < 0) <;> rw [hb1] at P1 P2 HC
   · exact radd_same_false _ _ _ _ _ _ _ _ _ _ _ w P1 P2 M1 M2 M3 HA HC
   · exact radd_same_true _ _ _ _ _ _ _ _ _ _ _ w P1 P2 M1 M2 M3 HA HC
 · by_cases hlt:a.num.natAbs * b.den < b.num.natAbs * a.den
   · have hc:cmpZ (a.num.natAbs * b.den) (b.num.natAbs * a.den) < 0:=by unfold cmpZ; rw [if_pos hlt]; omega
     have HA:=rDec_sub hk hy1 hx1 (by omega)
     have HC:=rCanon (decide (b.num < 0)) hk (den_mul_ne a b) (Nat.lt_of_le_of_lt (Nat.sub_le _ _) hy1:b.num.natAbs * a.den - a.num.natAbs * b.den < _) hz1
     rw [QF_swap h (by omega)] at HC
     cases hb1:decide (a.num < 0) <;> cases hb2':decide (b.num < 0) <;> rw [hb1] at P1 h <;> rw [hb2'] at P2 HC h
     · exact absurd rfl h
     · exact radd_diff_false_less _ _ _ _ _ _ _ _ _ _ _ _ hc w P1 P2 M1 M2 M3 CM HA HC
     · exact radd_diff_true_less _ _ _ _ _ _ _ _ _ _ _ _ hc w P1 P2 M1 M2 M3 CM HA HC
     · exact absurd rfl h
   · have hc:0 ≤ cmpZ (a.num.natAbs * b.den) (b.num.natAbs * a.den):=by unfold cmpZ; rw [if_neg hlt]; split <;> omega
     have HA:=rDec_sub hk hx1 hy1 (by omega)
     have HC:=rCanon (decide (a.num < 0)) hk (den_mul_ne a b) (Nat.lt_of_le_of_lt (Nat.sub_le _ _) hx1:a.num.natAbs * b.den - b.num.natAbs * a.den < _) hz1
     rw [QF_diff h (by omega)] at HC
     cases hb1:decide (a.num < 0) <;> cases hb2':decide (b.num < 0) <;> rw [hb1] at P1 HC h <;> rw [hb2'] at P2 h
     · exact absurd rfl h
     · exact radd_diff_false_ge _ _ _ _ _ _ _ _ _ _ _ _ hc w P1 P2 M1 M2 M3 CM HA HC
     · exact radd_diff_true_ge _ _ _ _ _ _ _ _ _ _ _ _ hc w P1 P2 M1 M2 M3 CM HA HC
     · exact absurd rfl h
theorem rSign_any {a:Rat} {k:Nat} (hk:k ≤ 800000) (ha:RB k a) (w:World):Calls Tryz.prog 69 #[.string (ratT a)] w fun e w' => e=.returned (.int .i64 a.num.sign) ∧ Ext w w':=by
 refine rsign_leaf _ _ _ _ _ _ w rfl ?_ (rParts hk ha)
 rw [isT_decT_zero]
 simp only [decide_eq_true_eq]
 split
 · rename_i h
   rw [show a.num=0 by omega]; rfl
 · split
   · rename_i h; exact Int.sign_eq_neg_one_of_neg h
   · exact Int.sign_eq_one_of_pos (by omega)
theorem outF_fits {q:Rat} (h:fitsB q=true):outF q=(ratT q,0):=by unfold outF; rw [if_pos h]
theorem outF_RB {q:Rat} {k:Nat} (h:RB k q) (hk:k ≤ 1999):outF q=(ratT q,0):=by
 apply outF_fits
 have h1:=dd_len_le h.1
 have h2:=dd_len_le h.2
 unfold fitsB
 rw [decide_eq_true (show (decT q.num.natAbs).size ≤ 2000 by rw [decT_size]; omega),decide_eq_true (show (decT q.den).size ≤ 2000 by rw [decT_size]; omega)]
 rfl
theorem fits_ok {s:ByteArray} (h:RatOk s):fitsB (ratOf s)=true:=by
 obtain ⟨p1,p2⟩:=ratOf_parts h
 unfold fitsB
 rw [p1,p2,sg_abs,← text_of h.n1,decide_eq_true h.n2]
 unfold denN
 by_cases hh:hasD s=true
 · rw [if_pos hh,← text_of (h.d1 hh),decide_eq_true (h.d2 hh)]; rfl
 · rw [if_neg hh,decT_one]; rfl
end Go.Proofs.YtcggohkbmhdohaaGreatDoor
