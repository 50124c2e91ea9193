/- texts merged: RatAA RatAB RatAC -/
import Derived.Test.YtcggohkbmhdohaaGreatDoorRatZ
import Derived.Test.YtcggohkbmhdohaaGreatDoorRtGI
namespace Go.Proofs.YtcggohkbmhdohaaGreatDoor
open Go.RowKit
set_option linter.unusedVariables false
def refF (E D:Int) (many negnz dz d1 g1:Bool):Int:=if E=5 ∨ D=5 ∨ negnz=true then 5 else if E ≠ 0 ∨ D ≠ 0 then 2 else if many=true ∧ (dz=true ∨ d1=true ∨ g1=false) then 3 else 0
theorem natErr_cases (s:ByteArray):(natErr s=5 ∧ natB s.data.toList=false) ∨ (natErr s=2 ∧ natB s.data.toList=true ∧ 2000 < s.size) ∨ (natErr s=0 ∧ natB s.data.toList=true ∧ s.size ≤ 2000):=by
 unfold natErr
 cases h:natB s.data.toList
 · exact .inl ⟨by simp,rfl⟩
 · by_cases h2:2000 < s.size
   · exact .inr (.inl ⟨by simp [h2],rfl,h2⟩)
   · exact .inr (.inr ⟨by simp [h2],rfl,by omega⟩)
theorem ratErr_ref (s:ByteArray) (D:Int) (hD:(hasD s=true ∧ D=natErr (denT s)) ∨ (hasD s=false ∧ D=0)) :
 ratErr s=refF (natErr (numT s)) D (hasD s) (negB s && isT (numT s) 48) (isT (denT s) 48) (isT (denT s) 49) (decide (Nat.gcd (numB (numT s)) (numB (denT s))=1)):=by
 unfold ratErr synB bigB frmB refF
 have hm:=denT_miss (s:=s)
 generalize decide (Nat.gcd (numB (numT s)) (numB (denT s))=1)=g1
 generalize isT (denT s) 48=dz
 generalize isT (denT s) 49=d1
 generalize (negB s && isT (numT s) 48)=nn
 rcases hD with ⟨h1,rfl⟩ | ⟨h1,rfl⟩
 · rw [h1]
   rcases natErr_cases (numT s) with ⟨e1,e2⟩ | ⟨e1,e2,e3⟩ | ⟨e1,e2,e3⟩ <;> rcases natErr_cases (denT s) with ⟨f1,f2⟩ | ⟨f1,f2,f3⟩ | ⟨f1,f2,f3⟩ <;> rw [e1,f1,e2,f2] <;> cases nn <;> cases dz <;> cases d1 <;> cases g1 <;> simp <;> omega
 · rw [h1]
   have h0:=hm h1
   rcases natErr_cases (numT s) with ⟨e1,e2⟩ | ⟨e1,e2,e3⟩ | ⟨e1,e2,e3⟩ <;> rw [e1,e2] <;> cases nn <;> simp <;> omega
theorem decT_one_iff {n:Nat}:(decT n=⟨#[49]⟩) ↔ n=1:=by
 constructor
 · intro h
   have:=numB_decT n
   rw [h] at this
   rw [← this]; rfl
 · rintro rfl
   rw [decT,dd_small (by omega)]; rfl
theorem isT_decT_one (n:Nat):((decT n).toList == [49])=decide (n=1):=by
 by_cases h:n=1
 · rw [decide_eq_true h,decT_one_iff.2 h,Lib.toList_data]; rfl
 · rw [decide_eq_false h,beq_eq_false_iff_ne]
   intro e
   rw [Lib.toList_data] at e
   exact h (decT_one_iff.1 (bytes_of_list e))
theorem rcase_pos_miss {E D Rz:Int} {nz dz d1 g1:Bool} (hE:E=5 ∨ E=2 ∨ E=0) (hD:D=0) (hR:Rz=refF E D false false dz d1 g1):(E=5 ∧ Rz=5) ∨ (E=2 ∧ D=0 ∧ Rz=2) ∨ (E=0 ∧ D=0 ∧ Rz=0):=by
 rcases hE with rfl | rfl | rfl <;> rcases hD with rfl <;> cases nz <;> cases dz <;> cases d1 <;> cases g1 <;> simp [refF] at hR ⊢ <;> first | exact hR | trivial | omega
theorem rcase_pos_hit {E D Rz:Int} {nz dz d1 g1:Bool} (hE:E=5 ∨ E=2 ∨ E=0) (hD:D=5 ∨ D=2 ∨ D=0) (hR:Rz=refF E D true false dz d1 g1):(E=5 ∧ Rz=5) ∨ (E=2 ∧ D=5 ∧ Rz=5) ∨ (E=2 ∧ D=2 ∧ Rz=2) ∨ (E=2 ∧ D=0 ∧ Rz=2) ∨ (E=0 ∧ D=5 ∧ Rz=5) ∨ (E=0 ∧ D=2 ∧ Rz=2) ∨ (E=0 ∧ D=0 ∧ dz=true ∧ Rz=3) ∨ (E=0 ∧ D=0 ∧ dz=false ∧ d1=true ∧ Rz=3) ∨ (E=0 ∧ D=0 ∧ dz=false ∧ d1=false ∧ g1=false ∧ Rz=3) ∨ (E=0 ∧ D=0 ∧ dz=false ∧ d1=false ∧ g1=true ∧ Rz=0):=by
 rcases hE with rfl | rfl | rfl <;> rcases hD with rfl | rfl | rfl <;> cases nz <;> cases dz <;> cases d1 <;> cases g1 <;> simp [refF] at hR ⊢ <;> first | exact hR | trivial | omega
theorem rcase_neg_miss {E D Rz:Int} {nz dz d1 g1:Bool} (hE:E=5 ∨ E=2 ∨ E=0) (hD:D=0) (hR:Rz=refF E D false nz dz d1 g1):(E=5 ∧ Rz=5) ∨ (E=2 ∧ D=0 ∧ nz=true ∧ Rz=5) ∨ (E=2 ∧ D=0 ∧ nz=false ∧ Rz=2) ∨ (E=0 ∧ D=0 ∧ nz=true ∧ Rz=5) ∨ (E=0 ∧ D=0 ∧ nz=false ∧ Rz=0):=by
 rcases hE with rfl | rfl | rfl <;> rcases hD with rfl <;> cases nz <;> cases dz <;> cases d1 <;> cases g1 <;> simp [refF] at hR ⊢ <;> first | exact hR | trivial | omega
theorem rcase_neg_hit {E D Rz:Int} {nz dz d1 g1:Bool} (hE:E=5 ∨ E=2 ∨ E=0) (hD:D=5 ∨ D=2 ∨ D=0) (hR:Rz=refF E D true nz dz d1 g1):(E=5 ∧ Rz=5) ∨ (E=2 ∧ D=5 ∧ Rz=5) ∨ (E=2 ∧ D=2 ∧ nz=true ∧ Rz=5) ∨ (E=2 ∧ D=2 ∧ nz=false ∧ Rz=2) ∨ (E=2 ∧ D=0 ∧ nz=true ∧ Rz=5) ∨ (E=2 ∧ D=0 ∧ nz=false ∧ Rz=2) ∨ (E=0 ∧ D=5 ∧ Rz=5) ∨ (E=0 ∧ D=2 ∧ nz=true ∧ Rz=5) ∨ (E=0 ∧ D=2 ∧ nz=false ∧ Rz=2) ∨ (E=0 ∧ D=0 ∧ nz=true ∧ Rz=5) ∨ (E=0 ∧ D=0 ∧ nz=false ∧ dz=true ∧ Rz=3) ∨ (E=0 ∧ D=0 ∧ nz=false ∧ dz=false ∧ d1=true ∧ Rz=3) ∨ (E=0 ∧ D=0 ∧ nz=false ∧ dz=false ∧ d1=false ∧ g1=false ∧ Rz=3) ∨ (E=0 ∧ D=0 ∧ nz=false ∧ dz=false ∧ d1=false ∧ g1=true ∧ Rz=0):=by
 rcases hE with rfl | rfl | rfl <;> rcases hD with rfl | rfl | rfl <;> cases nz <;> cases dz <;> cases d1 <;> cases g1 <;> simp [refF] at hR ⊢ <;> first | exact hR | trivial | omega
theorem byte_at {b:ByteArray} {k:Nat} (h:k < b.size):b.data.toList[k]?=some b[k]:=by
 rw [Array.getElem?_toList,Array.getElem?_eq_getElem h]; rfl
theorem neg_parts {s:ByteArray} (h:0 < s.size) (h45:s[0]=45):negB s=true ∧ s.extract 1 s.size=bodyB s:=by
 have e:s.data.toList=s[0] :: s.data.toList.drop 1:=by
  have:=bdrop (s:=s) (k:=0) h
  rwa [List.drop_zero] at this
 have hp:Lib.hasPrefix s.data.toList [45]=true:=by
  rw [e,h45]; rfl
 refine ⟨hp,?_⟩
 unfold bodyB Lib.trimPrefix
 rw [hp,if_pos rfl]
 exact bytes_of_list (by rw [ext_drop]; rfl)
theorem pos_parts {s:ByteArray} (h:s.size=0 ∨ ∃ h:0 < s.size,s[0] ≠ 45):negB s=false ∧ bodyB s=s:=by
 have hp:Lib.hasPrefix s.data.toList [45]=false:=by
  rcases h with h | ⟨h,h45⟩
  · rw [List.eq_nil_of_length_eq_zero (show s.data.toList.length=0 by rw [bsz]; exact h)]; rfl
  · have e:s.data.toList=s[0] :: s.data.toList.drop 1:=by
     have:=bdrop (s:=s) (k:=0) h
     rwa [List.drop_zero] at this
    rw [e]
    show ((45:UInt8) == s[0] && _)=false
    rw [show ((45:UInt8) == s[0])=false by rw [beq_eq_false_iff_ne]; exact fun e => h45 e.symm]
    rfl
 refine ⟨hp,?_⟩
 unfold bodyB Lib.trimPrefix
 rw [hp,if_neg (by simp)]
set_option maxHeartbeats 800000 in
set_option maxRecDepth 100000 in
theorem rerr_empty (w:World):Calls Tryz.prog 96 #[.string ⟨#[]⟩] w fun e w' => e=.returned (.int .i64 5) ∧ Ext w w':=by
 have HEN:=Lib.hid (fun W => natError_any ⟨#[]⟩ W (by decide) 5 (by show _=_; decide +kernel))
 have HED:=Lib.hid (fun W => natError_any ⟨#[50]⟩ W (by decide) 0 (by show _=_; decide +kernel))
 go_enter Tryz.func96,Tryz.ntmps96
 go_wp2_with fail
 go_loopw [6,7,5,25] (fun nv dv mv iv wr => nv=.string ⟨#[]⟩ ∧ dv=.string ⟨#[50]⟩ ∧ mv=.int .i64 1 ∧ iv=.int .i64 0 ∧ Ext w wr) (fun _ _ _ iv _ => 0)
 case atStart => exact ⟨rfl,rfl,rfl,rfl,Ext.refl _⟩
 case round =>
  obtain ⟨rfl,rfl,rfl,rfl,X⟩:=hrel
  go_wp2_with fail
  refine (HEN.out _).mono ?_
  rintro e w2 ⟨rfl,X2⟩
  go_wp2_with fail
  refine (HED.out _).mono ?_
  rintro e w3 ⟨rfl,X3⟩
  go_wp2_with fail
  go_ret
  exact ⟨rfl,(X.trans X2).trans X3⟩
theorem rRatError_any (s:ByteArray) (w:World) (hs:s.size ≤ 9223372036854775806) :
 Calls Tryz.prog 96 #[.string s] w fun e w' => e=.returned (.int .i64 (ratErr s)) ∧ Ext w w':=by
 by_cases h0:s.size=0
 · have he:s=⟨#[]⟩:=bytes_of_list (List.eq_nil_of_length_eq_zero (by rw [bsz]; exact h0))
   subst he
   rw [show ratErr ⟨#[]⟩=5 by decide +kernel]
   exact rerr_empty w
 have hlt:0 < s.size:=by omega
 have hn:=numT_le s
 have hd:=denT_le s
 have hE:natErr (numT s)=5 ∨ natErr (numT s)=2 ∨ natErr (numT s)=0:=by
  rcases natErr_cases (numT s) with h | h | h
  · exact .inl h.1
  · exact .inr (.inl h.1)
  · exact .inr (.inr h.1)
 have hD:natErr (denT s)=5 ∨ natErr (denT s)=2 ∨ natErr (denT s)=0:=by
  rcases natErr_cases (denT s) with h | h | h
  · exact .inl h.1
  · exact .inr (.inl h.1)
  · exact .inr (.inr h.1)
 have HEN:=Lib.hid (fun W => natError_any (numT s) W (by omega) (natErr (numT s)) rfl)
 have HED:=Lib.hid (fun W => natError_any (denT s) W (by omega) (natErr (denT s)) rfl)
 have HG:=Lib.hid (fun (h1:natErr (numT s)=0) (h2:natErr (denT s)=0) W => by
  have:=rNatGcd_any (numB (numT s)) (numB (denT s)) W (by rw [← decT_size,← natErr_text h1]; have:=(natErr_zero h1).2; omega) (by rw [← decT_size,← natErr_text h2]; have:=(natErr_zero h2).2; omega)
  rw [← natErr_text h1,← natErr_text h2] at this
  exact this)
 rcases ixB_cases (bodyB s) 47 with hm | ⟨i,hi,hib⟩
 · have hK:hasD s=false:=cutK_miss hm
   have hnb:numT s=bodyB s:=cutA_miss hm
   have h47:∀ k (h:k < (bodyB s).size),(bodyB s)[k] ≠ 47:=fun k h e => Lib.indexByte_none hm k (by rw [byte_at h,e])
   have HED2:=Lib.hid (fun W => natError_any ⟨#[50]⟩ W (by decide) 0 (by show _=_; decide +kernel))
   have hr:=ratErr_ref s 0 (.inr ⟨hK,rfl⟩)
   rw [hK] at hr
   have HG2:Hid (natErr (numT s)=0 → (0:Int)=0 → ∀ W,Calls Tryz.prog 114 #[.string (numT s),.string ⟨#[50]⟩] W fun e w' => e=.returned (.string (decT (Nat.gcd (numB (numT s)) 2))) ∧ Ext W w'):=fun h1 _ W => by
    have:=rNatGcd_any (numB (numT s)) 2 W (by rw [← decT_size,← natErr_text h1]; have:=(natErr_zero h1).2; omega) (by rw [dd_small (by omega)]; simp)
    rw [← natErr_text h1,show decT 2=⟨#[50]⟩ by rw [decT,dd_small (by omega)]; rfl] at this
    exact this
   by_cases h45:s[0]=45
   · obtain ⟨p1,p2⟩:=neg_parts hlt h45
     rw [p1,Bool.true_and] at hr
     exact rerr_neg_miss s (bodyB s) (numT s) ⟨#[50]⟩ (natErr (numT s)) 0 (ratErr s) (isT (numT s) 48) _ _ _ _ w hs hlt h45 p2 h47 hnb rfl HEN HED2 HG2 rfl rfl rfl rfl (rcase_neg_miss hE rfl hr)
   · obtain ⟨p1,p2⟩:=pos_parts (.inr ⟨hlt,h45⟩)
     rw [p1,Bool.false_and] at hr
     exact rerr_pos_miss s (bodyB s) (numT s) ⟨#[50]⟩ (natErr (numT s)) 0 (ratErr s) (isT (numT s) 48) _ _ _ _ w hs hlt h45 p2 h47 hnb rfl HEN HED2 HG2 rfl rfl rfl rfl (rcase_pos_miss (nz:=isT (numT s) 48) hE rfl hr)
 · have hK:hasD s=true:=cutK_hit hi
   have hnb:(bodyB s).extract 0 i=numT s:=(cutA_hit hi).symm
   have hdb:(bodyB s).extract (i + 1) (bodyB s).size=denT s:=(cutR_hit hi).symm
   obtain ⟨b1,b2⟩:=Lib.indexByte_some (o:=i) hi
   rw [byte_at hib] at b1
   have h47:(bodyB s)[i]=47:=Option.some.inj b1
   have h47b:∀ k (h:k < (bodyB s).size),k < i → (bodyB s)[k] ≠ 47:=fun k h hk e => b2 k hk (by rw [byte_at h,e])
   have hr:=ratErr_ref s (natErr (denT s)) (.inl ⟨hK,rfl⟩)
   rw [hK] at hr
   by_cases h45:s[0]=45
   · obtain ⟨p1,p2⟩:=neg_parts hlt h45
     rw [p1,Bool.true_and] at hr
     exact rerr_neg_hit s (bodyB s) (numT s) (denT s) (natErr (numT s)) (natErr (denT s)) (ratErr s) (isT (numT s) 48) (isT (denT s) 48) (isT (denT s) 49) _ _ i w hs hlt h45 p2 hib h47 h47b hnb hdb HEN HED HG rfl rfl rfl (isT_decT_one _) (rcase_neg_hit hE hD hr)
   · obtain ⟨p1,p2⟩:=pos_parts (.inr ⟨hlt,h45⟩)
     rw [p1,Bool.false_and] at hr
     exact rerr_pos_hit s (bodyB s) (numT s) (denT s) (natErr (numT s)) (natErr (denT s)) (ratErr s) (isT (numT s) 48) (isT (denT s) 48) (isT (denT s) 49) _ _ i w hs hlt h45 p2 hib h47 h47b hnb hdb HEN HED HG rfl rfl rfl (isT_decT_one _) (rcase_pos_hit (nz:=isT (numT s) 48) hE hD hr)
set_option maxHeartbeats 1600000 in
set_option maxRecDepth 100000 in
theorem rRatErrors_any (v:Value) (l:List ByteArray) (w:World) (hv:Strs w v l) (hs:∀ s ∈ l,s.size ≤ 9223372036854775806) (Q:Int) (hQ:firstF (l.map ratErr)=Q) :
 Calls Tryz.prog 98 #[v] w fun e w' => e=.returned (.int .i64 Q) ∧ Ext w w':=by
 obtain ⟨wo,rfl⟩:∃ wo:World,wo=w:=⟨_,rfl⟩
 obtain ⟨ao,c,rfl,hlen,hc⟩:=hv.open
 have HC:=Lib.hid hc
 have HS:=Lib.hid hs
 have HQ:=Lib.hid hQ
 clear hc hs hv hQ
 go_enter Tryz.func98,Tryz.ntmps98
 go_wp2_with fail
 go_loopw [8] (fun iv wr => ∃ (i:Nat),i ≤ l.length ∧ iv=.int .i64 i ∧ Ext wo wr ∧ Hid (firstF ((l.drop i).map ratErr)=Q)) (fun iv _ => l.length - (intOf iv).toNat)
 case atStart => exact ⟨0,Nat.zero_le _,rfl,Ext.refl _,by show _=_; rw [List.drop_zero]; exact HQ.out⟩
 case round =>
  obtain ⟨i,hi,rfl,X,HI⟩:=hrel
  by_cases hlt:i < l.length
  · obtain ⟨s,d1,d2,d3⟩:=get_lt hlt
    obtain ⟨b,off,rfl,hc0⟩:=(HC.out.ext X).at d1
    have hcell:wr.cell? ⟨b,off + i,none⟩=some (.string s):=hc0
    have hki:(i:Int) < (l.length:Int):=by omega
    have hi2:=HI.out
    rw [d2.out,List.map_cons,firstF] at hi2
    have HR:=Lib.hid (rRatError_any s wr (HS.out s (List.mem_of_getElem? d1.out)))
    obtain ⟨q,hq⟩:∃ q,ratErr s=q:=⟨_,rfl⟩
    rw [hq] at HR hi2
    by_cases hz:q=0
    · subst hz
      rw [if_neg (by simp)] at hi2
      have HI2:=Lib.hid hi2
      clear hc0 hi2 hq hlt
      go_wp2_with fail
      refine HR.out.mono ?_
      rintro e w2 ⟨rfl,X2⟩
      go_wp2_with fail
      go_roundw
      case rel => exact ⟨i + 1,by omega,by go_num,X.trans X2,HI2.out⟩
      case measure => simp [intOf]; omega
    · rw [if_pos hz] at hi2
      have hb:(q != 0)=true:=by simp [hz]
      have HI2:=Lib.hid hi2
      clear hc0 hi2 hq hlt hz
      go_wp2_with fail
      refine HR.out.mono ?_
      rintro e w2 ⟨rfl,X2⟩
      go_wp2_with fail
      go_ret
      exact ⟨by rw [← HI2.out]; rfl,X.trans X2⟩
  · have hil:l.length=i:=by omega
    have hi2:=HI.out
    rw [← hil,List.drop_length] at hi2
    have HI2:=Lib.hid hi2
    clear hi2 hlt
    go_wp2_with fail
    go_ret
    exact ⟨by rw [← HI2.out]; rfl,X⟩
end Go.Proofs.YtcggohkbmhdohaaGreatDoor
