/- walk of the reference: RatError -/
import Derived.Test.YtcggohkbmhdohaaGreatDoorRtC
import Derived.Test.YtcggohkbmhdohaaGreatDoorNtDE
namespace Go.Proofs.YtcggohkbmhdohaaGreatDoor
open Go.RowKit
set_option linter.unusedVariables false
set_option maxHeartbeats 3200000 in
set_option maxRecDepth 100000 in
theorem rerr_pos_miss (s b n d:ByteArray) (E D Rz:Int) (nz dz d1 g1:Bool) (G:ByteArray) (w:World) (hs:s.size ≤ 9223372036854775806)
 (hlt:0 < s.size) (h45:s[0] ≠ 45) (hb:b=s) (h47b:∀ k (h:k < b.size),b[k] ≠ 47) (hn:n=b) (hd:d=⟨#[50]⟩)
 (HEN:Hid (∀ W,Calls Tryz.prog 136 #[.string n] W fun e w' => e=.returned (.int .i64 E) ∧ Ext W w'))
 (HED:Hid (∀ W,Calls Tryz.prog 136 #[.string d] W fun e w' => e=.returned (.int .i64 D) ∧ Ext W w'))
 (HG:Hid (E=0 → D=0 → ∀ W,Calls Tryz.prog 114 #[.string n,.string d] W fun e w' => e=.returned (.string G) ∧ Ext W w'))
 (hnz:(n.toList == [48])=nz) (hdz:(d.toList == [48])=dz) (hd1:(d.toList == [49])=d1) (hg1:(G.toList == [49])=g1)
 (hcase:(E=5 ∧ Rz=5) ∨ (E=2 ∧ D=0 ∧ Rz=2) ∨ (E=0 ∧ D=0 ∧ Rz=0)) :
 Calls Tryz.prog 96 #[.string s] w fun e w' => e=.returned (.int .i64 Rz) ∧ Ext w w':=by
 have hst:(s.size:Int) ≤ 9223372036854775806:=by omega
 have hs0:(0:Int) < (s.size:Int):=by omega
 have hbs:b.size ≤ 9223372036854775806:=by
  rw [hb]; exact hs
 have hbsi:(b.size:Int) ≤ 9223372036854775806:=by omega
 have hb45:((s[0].toNat:Int) == 45)=false:=by
  rw [beq_eq_false_iff_ne]
  intro e
  apply h45
  apply UInt8.toNat_inj.1
  have:(45:UInt8).toNat=45:=rfl
  omega
 subst hb
 subst hn
 subst hd
 have H47:=Lib.hid h47b
 clear h45 h47b
 rcases hcase with ⟨rfl,rfl⟩ | ⟨rfl,rfl,rfl⟩ | ⟨rfl,rfl,rfl⟩
 · clear HG
   go_enter Tryz.func96,Tryz.ntmps96
   go_wp2_with fail
   go_loopw [6,7,5,25] (fun nv dv mv iv wr => ∃ (i:Nat),i ≤ n.size ∧ iv=.int .i64 i ∧ Ext w wr ∧ nv=.string n ∧ dv=.string ⟨#[50]⟩ ∧ mv=.int .i64 1) (fun _ _ _ iv _ => n.size - (intOf iv).toNat)
   case atStart => exact ⟨0,Nat.zero_le _,rfl,Ext.refl _,rfl,rfl,rfl⟩
   case round =>
    obtain ⟨i,hi,rfl,X,rfl,rfl,rfl⟩:=hrel
    by_cases hlt2:i < n.size
    · have hne:=H47.out i hlt2
      have hbi:((n[i].toNat:Int) == 47)=false:=by
       rw [beq_eq_false_iff_ne]
       intro e
       apply hne
       apply UInt8.toNat_inj.1
       have:(47:UInt8).toNat=47:=rfl
       omega
      have hki:(i:Int) < (n.size:Int):=by omega
      clear hne
      go_wp2_with fail
      go_roundw
      case rel => exact ⟨i + 1,by omega,by go_num,X,rfl,rfl,rfl⟩
      case measure => simp [intOf]; omega
    · have hki:(n.size:Int) ≤ (i:Int):=by omega
      clear hlt2
      go_wp2_with fail
      refine (HEN.out _).mono ?_
      rintro e w2 ⟨rfl,X2⟩
      go_wp2_with fail
      refine (HED.out _).mono ?_
      rintro e w3 ⟨rfl,X3⟩
      go_wp2_with fail
      go_ret
      exact ⟨rfl,(X.trans X2).trans X3⟩
 · clear HG
   go_enter Tryz.func96,Tryz.ntmps96
   go_wp2_with fail
   go_loopw [6,7,5,25] (fun nv dv mv iv wr => ∃ (i:Nat),i ≤ n.size ∧ iv=.int .i64 i ∧ Ext w wr ∧ nv=.string n ∧ dv=.string ⟨#[50]⟩ ∧ mv=.int .i64 1) (fun _ _ _ iv _ => n.size - (intOf iv).toNat)
   case atStart => exact ⟨0,Nat.zero_le _,rfl,Ext.refl _,rfl,rfl,rfl⟩
   case round =>
    obtain ⟨i,hi,rfl,X,rfl,rfl,rfl⟩:=hrel
    by_cases hlt2:i < n.size
    · have hne:=H47.out i hlt2
      have hbi:((n[i].toNat:Int) == 47)=false:=by
       rw [beq_eq_false_iff_ne]
       intro e
       apply hne
       apply UInt8.toNat_inj.1
       have:(47:UInt8).toNat=47:=rfl
       omega
      have hki:(i:Int) < (n.size:Int):=by omega
      clear hne
      go_wp2_with fail
      go_roundw
      case rel => exact ⟨i + 1,by omega,by go_num,X,rfl,rfl,rfl⟩
      case measure => simp [intOf]; omega
    · have hki:(n.size:Int) ≤ (i:Int):=by omega
      clear hlt2
      go_wp2_with fail
      refine (HEN.out _).mono ?_
      rintro e w2 ⟨rfl,X2⟩
      go_wp2_with fail
      refine (HED.out _).mono ?_
      rintro e w3 ⟨rfl,X3⟩
      go_wp2_with fail
      go_ret
      exact ⟨rfl,(X.trans X2).trans X3⟩
 · clear HG
   go_enter Tryz.func96,Tryz.ntmps96
   go_wp2_with fail
   go_loopw [6,7,5,25] (fun nv dv mv iv wr => ∃ (i:Nat),i ≤ n.size ∧ iv=.int .i64 i ∧ Ext w wr ∧ nv=.string n ∧ dv=.string ⟨#[50]⟩ ∧ mv=.int .i64 1) (fun _ _ _ iv _ => n.size - (intOf iv).toNat)
   case atStart => exact ⟨0,Nat.zero_le _,rfl,Ext.refl _,rfl,rfl,rfl⟩
   case round =>
    obtain ⟨i,hi,rfl,X,rfl,rfl,rfl⟩:=hrel
    by_cases hlt2:i < n.size
    · have hne:=H47.out i hlt2
      have hbi:((n[i].toNat:Int) == 47)=false:=by
       rw [beq_eq_false_iff_ne]
       intro e
       apply hne
       apply UInt8.toNat_inj.1
       have:(47:UInt8).toNat=47:=rfl
       omega
      have hki:(i:Int) < (n.size:Int):=by omega
      clear hne
      go_wp2_with fail
      go_roundw
      case rel => exact ⟨i + 1,by omega,by go_num,X,rfl,rfl,rfl⟩
      case measure => simp [intOf]; omega
    · have hki:(n.size:Int) ≤ (i:Int):=by omega
      clear hlt2
      go_wp2_with fail
      refine (HEN.out _).mono ?_
      rintro e w2 ⟨rfl,X2⟩
      go_wp2_with fail
      refine (HED.out _).mono ?_
      rintro e w3 ⟨rfl,X3⟩
      go_wp2_with fail
      go_ret
      exact ⟨rfl,(X.trans X2).trans X3⟩
set_option maxHeartbeats 3200000 in
set_option maxRecDepth 100000 in
theorem rerr_pos_hit (s b n d:ByteArray) (E D Rz:Int) (nz dz d1 g1:Bool) (G:ByteArray) (i0:Nat) (w:World) (hs:s.size ≤ 9223372036854775806)
 (hlt:0 < s.size) (h45:s[0] ≠ 45) (hb:b=s) (hi0:i0 < b.size) (h47:b[i0]=47) (h47b:∀ k (h:k < b.size),k < i0 → b[k] ≠ 47) (hn:b.extract 0 i0=n) (hd:b.extract (i0 + 1) b.size=d)
 (HEN:Hid (∀ W,Calls Tryz.prog 136 #[.string n] W fun e w' => e=.returned (.int .i64 E) ∧ Ext W w'))
 (HED:Hid (∀ W,Calls Tryz.prog 136 #[.string d] W fun e w' => e=.returned (.int .i64 D) ∧ Ext W w'))
 (HG:Hid (E=0 → D=0 → ∀ W,Calls Tryz.prog 114 #[.string n,.string d] W fun e w' => e=.returned (.string G) ∧ Ext W w'))
 (hnz:(n.toList == [48])=nz) (hdz:(d.toList == [48])=dz) (hd1:(d.toList == [49])=d1) (hg1:(G.toList == [49])=g1)
 (hcase:(E=5 ∧ Rz=5) ∨ (E=2 ∧ D=5 ∧ Rz=5) ∨ (E=2 ∧ D=2 ∧ Rz=2) ∨ (E=2 ∧ D=0 ∧ Rz=2) ∨ (E=0 ∧ D=5 ∧ Rz=5) ∨ (E=0 ∧ D=2 ∧ Rz=2) ∨ (E=0 ∧ D=0 ∧ dz=true ∧ Rz=3) ∨ (E=0 ∧ D=0 ∧ dz=false ∧ d1=true ∧ Rz=3) ∨ (E=0 ∧ D=0 ∧ dz=false ∧ d1=false ∧ g1=false ∧ Rz=3) ∨ (E=0 ∧ D=0 ∧ dz=false ∧ d1=false ∧ g1=true ∧ Rz=0)) :
 Calls Tryz.prog 96 #[.string s] w fun e w' => e=.returned (.int .i64 Rz) ∧ Ext w w':=by
 have hst:(s.size:Int) ≤ 9223372036854775806:=by omega
 have hs0:(0:Int) < (s.size:Int):=by omega
 have hbs:b.size ≤ 9223372036854775806:=by
  rw [hb]; exact hs
 have hbsi:(b.size:Int) ≤ 9223372036854775806:=by omega
 have hb45:((s[0].toNat:Int) == 45)=false:=by
  rw [beq_eq_false_iff_ne]
  intro e
  apply h45
  apply UInt8.toNat_inj.1
  have:(45:UInt8).toNat=45:=rfl
  omega
 subst hb
 have H47:=Lib.hid h47b
 clear h45 h47b
 rcases hcase with ⟨rfl,rfl⟩ | ⟨rfl,rfl,rfl⟩ | ⟨rfl,rfl,rfl⟩ | ⟨rfl,rfl,rfl⟩ | ⟨rfl,rfl,rfl⟩ | ⟨rfl,rfl,rfl⟩ | ⟨rfl,rfl,rfl,rfl⟩ | ⟨rfl,rfl,rfl,rfl,rfl⟩ | ⟨rfl,rfl,rfl,rfl,rfl,rfl⟩ | ⟨rfl,rfl,rfl,rfl,rfl,rfl⟩
 · clear HG
   go_enter Tryz.func96,Tryz.ntmps96
   go_wp2_with fail
   go_loopw [6,7,5,25] (fun nv dv mv iv wr => ∃ (i:Nat),i ≤ b.size ∧ iv=.int .i64 i ∧ Ext w wr ∧ ((i ≤ i0 ∧ nv=.string b ∧ dv=.string ⟨#[50]⟩ ∧ mv=.int .i64 1) ∨ (i0 < i ∧ nv=.string n ∧ dv=.string d ∧ mv=.int .i64 2))) (fun _ _ _ iv _ => b.size - (intOf iv).toNat)
   case atStart => exact ⟨0,Nat.zero_le _,rfl,Ext.refl _,.inl ⟨Nat.zero_le _,rfl,rfl,rfl⟩⟩
   case round =>
    obtain ⟨i,hi,rfl,X,hph⟩:=hrel
    rcases hph with ⟨hii,rfl,rfl,rfl⟩ | ⟨hii,rfl,rfl,rfl⟩
    · have hlt2:i < b.size:=by omega
      have hki:(i:Int) < (b.size:Int):=by omega
      by_cases heq:i=i0
      · subst heq
        have hbi:((b[i].toNat:Int) == 47)=true:=by rw [h47]; rfl
        have hk1:(i:Int) + 1 ≤ (b.size:Int):=by omega
        have hk2:(i:Int) ≤ (b.size:Int):=by omega
        have e5:((i:Int) + 1).toNat=i + 1:=by omega
        have w5:IntKind.i64.wrap ((i:Int) + 1)=(i:Int) + 1:=IntWalk.i64_in _ (by omega)
        go_wp2_with fail
        go_quiet (fail)
        go_wp2_with fail
        go_roundw
        case rel => exact ⟨i + 1,by omega,by go_num,X.drewN _,.inr ⟨by omega,by rw [← hn],by rw [← hd],rfl⟩⟩
        case measure => simp [intOf]; omega
      · have hne:=H47.out i hlt2 (by omega)
        have hbi:((b[i].toNat:Int) == 47)=false:=by
         rw [beq_eq_false_iff_ne]
         intro e
         apply hne
         apply UInt8.toNat_inj.1
         have:(47:UInt8).toNat=47:=rfl
         omega
        clear hne
        go_wp2_with fail
        go_roundw
        case rel => exact ⟨i + 1,by omega,by go_num,X,.inl ⟨by omega,rfl,rfl,rfl⟩⟩
        case measure => simp [intOf]; omega
    · by_cases hlt2:i < b.size
      · have hki:(i:Int) < (b.size:Int):=by omega
        obtain ⟨bb,hbb⟩:∃ bb,((b[i].toNat:Int) == 47)=bb:=⟨_,rfl⟩
        cases bb
        all_goals
         go_wp2_with fail
         go_roundw
         case rel => exact ⟨i + 1,by omega,by go_num,X,.inr ⟨by omega,rfl,rfl,rfl⟩⟩
         case measure => simp [intOf]; omega
      · have hki:(b.size:Int) ≤ (i:Int):=by omega
        clear hlt2
        go_wp2_with fail
        refine (HEN.out _).mono ?_
        rintro e w2 ⟨rfl,X2⟩
        go_wp2_with fail
        refine (HED.out _).mono ?_
        rintro e w3 ⟨rfl,X3⟩
        go_wp2_with fail
        go_ret
        exact ⟨rfl,(X.trans X2).trans X3⟩
 · clear HG
   go_enter Tryz.func96,Tryz.ntmps96
   go_wp2_with fail
   go_loopw [6,7,5,25] (fun nv dv mv iv wr => ∃ (i:Nat),i ≤ b.size ∧ iv=.int .i64 i ∧ Ext w wr ∧ ((i ≤ i0 ∧ nv=.string b ∧ dv=.string ⟨#[50]⟩ ∧ mv=.int .i64 1) ∨ (i0 < i ∧ nv=.string n ∧ dv=.string d ∧ mv=.int .i64 2))) (fun _ _ _ iv _ => b.size - (intOf iv).toNat)
   case atStart => exact ⟨0,Nat.zero_le _,rfl,Ext.refl _,.inl ⟨Nat.zero_le _,rfl,rfl,rfl⟩⟩
   case round =>
    obtain ⟨i,hi,rfl,X,hph⟩:=hrel
    rcases hph with ⟨hii,rfl,rfl,rfl⟩ | ⟨hii,rfl,rfl,rfl⟩
    · have hlt2:i < b.size:=by omega
      have hki:(i:Int) < (b.size:Int):=by omega
      by_cases heq:i=i0
      · subst heq
        have hbi:((b[i].toNat:Int) == 47)=true:=by rw [h47]; rfl
        have hk1:(i:Int) + 1 ≤ (b.size:Int):=by omega
        have hk2:(i:Int) ≤ (b.size:Int):=by omega
        have e5:((i:Int) + 1).toNat=i + 1:=by omega
        have w5:IntKind.i64.wrap ((i:Int) + 1)=(i:Int) + 1:=IntWalk.i64_in _ (by omega)
        go_wp2_with fail
        go_quiet (fail)
        go_wp2_with fail
        go_roundw
        case rel => exact ⟨i + 1,by omega,by go_num,X.drewN _,.inr ⟨by omega,by rw [← hn],by rw [← hd],rfl⟩⟩
        case measure => simp [intOf]; omega
      · have hne:=H47.out i hlt2 (by omega)
        have hbi:((b[i].toNat:Int) == 47)=false:=by
         rw [beq_eq_false_iff_ne]
         intro e
         apply hne
         apply UInt8.toNat_inj.1
         have:(47:UInt8).toNat=47:=rfl
         omega
        clear hne
        go_wp2_with fail
        go_roundw
        case rel => exact ⟨i + 1,by omega,by go_num,X,.inl ⟨by omega,rfl,rfl,rfl⟩⟩
        case measure => simp [intOf]; omega
    · by_cases hlt2:i < b.size
      · have hki:(i:Int) < (b.size:Int):=by omega
        obtain ⟨bb,hbb⟩:∃ bb,((b[i].toNat:Int) == 47)=bb:=⟨_,rfl⟩
        cases bb
        all_goals
         go_wp2_with fail
         go_roundw
         case rel => exact ⟨i + 1,by omega,by go_num,X,.inr ⟨by omega,rfl,rfl,rfl⟩⟩
         case measure => simp [intOf]; omega
      · have hki:(b.size:Int) ≤ (i:Int):=by omega
        clear hlt2
        go_wp2_with fail
        refine (HEN.out _).mono ?_
        rintro e w2 ⟨rfl,X2⟩
        go_wp2_with fail
        refine (HED.out _).mono ?_
        rintro e w3 ⟨rfl,X3⟩
        go_wp2_with fail
        go_ret
        exact ⟨rfl,(X.trans X2).trans X3⟩
 · clear HG
   go_enter Tryz.func96,Tryz.ntmps96
   go_wp2_with fail
   go_loopw [6,7,5,25] (fun nv dv mv iv wr => ∃ (i:Nat),i ≤ b.size ∧ iv=.int .i64 i ∧ Ext w wr ∧ ((i ≤ i0 ∧ nv=.string b ∧ dv=.string ⟨#[50]⟩ ∧ mv=.int .i64 1) ∨ (i0 < i ∧ nv=.string n ∧ dv=.string d ∧ mv=.int .i64 2))) (fun _ _ _ iv _ => b.size - (intOf iv).toNat)
   case atStart => exact ⟨0,Nat.zero_le _,rfl,Ext.refl _,.inl ⟨Nat.zero_le _,rfl,rfl,rfl⟩⟩
   case round =>
    obtain ⟨i,hi,rfl,X,hph⟩:=hrel
    rcases hph with ⟨hii,rfl,rfl,rfl⟩ | ⟨hii,rfl,rfl,rfl⟩
    · have hlt2:i < b.size:=by omega
      have hki:(i:Int) < (b.size:Int):=by omega
      by_cases heq:i=i0
      · subst heq
        have hbi:((b[i].toNat:Int) == 47)=true:=by rw [h47]; rfl
        have hk1:(i:Int) + 1 ≤ (b.size:Int):=by omega
        have hk2:(i:Int) ≤ (b.size:Int):=by omega
        have e5:((i:Int) + 1).toNat=i + 1:=by omega
        have w5:IntKind.i64.wrap ((i:Int) + 1)=(i:Int) + 1:=IntWalk.i64_in _ (by omega)
        go_wp2_with fail
        go_quiet (fail)
        go_wp2_with fail
        go_roundw
        case rel => exact ⟨i + 1,by omega,by go_num,X.drewN _,.inr ⟨by omega,by rw [← hn],by rw [← hd],rfl⟩⟩
        case measure => simp [intOf]; omega
      · have hne:=H47.out i hlt2 (by omega)
        have hbi:((b[i].toNat:Int) == 47)=false:=by
         rw [beq_eq_false_iff_ne]
         intro e
         apply hne
         apply UInt8.toNat_inj.1
         have:(47:UInt8).toNat=47:=rfl
         omega
        clear hne
        go_wp2_with fail
        go_roundw
        case rel => exact ⟨i + 1,by omega,by go_num,X,.inl ⟨by omega,rfl,rfl,rfl⟩⟩
        case measure => simp [intOf]; omega
    · by_cases hlt2:i < b.size
      · have hki:(i:Int) < (b.size:Int):=by omega
        obtain ⟨bb,hbb⟩:∃ bb,((b[i].toNat:Int) == 47)=bb:=⟨_,rfl⟩
        cases bb
        all_goals
         go_wp2_with fail
         go_roundw
         case rel => exact ⟨i + 1,by omega,by go_num,X,.inr ⟨by omega,rfl,rfl,rfl⟩⟩
         case measure => simp [intOf]; omega
      · have hki:(b.size:Int) ≤ (i:Int):=by omega
        clear hlt2
        go_wp2_with fail
        refine (HEN.out _).mono ?_
        rintro e w2 ⟨rfl,X2⟩
        go_wp2_with fail
        refine (HED.out _).mono ?_
        rintro e w3 ⟨rfl,X3⟩
        go_wp2_with fail
        go_ret
        exact ⟨rfl,(X.trans X2).trans X3⟩
 · clear HG
   go_enter Tryz.func96,Tryz.ntmps96
   go_wp2_with fail
   go_loopw [6,7,5,25] (fun nv dv mv iv wr => ∃ (i:Nat),i ≤ b.size ∧ iv=.int .i64 i ∧ Ext w wr ∧ ((i ≤ i0 ∧ nv=.string b ∧ dv=.string ⟨#[50]⟩ ∧ mv=.int .i64 1) ∨ (i0 < i ∧ nv=.string n ∧ dv=.string d ∧ mv=.int .i64 2))) (fun _ _ _ iv _ => b.size - (intOf iv).toNat)
   case atStart => exact ⟨0,Nat.zero_le _,rfl,Ext.refl _,.inl ⟨Nat.zero_le _,rfl,rfl,rfl⟩⟩
   case round =>
    obtain ⟨i,hi,rfl,X,hph⟩:=hrel
    rcases hph with ⟨hii,rfl,rfl,rfl⟩ | ⟨hii,rfl,rfl,rfl⟩
    · have hlt2:i < b.size:=by omega
      have hki:(i:Int) < (b.size:Int):=by omega
      by_cases heq:i=i0
      · subst heq
        have hbi:((b[i].toNat:Int) == 47)=true:=by rw [h47]; rfl
        have hk1:(i:Int) + 1 ≤ (b.size:Int):=by omega
        have hk2:(i:Int) ≤ (b.size:Int):=by omega
        have e5:((i:Int) + 1).toNat=i + 1:=by omega
        have w5:IntKind.i64.wrap ((i:Int) + 1)=(i:Int) + 1:=IntWalk.i64_in _ (by omega)
        go_wp2_with fail
        go_quiet (fail)
        go_wp2_with fail
        go_roundw
        case rel => exact ⟨i + 1,by omega,by go_num,X.drewN _,.inr ⟨by omega,by rw [← hn],by rw [← hd],rfl⟩⟩
        case measure => simp [intOf]; omega
      · have hne:=H47.out i hlt2 (by omega)
        have hbi:((b[i].toNat:Int) == 47)=false:=by
         rw [beq_eq_false_iff_ne]
         intro e
         apply hne
         apply UInt8.toNat_inj.1
         have:(47:UInt8).toNat=47:=rfl
         omega
        clear hne
        go_wp2_with fail
        go_roundw
        case rel => exact ⟨i + 1,by omega,by go_num,X,.inl ⟨by omega,rfl,rfl,rfl⟩⟩
        case measure => simp [intOf]; omega
    · by_cases hlt2:i < b.size
      · have hki:(i:Int) < (b.size:Int):=by omega
        obtain ⟨bb,hbb⟩:∃ bb,((b[i].toNat:Int) == 47)=bb:=⟨_,rfl⟩
        cases bb
        all_goals
         go_wp2_with fail
         go_roundw
         case rel => exact ⟨i + 1,by omega,by go_num,X,.inr ⟨by omega,rfl,rfl,rfl⟩⟩
         case measure => simp [intOf]; omega
      · have hki:(b.size:Int) ≤ (i:Int):=by omega
        clear hlt2
        go_wp2_with fail
        refine (HEN.out _).mono ?_
        rintro e w2 ⟨rfl,X2⟩
        go_wp2_with fail
        refine (HED.out _).mono ?_
        rintro e w3 ⟨rfl,X3⟩
        go_wp2_with fail
        go_ret
        exact ⟨rfl,(X.trans X2).trans X3⟩
 · clear HG
   go_enter Tryz.func96,Tryz.ntmps96
   go_wp2_with fail
   go_loopw [6,7,5,25] (fun nv dv mv iv wr => ∃ (i:Nat),i ≤ b.size ∧ iv=.int .i64 i ∧ Ext w wr ∧ ((i ≤ i0 ∧ nv=.string b ∧ dv=.string ⟨#[50]⟩ ∧ mv=.int .i64 1) ∨ (i0 < i ∧ nv=.string n ∧ dv=.string d ∧ mv=.int .i64 2))) (fun _ _ _ iv _ => b.size - (intOf iv).toNat)
   case atStart => exact ⟨0,Nat.zero_le _,rfl,Ext.refl _,.inl ⟨Nat.zero_le _,rfl,rfl,rfl⟩⟩
   case round =>
    obtain ⟨i,hi,rfl,X,hph⟩:=hrel
    rcases hph with ⟨hii,rfl,rfl,rfl⟩ | ⟨hii,rfl,rfl,rfl⟩
    · have hlt2:i < b.size:=by omega
      have hki:(i:Int) < (b.size:Int):=by omega
      by_cases heq:i=i0
      · subst heq
        have hbi:((b[i].toNat:Int) == 47)=true:=by rw [h47]; rfl
        have hk1:(i:Int) + 1 ≤ (b.size:Int):=by omega
        have hk2:(i:Int) ≤ (b.size:Int):=by omega
        have e5:((i:Int) + 1).toNat=i + 1:=by omega
        have w5:IntKind.i64.wrap ((i:Int) + 1)=(i:Int) + 1:=IntWalk.i64_in _ (by omega)
        go_wp2_with fail
        go_quiet (fail)
        go_wp2_with fail
        go_roundw
        case rel => exact ⟨i + 1,by omega,by go_num,X.drewN _,.inr ⟨by omega,by rw [← hn],by rw [← hd],rfl⟩⟩
        case measure => simp [intOf]; omega
      · have hne:=H47.out i hlt2 (by omega)
        have hbi:((b[i].toNat:Int) == 47)=false:=by
         rw [beq_eq_false_iff_ne]
         intro e
         apply hne
         apply UInt8.toNat_inj.1
         have:(47:UInt8).toNat=47:=rfl
         omega
        clear hne
        go_wp2_with fail
        go_roundw
        case rel => exact ⟨i + 1,by omega,by go_num,X,.inl ⟨by omega,rfl,rfl,rfl⟩⟩
        case measure => simp [intOf]; omega
    · by_cases hlt2:i < b.size
      · have hki:(i:Int) < (b.size:Int):=by omega
        obtain ⟨bb,hbb⟩:∃ bb,((b[i].toNat:Int) == 47)=bb:=⟨_,rfl⟩
        cases bb
        all_goals
         go_wp2_with fail
         go_roundw
         case rel => exact ⟨i + 1,by omega,by go_num,X,.inr ⟨by omega,rfl,rfl,rfl⟩⟩
         case measure => simp [intOf]; omega
      · have hki:(b.size:Int) ≤ (i:Int):=by omega
        clear hlt2
        go_wp2_with fail
        refine (HEN.out _).mono ?_
        rintro e w2 ⟨rfl,X2⟩
        go_wp2_with fail
        refine (HED.out _).mono ?_
        rintro e w3 ⟨rfl,X3⟩
        go_wp2_with fail
        go_ret
        exact ⟨rfl,(X.trans X2).trans X3⟩
 · clear HG
   go_enter Tryz.func96,Tryz.ntmps96
   go_wp2_with fail
   go_loopw [6,7,5,25] (fun nv dv mv iv wr => ∃ (i:Nat),i ≤ b.size ∧ iv=.int .i64 i ∧ Ext w wr ∧ ((i ≤ i0 ∧ nv=.string b ∧ dv=.string ⟨#[50]⟩ ∧ mv=.int .i64 1) ∨ (i0 < i ∧ nv=.string n ∧ dv=.string d ∧ mv=.int .i64 2))) (fun _ _ _ iv _ => b.size - (intOf iv).toNat)
   case atStart => exact ⟨0,Nat.zero_le _,rfl,Ext.refl _,.inl ⟨Nat.zero_le _,rfl,rfl,rfl⟩⟩
   case round =>
    obtain ⟨i,hi,rfl,X,hph⟩:=hrel
    rcases hph with ⟨hii,rfl,rfl,rfl⟩ | ⟨hii,rfl,rfl,rfl⟩
    · have hlt2:i < b.size:=by omega
      have hki:(i:Int) < (b.size:Int):=by omega
      by_cases heq:i=i0
      · subst heq
        have hbi:((b[i].toNat:Int) == 47)=true:=by rw [h47]; rfl
        have hk1:(i:Int) + 1 ≤ (b.size:Int):=by omega
        have hk2:(i:Int) ≤ (b.size:Int):=by omega
        have e5:((i:Int) + 1).toNat=i + 1:=by omega
        have w5:IntKind.i64.wrap ((i:Int) + 1)=(i:Int) + 1:=IntWalk.i64_in _ (by omega)
        go_wp2_with fail
        go_quiet (fail)
        go_wp2_with fail
        go_roundw
        case rel => exact ⟨i + 1,by omega,by go_num,X.drewN _,.inr ⟨by omega,by rw [← hn],by rw [← hd],rfl⟩⟩
        case measure => simp [intOf]; omega
      · have hne:=H47.out i hlt2 (by omega)
        have hbi:((b[i].toNat:Int) == 47)=false:=by
         rw [beq_eq_false_iff_ne]
         intro e
         apply hne
         apply UInt8.toNat_inj.1
         have:(47:UInt8).toNat=47:=rfl
         omega
        clear hne
        go_wp2_with fail
        go_roundw
        case rel => exact ⟨i + 1,by omega,by go_num,X,.inl ⟨by omega,rfl,rfl,rfl⟩⟩
        case measure => simp [intOf]; omega
    · by_cases hlt2:i < b.size
      · have hki:(i:Int) < (b.size:Int):=by omega
        obtain ⟨bb,hbb⟩:∃ bb,((b[i].toNat:Int) == 47)=bb:=⟨_,rfl⟩
        cases bb
        all_goals
         go_wp2_with fail
         go_roundw
         case rel => exact ⟨i + 1,by omega,by go_num,X,.inr ⟨by omega,rfl,rfl,rfl⟩⟩
         case measure => simp [intOf]; omega
      · have hki:(b.size:Int) ≤ (i:Int):=by omega
        clear hlt2
        go_wp2_with fail
        refine (HEN.out _).mono ?_
        rintro e w2 ⟨rfl,X2⟩
        go_wp2_with fail
        refine (HED.out _).mono ?_
        rintro e w3 ⟨rfl,X3⟩
        go_wp2_with fail
        go_ret
        exact ⟨rfl,(X.trans X2).trans X3⟩
 · clear HG
   go_enter Tryz.func96,Tryz.ntmps96
   go_wp2_with fail
   go_loopw [6,7,5,25] (fun nv dv mv iv wr => ∃ (i:Nat),i ≤ b.size ∧ iv=.int .i64 i ∧ Ext w wr ∧ ((i ≤ i0 ∧ nv=.string b ∧ dv=.string ⟨#[50]⟩ ∧ mv=.int .i64 1) ∨ (i0 < i ∧ nv=.string n ∧ dv=.string d ∧ mv=.int .i64 2))) (fun _ _ _ iv _ => b.size - (intOf iv).toNat)
   case atStart => exact ⟨0,Nat.zero_le _,rfl,Ext.refl _,.inl ⟨Nat.zero_le _,rfl,rfl,rfl⟩⟩
   case round =>
    obtain ⟨i,hi,rfl,X,hph⟩:=hrel
    rcases hph with ⟨hii,rfl,rfl,rfl⟩ | ⟨hii,rfl,rfl,rfl⟩
    · have hlt2:i < b.size:=by omega
      have hki:(i:Int) < (b.size:Int):=by omega
      by_cases heq:i=i0
      · subst heq
        have hbi:((b[i].toNat:Int) == 47)=true:=by rw [h47]; rfl
        have hk1:(i:Int) + 1 ≤ (b.size:Int):=by omega
        have hk2:(i:Int) ≤ (b.size:Int):=by omega
        have e5:((i:Int) + 1).toNat=i + 1:=by omega
        have w5:IntKind.i64.wrap ((i:Int) + 1)=(i:Int) + 1:=IntWalk.i64_in _ (by omega)
        go_wp2_with fail
        go_quiet (fail)
        go_wp2_with fail
        go_roundw
        case rel => exact ⟨i + 1,by omega,by go_num,X.drewN _,.inr ⟨by omega,by rw [← hn],by rw [← hd],rfl⟩⟩
        case measure => simp [intOf]; omega
      · have hne:=H47.out i hlt2 (by omega)
        have hbi:((b[i].toNat:Int) == 47)=false:=by
         rw [beq_eq_false_iff_ne]
         intro e
         apply hne
         apply UInt8.toNat_inj.1
         have:(47:UInt8).toNat=47:=rfl
         omega
        clear hne
        go_wp2_with fail
        go_roundw
        case rel => exact ⟨i + 1,by omega,by go_num,X,.inl ⟨by omega,rfl,rfl,rfl⟩⟩
        case measure => simp [intOf]; omega
    · by_cases hlt2:i < b.size
      · have hki:(i:Int) < (b.size:Int):=by omega
        obtain ⟨bb,hbb⟩:∃ bb,((b[i].toNat:Int) == 47)=bb:=⟨_,rfl⟩
        cases bb
        all_goals
         go_wp2_with fail
         go_roundw
         case rel => exact ⟨i + 1,by omega,by go_num,X,.inr ⟨by omega,rfl,rfl,rfl⟩⟩
         case measure => simp [intOf]; omega
      · have hki:(b.size:Int) ≤ (i:Int):=by omega
        clear hlt2
        go_wp2_with fail
        refine (HEN.out _).mono ?_
        rintro e w2 ⟨rfl,X2⟩
        go_wp2_with fail
        refine (HED.out _).mono ?_
        rintro e w3 ⟨rfl,X3⟩
        go_wp2_with fail
        go_ret
        exact ⟨rfl,(X.trans X2).trans X3⟩
 · clear HG
   go_enter Tryz.func96,Tryz.ntmps96
   go_wp2_with fail
   go_loopw [6,7,5,25] (fun nv dv mv iv wr => ∃ (i:Nat),i ≤ b.size ∧ iv=.int .i64 i ∧ Ext w wr ∧ ((i ≤ i0 ∧ nv=.string b ∧ dv=.string ⟨#[50]⟩ ∧ mv=.int .i64 1) ∨ (i0 < i ∧ nv=.string n ∧ dv=.string d ∧ mv=.int .i64 2))) (fun _ _ _ iv _ => b.size - (intOf iv).toNat)
   case atStart => exact ⟨0,Nat.zero_le _,rfl,Ext.refl _,.inl ⟨Nat.zero_le _,rfl,rfl,rfl⟩⟩
   case round =>
    obtain ⟨i,hi,rfl,X,hph⟩:=hrel
    rcases hph with ⟨hii,rfl,rfl,rfl⟩ | ⟨hii,rfl,rfl,rfl⟩
    · have hlt2:i < b.size:=by omega
      have hki:(i:Int) < (b.size:Int):=by omega
      by_cases heq:i=i0
      · subst heq
        have hbi:((b[i].toNat:Int) == 47)=true:=by rw [h47]; rfl
        have hk1:(i:Int) + 1 ≤ (b.size:Int):=by omega
        have hk2:(i:Int) ≤ (b.size:Int):=by omega
        have e5:((i:Int) + 1).toNat=i + 1:=by omega
        have w5:IntKind.i64.wrap ((i:Int) + 1)=(i:Int) + 1:=IntWalk.i64_in _ (by omega)
        go_wp2_with fail
        go_quiet (fail)
        go_wp2_with fail
        go_roundw
        case rel => exact ⟨i + 1,by omega,by go_num,X.drewN _,.inr ⟨by omega,by rw [← hn],by rw [← hd],rfl⟩⟩
        case measure => simp [intOf]; omega
      · have hne:=H47.out i hlt2 (by omega)
        have hbi:((b[i].toNat:Int) == 47)=false:=by
         rw [beq_eq_false_iff_ne]
         intro e
         apply hne
         apply UInt8.toNat_inj.1
         have:(47:UInt8).toNat=47:=rfl
         omega
        clear hne
        go_wp2_with fail
        go_roundw
        case rel => exact ⟨i + 1,by omega,by go_num,X,.inl ⟨by omega,rfl,rfl,rfl⟩⟩
        case measure => simp [intOf]; omega
    · by_cases hlt2:i < b.size
      · have hki:(i:Int) < (b.size:Int):=by omega
        obtain ⟨bb,hbb⟩:∃ bb,((b[i].toNat:Int) == 47)=bb:=⟨_,rfl⟩
        cases bb
        all_goals
         go_wp2_with fail
         go_roundw
         case rel => exact ⟨i + 1,by omega,by go_num,X,.inr ⟨by omega,rfl,rfl,rfl⟩⟩
         case measure => simp [intOf]; omega
      · have hki:(b.size:Int) ≤ (i:Int):=by omega
        clear hlt2
        go_wp2_with fail
        refine (HEN.out _).mono ?_
        rintro e w2 ⟨rfl,X2⟩
        go_wp2_with fail
        refine (HED.out _).mono ?_
        rintro e w3 ⟨rfl,X3⟩
        go_wp2_with fail
        go_ret
        exact ⟨rfl,(X.trans X2).trans X3⟩
 · have HG2:=Lib.hid (HG.out rfl rfl)
   clear HG
   go_enter Tryz.func96,Tryz.ntmps96
   go_wp2_with fail
   go_loopw [6,7,5,25] (fun nv dv mv iv wr => ∃ (i:Nat),i ≤ b.size ∧ iv=.int .i64 i ∧ Ext w wr ∧ ((i ≤ i0 ∧ nv=.string b ∧ dv=.string ⟨#[50]⟩ ∧ mv=.int .i64 1) ∨ (i0 < i ∧ nv=.string n ∧ dv=.string d ∧ mv=.int .i64 2))) (fun _ _ _ iv _ => b.size - (intOf iv).toNat)
   case atStart => exact ⟨0,Nat.zero_le _,rfl,Ext.refl _,.inl ⟨Nat.zero_le _,rfl,rfl,rfl⟩⟩
   case round =>
    obtain ⟨i,hi,rfl,X,hph⟩:=hrel
    rcases hph with ⟨hii,rfl,rfl,rfl⟩ | ⟨hii,rfl,rfl,rfl⟩
    · have hlt2:i < b.size:=by omega
      have hki:(i:Int) < (b.size:Int):=by omega
      by_cases heq:i=i0
      · subst heq
        have hbi:((b[i].toNat:Int) == 47)=true:=by rw [h47]; rfl
        have hk1:(i:Int) + 1 ≤ (b.size:Int):=by omega
        have hk2:(i:Int) ≤ (b.size:Int):=by omega
        have e5:((i:Int) + 1).toNat=i + 1:=by omega
        have w5:IntKind.i64.wrap ((i:Int) + 1)=(i:Int) + 1:=IntWalk.i64_in _ (by omega)
        go_wp2_with fail
        go_quiet (fail)
        go_wp2_with fail
        go_roundw
        case rel => exact ⟨i + 1,by omega,by go_num,X.drewN _,.inr ⟨by omega,by rw [← hn],by rw [← hd],rfl⟩⟩
        case measure => simp [intOf]; omega
      · have hne:=H47.out i hlt2 (by omega)
        have hbi:((b[i].toNat:Int) == 47)=false:=by
         rw [beq_eq_false_iff_ne]
         intro e
         apply hne
         apply UInt8.toNat_inj.1
         have:(47:UInt8).toNat=47:=rfl
         omega
        clear hne
        go_wp2_with fail
        go_roundw
        case rel => exact ⟨i + 1,by omega,by go_num,X,.inl ⟨by omega,rfl,rfl,rfl⟩⟩
        case measure => simp [intOf]; omega
    · by_cases hlt2:i < b.size
      · have hki:(i:Int) < (b.size:Int):=by omega
        obtain ⟨bb,hbb⟩:∃ bb,((b[i].toNat:Int) == 47)=bb:=⟨_,rfl⟩
        cases bb
        all_goals
         go_wp2_with fail
         go_roundw
         case rel => exact ⟨i + 1,by omega,by go_num,X,.inr ⟨by omega,rfl,rfl,rfl⟩⟩
         case measure => simp [intOf]; omega
      · have hki:(b.size:Int) ≤ (i:Int):=by omega
        clear hlt2
        go_wp2_with fail
        refine (HEN.out _).mono ?_
        rintro e w2 ⟨rfl,X2⟩
        go_wp2_with fail
        refine (HED.out _).mono ?_
        rintro e w3 ⟨rfl,X3⟩
        go_wp2_with fail
        refine (HG2.out _).mono ?_
        rintro e w4 ⟨rfl,X4⟩
        go_wp2_with fail
        go_ret
        exact ⟨rfl,((X.trans X2).trans X3).trans X4⟩
 · have HG2:=Lib.hid (HG.out rfl rfl)
   clear HG
   go_enter Tryz.func96,Tryz.ntmps96
   go_wp2_with fail
   go_loopw [6,7,5,25] (fun nv dv mv iv wr => ∃ (i:Nat),i ≤ b.size ∧ iv=.int .i64 i ∧ Ext w wr ∧ ((i ≤ i0 ∧ nv=.string b ∧ dv=.string ⟨#[50]⟩ ∧ mv=.int .i64 1) ∨ (i0 < i ∧ nv=.string n ∧ dv=.string d ∧ mv=.int .i64 2))) (fun _ _ _ iv _ => b.size - (intOf iv).toNat)
   case atStart => exact ⟨0,Nat.zero_le _,rfl,Ext.refl _,.inl ⟨Nat.zero_le _,rfl,rfl,rfl⟩⟩
   case round =>
    obtain ⟨i,hi,rfl,X,hph⟩:=hrel
    rcases hph with ⟨hii,rfl,rfl,rfl⟩ | ⟨hii,rfl,rfl,rfl⟩
    · have hlt2:i < b.size:=by omega
      have hki:(i:Int) < (b.size:Int):=by omega
      by_cases heq:i=i0
      · subst heq
        have hbi:((b[i].toNat:Int) == 47)=true:=by rw [h47]; rfl
        have hk1:(i:Int) + 1 ≤ (b.size:Int):=by omega
        have hk2:(i:Int) ≤ (b.size:Int):=by omega
        have e5:((i:Int) + 1).toNat=i + 1:=by omega
        have w5:IntKind.i64.wrap ((i:Int) + 1)=(i:Int) + 1:=IntWalk.i64_in _ (by omega)
        go_wp2_with fail
        go_quiet (fail)
        go_wp2_with fail
        go_roundw
        case rel => exact ⟨i + 1,by omega,by go_num,X.drewN _,.inr ⟨by omega,by rw [← hn],by rw [← hd],rfl⟩⟩
        case measure => simp [intOf]; omega
      · have hne:=H47.out i hlt2 (by omega)
        have hbi:((b[i].toNat:Int) == 47)=false:=by
         rw [beq_eq_false_iff_ne]
         intro e
         apply hne
         apply UInt8.toNat_inj.1
         have:(47:UInt8).toNat=47:=rfl
         omega
        clear hne
        go_wp2_with fail
        go_roundw
        case rel => exact ⟨i + 1,by omega,by go_num,X,.inl ⟨by omega,rfl,rfl,rfl⟩⟩
        case measure => simp [intOf]; omega
    · by_cases hlt2:i < b.size
      · have hki:(i:Int) < (b.size:Int):=by omega
        obtain ⟨bb,hbb⟩:∃ bb,((b[i].toNat:Int) == 47)=bb:=⟨_,rfl⟩
        cases bb
        all_goals
         go_wp2_with fail
         go_roundw
         case rel => exact ⟨i + 1,by omega,by go_num,X,.inr ⟨by omega,rfl,rfl,rfl⟩⟩
         case measure => simp [intOf]; omega
      · have hki:(b.size:Int) ≤ (i:Int):=by omega
        clear hlt2
        go_wp2_with fail
        refine (HEN.out _).mono ?_
        rintro e w2 ⟨rfl,X2⟩
        go_wp2_with fail
        refine (HED.out _).mono ?_
        rintro e w3 ⟨rfl,X3⟩
        go_wp2_with fail
        refine (HG2.out _).mono ?_
        rintro e w4 ⟨rfl,X4⟩
        go_wp2_with fail
        go_ret
        exact ⟨rfl,((X.trans X2).trans X3).trans X4⟩
set_option maxHeartbeats 3200000 in
set_option maxRecDepth 100000 in
theorem rerr_neg_miss (s b n d:ByteArray) (E D Rz:Int) (nz dz d1 g1:Bool) (G:ByteArray) (w:World) (hs:s.size ≤ 9223372036854775806)
 (hlt:0 < s.size) (h45:s[0]=45) (hb:s.extract 1 s.size=b) (h47b:∀ k (h:k < b.size),b[k] ≠ 47) (hn:n=b) (hd:d=⟨#[50]⟩)
 (HEN:Hid (∀ W,Calls Tryz.prog 136 #[.string n] W fun e w' => e=.returned (.int .i64 E) ∧ Ext W w'))
 (HED:Hid (∀ W,Calls Tryz.prog 136 #[.string d] W fun e w' => e=.returned (.int .i64 D) ∧ Ext W w'))
 (HG:Hid (E=0 → D=0 → ∀ W,Calls Tryz.prog 114 #[.string n,.string d] W fun e w' => e=.returned (.string G) ∧ Ext W w'))
 (hnz:(n.toList == [48])=nz) (hdz:(d.toList == [48])=dz) (hd1:(d.toList == [49])=d1) (hg1:(G.toList == [49])=g1)
 (hcase:(E=5 ∧ Rz=5) ∨ (E=2 ∧ D=0 ∧ nz=true ∧ Rz=5) ∨ (E=2 ∧ D=0 ∧ nz=false ∧ Rz=2) ∨ (E=0 ∧ D=0 ∧ nz=true ∧ Rz=5) ∨ (E=0 ∧ D=0 ∧ nz=false ∧ Rz=0)) :
 Calls Tryz.prog 96 #[.string s] w fun e w' => e=.returned (.int .i64 Rz) ∧ Ext w w':=by
 have hst:(s.size:Int) ≤ 9223372036854775806:=by omega
 have hs0:(0:Int) < (s.size:Int):=by omega
 have hbs:b.size ≤ 9223372036854775806:=by
  rw [← hb,ByteArray.size_extract]; omega
 have hbsi:(b.size:Int) ≤ 9223372036854775806:=by omega
 have hb45:((s[0].toNat:Int) == 45)=true:=by rw [h45]; rfl
 have hs1:(1:Int) ≤ (s.size:Int):=by omega
 subst hn
 subst hd
 have H47:=Lib.hid h47b
 clear h45 h47b
 rcases hcase with ⟨rfl,rfl⟩ | ⟨rfl,rfl,rfl,rfl⟩ | ⟨rfl,rfl,rfl,rfl⟩ | ⟨rfl,rfl,rfl,rfl⟩ | ⟨rfl,rfl,rfl,rfl⟩
 · clear HG
   go_enter Tryz.func96,Tryz.ntmps96
   go_wp2_with fail
   go_loopw [6,7,5,25] (fun nv dv mv iv wr => ∃ (i:Nat),i ≤ n.size ∧ iv=.int .i64 i ∧ Ext w wr ∧ nv=.string n ∧ dv=.string ⟨#[50]⟩ ∧ mv=.int .i64 1) (fun _ _ _ iv _ => n.size - (intOf iv).toNat)
   case atStart => exact ⟨0,Nat.zero_le _,rfl,Ext.refl _,rfl,rfl,rfl⟩
   case round =>
    obtain ⟨i,hi,rfl,X,rfl,rfl,rfl⟩:=hrel
    by_cases hlt2:i < n.size
    · have hne:=H47.out i hlt2
      have hbi:((n[i].toNat:Int) == 47)=false:=by
       rw [beq_eq_false_iff_ne]
       intro e
       apply hne
       apply UInt8.toNat_inj.1
       have:(47:UInt8).toNat=47:=rfl
       omega
      have hki:(i:Int) < (n.size:Int):=by omega
      clear hne
      go_wp2_with fail
      go_roundw
      case rel => exact ⟨i + 1,by omega,by go_num,X,rfl,rfl,rfl⟩
      case measure => simp [intOf]; omega
    · have hki:(n.size:Int) ≤ (i:Int):=by omega
      clear hlt2
      go_wp2_with fail
      refine (HEN.out _).mono ?_
      rintro e w2 ⟨rfl,X2⟩
      go_wp2_with fail
      refine (HED.out _).mono ?_
      rintro e w3 ⟨rfl,X3⟩
      go_wp2_with fail
      go_ret
      exact ⟨rfl,(X.trans X2).trans X3⟩
 · clear HG
   go_enter Tryz.func96,Tryz.ntmps96
   go_wp2_with fail
   go_loopw [6,7,5,25] (fun nv dv mv iv wr => ∃ (i:Nat),i ≤ n.size ∧ iv=.int .i64 i ∧ Ext w wr ∧ nv=.string n ∧ dv=.string ⟨#[50]⟩ ∧ mv=.int .i64 1) (fun _ _ _ iv _ => n.size - (intOf iv).toNat)
   case atStart => exact ⟨0,Nat.zero_le _,rfl,Ext.refl _,rfl,rfl,rfl⟩
   case round =>
    obtain ⟨i,hi,rfl,X,rfl,rfl,rfl⟩:=hrel
    by_cases hlt2:i < n.size
    · have hne:=H47.out i hlt2
      have hbi:((n[i].toNat:Int) == 47)=false:=by
       rw [beq_eq_false_iff_ne]
       intro e
       apply hne
       apply UInt8.toNat_inj.1
       have:(47:UInt8).toNat=47:=rfl
       omega
      have hki:(i:Int) < (n.size:Int):=by omega
      clear hne
      go_wp2_with fail
      go_roundw
      case rel => exact ⟨i + 1,by omega,by go_num,X,rfl,rfl,rfl⟩
      case measure => simp [intOf]; omega
    · have hki:(n.size:Int) ≤ (i:Int):=by omega
      clear hlt2
      go_wp2_with fail
      refine (HEN.out _).mono ?_
      rintro e w2 ⟨rfl,X2⟩
      go_wp2_with fail
      refine (HED.out _).mono ?_
      rintro e w3 ⟨rfl,X3⟩
      go_wp2_with fail
      go_ret
      exact ⟨rfl,(X.trans X2).trans X3⟩
 · clear HG
   go_enter Tryz.func96,Tryz.ntmps96
   go_wp2_with fail
   go_loopw [6,7,5,25] (fun nv dv mv iv wr => ∃ (i:Nat),i ≤ n.size ∧ iv=.int .i64 i ∧ Ext w wr ∧ nv=.string n ∧ dv=.string ⟨#[50]⟩ ∧ mv=.int .i64 1) (fun _ _ _ iv _ => n.size - (intOf iv).toNat)
   case atStart => exact ⟨0,Nat.zero_le _,rfl,Ext.refl _,rfl,rfl,rfl⟩
   case round =>
    obtain ⟨i,hi,rfl,X,rfl,rfl,rfl⟩:=hrel
    by_cases hlt2:i < n.size
    · have hne:=H47.out i hlt2
      have hbi:((n[i].toNat:Int) == 47)=false:=by
       rw [beq_eq_false_iff_ne]
       intro e
       apply hne
       apply UInt8.toNat_inj.1
       have:(47:UInt8).toNat=47:=rfl
       omega
      have hki:(i:Int) < (n.size:Int):=by omega
      clear hne
      go_wp2_with fail
      go_roundw
      case rel => exact ⟨i + 1,by omega,by go_num,X,rfl,rfl,rfl⟩
      case measure => simp [intOf]; omega
    · have hki:(n.size:Int) ≤ (i:Int):=by omega
      clear hlt2
      go_wp2_with fail
      refine (HEN.out _).mono ?_
      rintro e w2 ⟨rfl,X2⟩
      go_wp2_with fail
      refine (HED.out _).mono ?_
      rintro e w3 ⟨rfl,X3⟩
      go_wp2_with fail
      go_ret
      exact ⟨rfl,(X.trans X2).trans X3⟩
 · clear HG
   go_enter Tryz.func96,Tryz.ntmps96
   go_wp2_with fail
   go_loopw [6,7,5,25] (fun nv dv mv iv wr => ∃ (i:Nat),i ≤ n.size ∧ iv=.int .i64 i ∧ Ext w wr ∧ nv=.string n ∧ dv=.string ⟨#[50]⟩ ∧ mv=.int .i64 1) (fun _ _ _ iv _ => n.size - (intOf iv).toNat)
   case atStart => exact ⟨0,Nat.zero_le _,rfl,Ext.refl _,rfl,rfl,rfl⟩
   case round =>
    obtain ⟨i,hi,rfl,X,rfl,rfl,rfl⟩:=hrel
    by_cases hlt2:i < n.size
    · have hne:=H47.out i hlt2
      have hbi:((n[i].toNat:Int) == 47)=false:=by
       rw [beq_eq_false_iff_ne]
       intro e
       apply hne
       apply UInt8.toNat_inj.1
       have:(47:UInt8).toNat=47:=rfl
       omega
      have hki:(i:Int) < (n.size:Int):=by omega
      clear hne
      go_wp2_with fail
      go_roundw
      case rel => exact ⟨i + 1,by omega,by go_num,X,rfl,rfl,rfl⟩
      case measure => simp [intOf]; omega
    · have hki:(n.size:Int) ≤ (i:Int):=by omega
      clear hlt2
      go_wp2_with fail
      refine (HEN.out _).mono ?_
      rintro e w2 ⟨rfl,X2⟩
      go_wp2_with fail
      refine (HED.out _).mono ?_
      rintro e w3 ⟨rfl,X3⟩
      go_wp2_with fail
      go_ret
      exact ⟨rfl,(X.trans X2).trans X3⟩
 · clear HG
   go_enter Tryz.func96,Tryz.ntmps96
   go_wp2_with fail
   go_loopw [6,7,5,25] (fun nv dv mv iv wr => ∃ (i:Nat),i ≤ n.size ∧ iv=.int .i64 i ∧ Ext w wr ∧ nv=.string n ∧ dv=.string ⟨#[50]⟩ ∧ mv=.int .i64 1) (fun _ _ _ iv _ => n.size - (intOf iv).toNat)
   case atStart => exact ⟨0,Nat.zero_le _,rfl,Ext.refl _,rfl,rfl,rfl⟩
   case round =>
    obtain ⟨i,hi,rfl,X,rfl,rfl,rfl⟩:=hrel
    by_cases hlt2:i < n.size
    · have hne:=H47.out i hlt2
      have hbi:((n[i].toNat:Int) == 47)=false:=by
       rw [beq_eq_false_iff_ne]
       intro e
       apply hne
       apply UInt8.toNat_inj.1
       have:(47:UInt8).toNat=47:=rfl
       omega
      have hki:(i:Int) < (n.size:Int):=by omega
      clear hne
      go_wp2_with fail
      go_roundw
      case rel => exact ⟨i + 1,by omega,by go_num,X,rfl,rfl,rfl⟩
      case measure => simp [intOf]; omega
    · have hki:(n.size:Int) ≤ (i:Int):=by omega
      clear hlt2
      go_wp2_with fail
      refine (HEN.out _).mono ?_
      rintro e w2 ⟨rfl,X2⟩
      go_wp2_with fail
      refine (HED.out _).mono ?_
      rintro e w3 ⟨rfl,X3⟩
      go_wp2_with fail
      go_ret
      exact ⟨rfl,(X.trans X2).trans X3⟩
set_option maxHeartbeats 3200000 in
set_option maxRecDepth 100000 in
theorem rerr_neg_hit (s b n d:ByteArray) (E D Rz:Int) (nz dz d1 g1:Bool) (G:ByteArray) (i0:Nat) (w:World) (hs:s.size ≤ 9223372036854775806)
 (hlt:0 < s.size) (h45:s[0]=45) (hb:s.extract 1 s.size=b) (hi0:i0 < b.size) (h47:b[i0]=47) (h47b:∀ k (h:k < b.size),k < i0 → b[k] ≠ 47) (hn:b.extract 0 i0=n) (hd:b.extract (i0 + 1) b.size=d)
 (HEN:Hid (∀ W,Calls Tryz.prog 136 #[.string n] W fun e w' => e=.returned (.int .i64 E) ∧ Ext W w'))
 (HED:Hid (∀ W,Calls Tryz.prog 136 #[.string d] W fun e w' => e=.returned (.int .i64 D) ∧ Ext W w'))
 (HG:Hid (E=0 → D=0 → ∀ W,Calls Tryz.prog 114 #[.string n,.string d] W fun e w' => e=.returned (.string G) ∧ Ext W w'))
 (hnz:(n.toList == [48])=nz) (hdz:(d.toList == [48])=dz) (hd1:(d.toList == [49])=d1) (hg1:(G.toList == [49])=g1)
 (hcase:(E=5 ∧ Rz=5) ∨ (E=2 ∧ D=5 ∧ Rz=5) ∨ (E=2 ∧ D=2 ∧ nz=true ∧ Rz=5) ∨ (E=2 ∧ D=2 ∧ nz=false ∧ Rz=2) ∨ (E=2 ∧ D=0 ∧ nz=true ∧ Rz=5) ∨ (E=2 ∧ D=0 ∧ nz=false ∧ Rz=2) ∨ (E=0 ∧ D=5 ∧ Rz=5) ∨ (E=0 ∧ D=2 ∧ nz=true ∧ Rz=5) ∨ (E=0 ∧ D=2 ∧ nz=false ∧ Rz=2) ∨ (E=0 ∧ D=0 ∧ nz=true ∧ Rz=5) ∨ (E=0 ∧ D=0 ∧ nz=false ∧ dz=true ∧ Rz=3) ∨ (E=0 ∧ D=0 ∧ nz=false ∧ dz=false ∧ d1=true ∧ Rz=3) ∨ (E=0 ∧ D=0 ∧ nz=false ∧ dz=false ∧ d1=false ∧ g1=false ∧ Rz=3) ∨ (E=0 ∧ D=0 ∧ nz=false ∧ dz=false ∧ d1=false ∧ g1=true ∧ Rz=0)) :
 Calls Tryz.prog 96 #[.string s] w fun e w' => e=.returned (.int .i64 Rz) ∧ Ext w w':=by
 have hst:(s.size:Int) ≤ 9223372036854775806:=by omega
 have hs0:(0:Int) < (s.size:Int):=by omega
 have hbs:b.size ≤ 9223372036854775806:=by
  rw [← hb,ByteArray.size_extract]; omega
 have hbsi:(b.size:Int) ≤ 9223372036854775806:=by omega
 have hb45:((s[0].toNat:Int) == 45)=true:=by rw [h45]; rfl
 have hs1:(1:Int) ≤ (s.size:Int):=by omega
 have H47:=Lib.hid h47b
 clear h45 h47b
 rcases hcase with ⟨rfl,rfl⟩ | ⟨rfl,rfl,rfl⟩ | ⟨rfl,rfl,rfl,rfl⟩ | ⟨rfl,rfl,rfl,rfl⟩ | ⟨rfl,rfl,rfl,rfl⟩ | ⟨rfl,rfl,rfl,rfl⟩ | ⟨rfl,rfl,rfl⟩ | ⟨rfl,rfl,rfl,rfl⟩ | ⟨rfl,rfl,rfl,rfl⟩ | ⟨rfl,rfl,rfl,rfl⟩ | ⟨rfl,rfl,rfl,rfl,rfl⟩ | ⟨rfl,rfl,rfl,rfl,rfl,rfl⟩ | ⟨rfl,rfl,rfl,rfl,rfl,rfl,rfl⟩ | ⟨rfl,rfl,rfl,rfl,rfl,rfl,rfl⟩
 · clear HG
   go_enter Tryz.func96,Tryz.ntmps96
   go_wp2_with fail
   go_loopw [6,7,5,25] (fun nv dv mv iv wr => ∃ (i:Nat),i ≤ b.size ∧ iv=.int .i64 i ∧ Ext w wr ∧ ((i ≤ i0 ∧ nv=.string b ∧ dv=.string ⟨#[50]⟩ ∧ mv=.int .i64 1) ∨ (i0 < i ∧ nv=.string n ∧ dv=.string d ∧ mv=.int .i64 2))) (fun _ _ _ iv _ => b.size - (intOf iv).toNat)
   case atStart => exact ⟨0,Nat.zero_le _,rfl,Ext.refl _,.inl ⟨Nat.zero_le _,rfl,rfl,rfl⟩⟩
   case round =>
    obtain ⟨i,hi,rfl,X,hph⟩:=hrel
    rcases hph with ⟨hii,rfl,rfl,rfl⟩ | ⟨hii,rfl,rfl,rfl⟩
    · have hlt2:i < b.size:=by omega
      have hki:(i:Int) < (b.size:Int):=by omega
      by_cases heq:i=i0
      · subst heq
        have hbi:((b[i].toNat:Int) == 47)=true:=by rw [h47]; rfl
        have hk1:(i:Int) + 1 ≤ (b.size:Int):=by omega
        have hk2:(i:Int) ≤ (b.size:Int):=by omega
        have e5:((i:Int) + 1).toNat=i + 1:=by omega
        have w5:IntKind.i64.wrap ((i:Int) + 1)=(i:Int) + 1:=IntWalk.i64_in _ (by omega)
        go_wp2_with fail
        go_quiet (fail)
        go_wp2_with fail
        go_roundw
        case rel => exact ⟨i + 1,by omega,by go_num,X.drewN _,.inr ⟨by omega,by rw [← hn],by rw [← hd],rfl⟩⟩
        case measure => simp [intOf]; omega
      · have hne:=H47.out i hlt2 (by omega)
        have hbi:((b[i].toNat:Int) == 47)=false:=by
         rw [beq_eq_false_iff_ne]
         intro e
         apply hne
         apply UInt8.toNat_inj.1
         have:(47:UInt8).toNat=47:=rfl
         omega
        clear hne
        go_wp2_with fail
        go_roundw
        case rel => exact ⟨i + 1,by omega,by go_num,X,.inl ⟨by omega,rfl,rfl,rfl⟩⟩
        case measure => simp [intOf]; omega
    · by_cases hlt2:i < b.size
      · have hki:(i:Int) < (b.size:Int):=by omega
        obtain ⟨bb,hbb⟩:∃ bb,((b[i].toNat:Int) == 47)=bb:=⟨_,rfl⟩
        cases bb
        all_goals
         go_wp2_with fail
         go_roundw
         case rel => exact ⟨i + 1,by omega,by go_num,X,.inr ⟨by omega,rfl,rfl,rfl⟩⟩
         case measure => simp [intOf]; omega
      · have hki:(b.size:Int) ≤ (i:Int):=by omega
        clear hlt2
        go_wp2_with fail
        refine (HEN.out _).mono ?_
        rintro e w2 ⟨rfl,X2⟩
        go_wp2_with fail
        refine (HED.out _).mono ?_
        rintro e w3 ⟨rfl,X3⟩
        go_wp2_with fail
        go_ret
        exact ⟨rfl,(X.trans X2).trans X3⟩
 · clear HG
   go_enter Tryz.func96,Tryz.ntmps96
   go_wp2_with fail
   go_loopw [6,7,5,25] (fun nv dv mv iv wr => ∃ (i:Nat),i ≤ b.size ∧ iv=.int .i64 i ∧ Ext w wr ∧ ((i ≤ i0 ∧ nv=.string b ∧ dv=.string ⟨#[50]⟩ ∧ mv=.int .i64 1) ∨ (i0 < i ∧ nv=.string n ∧ dv=.string d ∧ mv=.int .i64 2))) (fun _ _ _ iv _ => b.size - (intOf iv).toNat)
   case atStart => exact ⟨0,Nat.zero_le _,rfl,Ext.refl _,.inl ⟨Nat.zero_le _,rfl,rfl,rfl⟩⟩
   case round =>
    obtain ⟨i,hi,rfl,X,hph⟩:=hrel
    rcases hph with ⟨hii,rfl,rfl,rfl⟩ | ⟨hii,rfl,rfl,rfl⟩
    · have hlt2:i < b.size:=by omega
      have hki:(i:Int) < (b.size:Int):=by omega
      by_cases heq:i=i0
      · subst heq
        have hbi:((b[i].toNat:Int) == 47)=true:=by rw [h47]; rfl
        have hk1:(i:Int) + 1 ≤ (b.size:Int):=by omega
        have hk2:(i:Int) ≤ (b.size:Int):=by omega
        have e5:((i:Int) + 1).toNat=i + 1:=by omega
        have w5:IntKind.i64.wrap ((i:Int) + 1)=(i:Int) + 1:=IntWalk.i64_in _ (by omega)
        go_wp2_with fail
        go_quiet (fail)
        go_wp2_with fail
        go_roundw
        case rel => exact ⟨i + 1,by omega,by go_num,X.drewN _,.inr ⟨by omega,by rw [← hn],by rw [← hd],rfl⟩⟩
        case measure => simp [intOf]; omega
      · have hne:=H47.out i hlt2 (by omega)
        have hbi:((b[i].toNat:Int) == 47)=false:=by
         rw [beq_eq_false_iff_ne]
         intro e
         apply hne
         apply UInt8.toNat_inj.1
         have:(47:UInt8).toNat=47:=rfl
         omega
        clear hne
        go_wp2_with fail
        go_roundw
        case rel => exact ⟨i + 1,by omega,by go_num,X,.inl ⟨by omega,rfl,rfl,rfl⟩⟩
        case measure => simp [intOf]; omega
    · by_cases hlt2:i < b.size
      · have hki:(i:Int) < (b.size:Int):=by omega
        obtain ⟨bb,hbb⟩:∃ bb,((b[i].toNat:Int) == 47)=bb:=⟨_,rfl⟩
        cases bb
        all_goals
         go_wp2_with fail
         go_roundw
         case rel => exact ⟨i + 1,by omega,by go_num,X,.inr ⟨by omega,rfl,rfl,rfl⟩⟩
         case measure => simp [intOf]; omega
      · have hki:(b.size:Int) ≤ (i:Int):=by omega
        clear hlt2
        go_wp2_with fail
        refine (HEN.out _).mono ?_
        rintro e w2 ⟨rfl,X2⟩
        go_wp2_with fail
        refine (HED.out _).mono ?_
        rintro e w3 ⟨rfl,X3⟩
        go_wp2_with fail
        go_ret
        exact ⟨rfl,(X.trans X2).trans X3⟩
 · clear HG
   go_enter Tryz.func96,Tryz.ntmps96
   go_wp2_with fail
   go_loopw [6,7,5,25] (fun nv dv mv iv wr => ∃ (i:Nat),i ≤ b.size ∧ iv=.int .i64 i ∧ Ext w wr ∧ ((i ≤ i0 ∧ nv=.string b ∧ dv=.string ⟨#[50]⟩ ∧ mv=.int .i64 1) ∨ (i0 < i ∧ nv=.string n ∧ dv=.string d ∧ mv=.int .i64 2))) (fun _ _ _ iv _ => b.size - (intOf iv).toNat)
   case atStart => exact ⟨0,Nat.zero_le _,rfl,Ext.refl _,.inl ⟨Nat.zero_le _,rfl,rfl,rfl⟩⟩
   case round =>
    obtain ⟨i,hi,rfl,X,hph⟩:=hrel
    rcases hph with ⟨hii,rfl,rfl,rfl⟩ | ⟨hii,rfl,rfl,rfl⟩
    · have hlt2:i < b.size:=by omega
      have hki:(i:Int) < (b.size:Int):=by omega
      by_cases heq:i=i0
      · subst heq
        have hbi:((b[i].toNat:Int) == 47)=true:=by rw [h47]; rfl
        have hk1:(i:Int) + 1 ≤ (b.size:Int):=by omega
        have hk2:(i:Int) ≤ (b.size:Int):=by omega
        have e5:((i:Int) + 1).toNat=i + 1:=by omega
        have w5:IntKind.i64.wrap ((i:Int) + 1)=(i:Int) + 1:=IntWalk.i64_in _ (by omega)
        go_wp2_with fail
        go_quiet (fail)
        go_wp2_with fail
        go_roundw
        case rel => exact ⟨i + 1,by omega,by go_num,X.drewN _,.inr ⟨by omega,by rw [← hn],by rw [← hd],rfl⟩⟩
        case measure => simp [intOf]; omega
      · have hne:=H47.out i hlt2 (by omega)
        have hbi:((b[i].toNat:Int) == 47)=false:=by
         rw [beq_eq_false_iff_ne]
         intro e
         apply hne
         apply UInt8.toNat_inj.1
         have:(47:UInt8).toNat=47:=rfl
         omega
        clear hne
        go_wp2_with fail
        go_roundw
        case rel => exact ⟨i + 1,by omega,by go_num,X,.inl ⟨by omega,rfl,rfl,rfl⟩⟩
        case measure => simp [intOf]; omega
    · by_cases hlt2:i < b.size
      · have hki:(i:Int) < (b.size:Int):=by omega
        obtain ⟨bb,hbb⟩:∃ bb,((b[i].toNat:Int) == 47)=bb:=⟨_,rfl⟩
        cases bb
        all_goals
         go_wp2_with fail
         go_roundw
         case rel => exact ⟨i + 1,by omega,by go_num,X,.inr ⟨by omega,rfl,rfl,rfl⟩⟩
         case measure => simp [intOf]; omega
      · have hki:(b.size:Int) ≤ (i:Int):=by omega
        clear hlt2
        go_wp2_with fail
        refine (HEN.out _).mono ?_
        rintro e w2 ⟨rfl,X2⟩
        go_wp2_with fail
        refine (HED.out _).mono ?_
        rintro e w3 ⟨rfl,X3⟩
        go_wp2_with fail
        go_ret
        exact ⟨rfl,(X.trans X2).trans X3⟩
 · clear HG
   go_enter Tryz.func96,Tryz.ntmps96
   go_wp2_with fail
   go_loopw [6,7,5,25] (fun nv dv mv iv wr => ∃ (i:Nat),i ≤ b.size ∧ iv=.int .i64 i ∧ Ext w wr ∧ ((i ≤ i0 ∧ nv=.string b ∧ dv=.string ⟨#[50]⟩ ∧ mv=.int .i64 1) ∨ (i0 < i ∧ nv=.string n ∧ dv=.string d ∧ mv=.int .i64 2))) (fun _ _ _ iv _ => b.size - (intOf iv).toNat)
   case atStart => exact ⟨0,Nat.zero_le _,rfl,Ext.refl _,.inl ⟨Nat.zero_le _,rfl,rfl,rfl⟩⟩
   case round =>
    obtain ⟨i,hi,rfl,X,hph⟩:=hrel
    rcases hph with ⟨hii,rfl,rfl,rfl⟩ | ⟨hii,rfl,rfl,rfl⟩
    · have hlt2:i < b.size:=by omega
      have hki:(i:Int) < (b.size:Int):=by omega
      by_cases heq:i=i0
      · subst heq
        have hbi:((b[i].toNat:Int) == 47)=true:=by rw [h47]; rfl
        have hk1:(i:Int) + 1 ≤ (b.size:Int):=by omega
        have hk2:(i:Int) ≤ (b.size:Int):=by omega
        have e5:((i:Int) + 1).toNat=i + 1:=by omega
        have w5:IntKind.i64.wrap ((i:Int) + 1)=(i:Int) + 1:=IntWalk.i64_in _ (by omega)
        go_wp2_with fail
        go_quiet (fail)
        go_wp2_with fail
        go_roundw
        case rel => exact ⟨i + 1,by omega,by go_num,X.drewN _,.inr ⟨by omega,by rw [← hn],by rw [← hd],rfl⟩⟩
        case measure => simp [intOf]; omega
      · have hne:=H47.out i hlt2 (by omega)
        have hbi:((b[i].toNat:Int) == 47)=false:=by
         rw [beq_eq_false_iff_ne]
         intro e
         apply hne
         apply UInt8.toNat_inj.1
         have:(47:UInt8).toNat=47:=rfl
         omega
        clear hne
        go_wp2_with fail
        go_roundw
        case rel => exact ⟨i + 1,by omega,by go_num,X,.inl ⟨by omega,rfl,rfl,rfl⟩⟩
        case measure => simp [intOf]; omega
    · by_cases hlt2:i < b.size
      · have hki:(i:Int) < (b.size:Int):=by omega
        obtain ⟨bb,hbb⟩:∃ bb,((b[i].toNat:Int) == 47)=bb:=⟨_,rfl⟩
        cases bb
        all_goals
         go_wp2_with fail
         go_roundw
         case rel => exact ⟨i + 1,by omega,by go_num,X,.inr ⟨by omega,rfl,rfl,rfl⟩⟩
         case measure => simp [intOf]; omega
      · have hki:(b.size:Int) ≤ (i:Int):=by omega
        clear hlt2
        go_wp2_with fail
        refine (HEN.out _).mono ?_
        rintro e w2 ⟨rfl,X2⟩
        go_wp2_with fail
        refine (HED.out _).mono ?_
        rintro e w3 ⟨rfl,X3⟩
        go_wp2_with fail
        go_ret
        exact ⟨rfl,(X.trans X2).trans X3⟩
 · clear HG
   go_enter Tryz.func96,Tryz.ntmps96
   go_wp2_with fail
   go_loopw [6,7,5,25] (fun nv dv mv iv wr => ∃ (i:Nat),i ≤ b.size ∧ iv=.int .i64 i ∧ Ext w wr ∧ ((i ≤ i0 ∧ nv=.string b ∧ dv=.string ⟨#[50]⟩ ∧ mv=.int .i64 1) ∨ (i0 < i ∧ nv=.string n ∧ dv=.string d ∧ mv=.int .i64 2))) (fun _ _ _ iv _ => b.size - (intOf iv).toNat)
   case atStart => exact ⟨0,Nat.zero_le _,rfl,Ext.refl _,.inl ⟨Nat.zero_le _,rfl,rfl,rfl⟩⟩
   case round =>
    obtain ⟨i,hi,rfl,X,hph⟩:=hrel
    rcases hph with ⟨hii,rfl,rfl,rfl⟩ | ⟨hii,rfl,rfl,rfl⟩
    · have hlt2:i < b.size:=by omega
      have hki:(i:Int) < (b.size:Int):=by omega
      by_cases heq:i=i0
      · subst heq
        have hbi:((b[i].toNat:Int) == 47)=true:=by rw [h47]; rfl
        have hk1:(i:Int) + 1 ≤ (b.size:Int):=by omega
        have hk2:(i:Int) ≤ (b.size:Int):=by omega
        have e5:((i:Int) + 1).toNat=i + 1:=by omega
        have w5:IntKind.i64.wrap ((i:Int) + 1)=(i:Int) + 1:=IntWalk.i64_in _ (by omega)
        go_wp2_with fail
        go_quiet (fail)
        go_wp2_with fail
        go_roundw
        case rel => exact ⟨i + 1,by omega,by go_num,X.drewN _,.inr ⟨by omega,by rw [← hn],by rw [← hd],rfl⟩⟩
        case measure => simp [intOf]; omega
      · have hne:=H47.out i hlt2 (by omega)
        have hbi:((b[i].toNat:Int) == 47)=false:=by
         rw [beq_eq_false_iff_ne]
         intro e
         apply hne
         apply UInt8.toNat_inj.1
         have:(47:UInt8).toNat=47:=rfl
         omega
        clear hne
        go_wp2_with fail
        go_roundw
        case rel => exact ⟨i + 1,by omega,by go_num,X,.inl ⟨by omega,rfl,rfl,rfl⟩⟩
        case measure => simp [intOf]; omega
    · by_cases hlt2:i < b.size
      · have hki:(i:Int) < (b.size:Int):=by omega
        obtain ⟨bb,hbb⟩:∃ bb,((b[i].toNat:Int) == 47)=bb:=⟨_,rfl⟩
        cases bb
        all_goals
         go_wp2_with fail
         go_roundw
         case rel => exact ⟨i + 1,by omega,by go_num,X,.inr ⟨by omega,rfl,rfl,rfl⟩⟩
         case measure => simp [intOf]; omega
      · have hki:(b.size:Int) ≤ (i:Int):=by omega
        clear hlt2
        go_wp2_with fail
        refine (HEN.out _).mono ?_
        rintro e w2 ⟨rfl,X2⟩
        go_wp2_with fail
        refine (HED.out _).mono ?_
        rintro e w3 ⟨rfl,X3⟩
        go_wp2_with fail
        go_ret
        exact ⟨rfl,(X.trans X2).trans X3⟩
 · clear HG
   go_enter Tryz.func96,Tryz.ntmps96
   go_wp2_with fail
   go_loopw [6,7,5,25] (fun nv dv mv iv wr => ∃ (i:Nat),i ≤ b.size ∧ iv=.int .i64 i ∧ Ext w wr ∧ ((i ≤ i0 ∧ nv=.string b ∧ dv=.string ⟨#[50]⟩ ∧ mv=.int .i64 1) ∨ (i0 < i ∧ nv=.string n ∧ dv=.string d ∧ mv=.int .i64 2))) (fun _ _ _ iv _ => b.size - (intOf iv).toNat)
   case atStart => exact ⟨0,Nat.zero_le _,rfl,Ext.refl _,.inl ⟨Nat.zero_le _,rfl,rfl,rfl⟩⟩
   case round =>
    obtain ⟨i,hi,rfl,X,hph⟩:=hrel
    rcases hph with ⟨hii,rfl,rfl,rfl⟩ | ⟨hii,rfl,rfl,rfl⟩
    · have hlt2:i < b.size:=by omega
      have hki:(i:Int) < (b.size:Int):=by omega
      by_cases heq:i=i0
      · subst heq
        have hbi:((b[i].toNat:Int) == 47)=true:=by rw [h47]; rfl
        have hk1:(i:Int) + 1 ≤ (b.size:Int):=by omega
        have hk2:(i:Int) ≤ (b.size:Int):=by omega
        have e5:((i:Int) + 1).toNat=i + 1:=by omega
        have w5:IntKind.i64.wrap ((i:Int) + 1)=(i:Int) + 1:=IntWalk.i64_in _ (by omega)
        go_wp2_with fail
        go_quiet (fail)
        go_wp2_with fail
        go_roundw
        case rel => exact ⟨i + 1,by omega,by go_num,X.drewN _,.inr ⟨by omega,by rw [← hn],by rw [← hd],rfl⟩⟩
        case measure => simp [intOf]; omega
      · have hne:=H47.out i hlt2 (by omega)
        have hbi:((b[i].toNat:Int) == 47)=false:=by
         rw [beq_eq_false_iff_ne]
         intro e
         apply hne
         apply UInt8.toNat_inj.1
         have:(47:UInt8).toNat=47:=rfl
         omega
        clear hne
        go_wp2_with fail
        go_roundw
        case rel => exact ⟨i + 1,by omega,by go_num,X,.inl ⟨by omega,rfl,rfl,rfl⟩⟩
        case measure => simp [intOf]; omega
    · by_cases hlt2:i < b.size
      · have hki:(i:Int) < (b.size:Int):=by omega
        obtain ⟨bb,hbb⟩:∃ bb,((b[i].toNat:Int) == 47)=bb:=⟨_,rfl⟩
        cases bb
        all_goals
         go_wp2_with fail
         go_roundw
         case rel => exact ⟨i + 1,by omega,by go_num,X,.inr ⟨by omega,rfl,rfl,rfl⟩⟩
         case measure => simp [intOf]; omega
      · have hki:(b.size:Int) ≤ (i:Int):=by omega
        clear hlt2
        go_wp2_with fail
        refine (HEN.out _).mono ?_
        rintro e w2 ⟨rfl,X2⟩
        go_wp2_with fail
        refine (HED.out _).mono ?_
        rintro e w3 ⟨rfl,X3⟩
        go_wp2_with fail
        go_ret
        exact ⟨rfl,(X.trans X2).trans X3⟩
 · clear HG
   go_enter Tryz.func96,Tryz.ntmps96
   go_wp2_with fail
   go_loopw [6,7,5,25] (fun nv dv mv iv wr => ∃ (i:Nat),i ≤ b.size ∧ iv=.int .i64 i ∧ Ext w wr ∧ ((i ≤ i0 ∧ nv=.string b ∧ dv=.string ⟨#[50]⟩ ∧ mv=.int .i64 1) ∨ (i0 < i ∧ nv=.string n ∧ dv=.string d ∧ mv=.int .i64 2))) (fun _ _ _ iv _ => b.size - (intOf iv).toNat)
   case atStart => exact ⟨0,Nat.zero_le _,rfl,Ext.refl _,.inl ⟨Nat.zero_le _,rfl,rfl,rfl⟩⟩
   case round =>
    obtain ⟨i,hi,rfl,X,hph⟩:=hrel
    rcases hph with ⟨hii,rfl,rfl,rfl⟩ | ⟨hii,rfl,rfl,rfl⟩
    · have hlt2:i < b.size:=by omega
      have hki:(i:Int) < (b.size:Int):=by omega
      by_cases heq:i=i0
      · subst heq
        have hbi:((b[i].toNat:Int) == 47)=true:=by rw [h47]; rfl
        have hk1:(i:Int) + 1 ≤ (b.size:Int):=by omega
        have hk2:(i:Int) ≤ (b.size:Int):=by omega
        have e5:((i:Int) + 1).toNat=i + 1:=by omega
        have w5:IntKind.i64.wrap ((i:Int) + 1)=(i:Int) + 1:=IntWalk.i64_in _ (by omega)
        go_wp2_with fail
        go_quiet (fail)
        go_wp2_with fail
        go_roundw
        case rel => exact ⟨i + 1,by omega,by go_num,X.drewN _,.inr ⟨by omega,by rw [← hn],by rw [← hd],rfl⟩⟩
        case measure => simp [intOf]; omega
      · have hne:=H47.out i hlt2 (by omega)
        have hbi:((b[i].toNat:Int) == 47)=false:=by
         rw [beq_eq_false_iff_ne]
         intro e
         apply hne
         apply UInt8.toNat_inj.1
         have:(47:UInt8).toNat=47:=rfl
         omega
        clear hne
        go_wp2_with fail
        go_roundw
        case rel => exact ⟨i + 1,by omega,by go_num,X,.inl ⟨by omega,rfl,rfl,rfl⟩⟩
        case measure => simp [intOf]; omega
    · by_cases hlt2:i < b.size
      · have hki:(i:Int) < (b.size:Int):=by omega
        obtain ⟨bb,hbb⟩:∃ bb,((b[i].toNat:Int) == 47)=bb:=⟨_,rfl⟩
        cases bb
        all_goals
         go_wp2_with fail
         go_roundw
         case rel => exact ⟨i + 1,by omega,by go_num,X,.inr ⟨by omega,rfl,rfl,rfl⟩⟩
         case measure => simp [intOf]; omega
      · have hki:(b.size:Int) ≤ (i:Int):=by omega
        clear hlt2
        go_wp2_with fail
        refine (HEN.out _).mono ?_
        rintro e w2 ⟨rfl,X2⟩
        go_wp2_with fail
        refine (HED.out _).mono ?_
        rintro e w3 ⟨rfl,X3⟩
        go_wp2_with fail
        go_ret
        exact ⟨rfl,(X.trans X2).trans X3⟩
 · clear HG
   go_enter Tryz.func96,Tryz.ntmps96
   go_wp2_with fail
   go_loopw [6,7,5,25] (fun nv dv mv iv wr => ∃ (i:Nat),i ≤ b.size ∧ iv=.int .i64 i ∧ Ext w wr ∧ ((i ≤ i0 ∧ nv=.string b ∧ dv=.string ⟨#[50]⟩ ∧ mv=.int .i64 1) ∨ (i0 < i ∧ nv=.string n ∧ dv=.string d ∧ mv=.int .i64 2))) (fun _ _ _ iv _ => b.size - (intOf iv).toNat)
   case atStart => exact ⟨0,Nat.zero_le _,rfl,Ext.refl _,.inl ⟨Nat.zero_le _,rfl,rfl,rfl⟩⟩
   case round =>
    obtain ⟨i,hi,rfl,X,hph⟩:=hrel
    rcases hph with ⟨hii,rfl,rfl,rfl⟩ | ⟨hii,rfl,rfl,rfl⟩
    · have hlt2:i < b.size:=by omega
      have hki:(i:Int) < (b.size:Int):=by omega
      by_cases heq:i=i0
      · subst heq
        have hbi:((b[i].toNat:Int) == 47)=true:=by rw [h47]; rfl
        have hk1:(i:Int) + 1 ≤ (b.size:Int):=by omega
        have hk2:(i:Int) ≤ (b.size:Int):=by omega
        have e5:((i:Int) + 1).toNat=i + 1:=by omega
        have w5:IntKind.i64.wrap ((i:Int) + 1)=(i:Int) + 1:=IntWalk.i64_in _ (by omega)
        go_wp2_with fail
        go_quiet (fail)
        go_wp2_with fail
        go_roundw
        case rel => exact ⟨i + 1,by omega,by go_num,X.drewN _,.inr ⟨by omega,by rw [← hn],by rw [← hd],rfl⟩⟩
        case measure => simp [intOf]; omega
      · have hne:=H47.out i hlt2 (by omega)
        have hbi:((b[i].toNat:Int) == 47)=false:=by
         rw [beq_eq_false_iff_ne]
         intro e
         apply hne
         apply UInt8.toNat_inj.1
         have:(47:UInt8).toNat=47:=rfl
         omega
        clear hne
        go_wp2_with fail
        go_roundw
        case rel => exact ⟨i + 1,by omega,by go_num,X,.inl ⟨by omega,rfl,rfl,rfl⟩⟩
        case measure => simp [intOf]; omega
    · by_cases hlt2:i < b.size
      · have hki:(i:Int) < (b.size:Int):=by omega
        obtain ⟨bb,hbb⟩:∃ bb,((b[i].toNat:Int) == 47)=bb:=⟨_,rfl⟩
        cases bb
        all_goals
         go_wp2_with fail
         go_roundw
         case rel => exact ⟨i + 1,by omega,by go_num,X,.inr ⟨by omega,rfl,rfl,rfl⟩⟩
         case measure => simp [intOf]; omega
      · have hki:(b.size:Int) ≤ (i:Int):=by omega
        clear hlt2
        go_wp2_with fail
        refine (HEN.out _).mono ?_
        rintro e w2 ⟨rfl,X2⟩
        go_wp2_with fail
        refine (HED.out _).mono ?_
        rintro e w3 ⟨rfl,X3⟩
        go_wp2_with fail
        go_ret
        exact ⟨rfl,(X.trans X2).trans X3⟩
 · clear HG
   go_enter Tryz.func96,Tryz.ntmps96
   go_wp2_with fail
   go_loopw [6,7,5,25] (fun nv dv mv iv wr => ∃ (i:Nat),i ≤ b.size ∧ iv=.int .i64 i ∧ Ext w wr ∧ ((i ≤ i0 ∧ nv=.string b ∧ dv=.string ⟨#[50]⟩ ∧ mv=.int .i64 1) ∨ (i0 < i ∧ nv=.string n ∧ dv=.string d ∧ mv=.int .i64 2))) (fun _ _ _ iv _ => b.size - (intOf iv).toNat)
   case atStart => exact ⟨0,Nat.zero_le _,rfl,Ext.refl _,.inl ⟨Nat.zero_le _,rfl,rfl,rfl⟩⟩
   case round =>
    obtain ⟨i,hi,rfl,X,hph⟩:=hrel
    rcases hph with ⟨hii,rfl,rfl,rfl⟩ | ⟨hii,rfl,rfl,rfl⟩
    · have hlt2:i < b.size:=by omega
      have hki:(i:Int) < (b.size:Int):=by omega
      by_cases heq:i=i0
      · subst heq
        have hbi:((b[i].toNat:Int) == 47)=true:=by rw [h47]; rfl
        have hk1:(i:Int) + 1 ≤ (b.size:Int):=by omega
        have hk2:(i:Int) ≤ (b.size:Int):=by omega
        have e5:((i:Int) + 1).toNat=i + 1:=by omega
        have w5:IntKind.i64.wrap ((i:Int) + 1)=(i:Int) + 1:=IntWalk.i64_in _ (by omega)
        go_wp2_with fail
        go_quiet (fail)
        go_wp2_with fail
        go_roundw
        case rel => exact ⟨i + 1,by omega,by go_num,X.drewN _,.inr ⟨by omega,by rw [← hn],by rw [← hd],rfl⟩⟩
        case measure => simp [intOf]; omega
      · have hne:=H47.out i hlt2 (by omega)
        have hbi:((b[i].toNat:Int) == 47)=false:=by
         rw [beq_eq_false_iff_ne]
         intro e
         apply hne
         apply UInt8.toNat_inj.1
         have:(47:UInt8).toNat=47:=rfl
         omega
        clear hne
        go_wp2_with fail
        go_roundw
        case rel => exact ⟨i + 1,by omega,by go_num,X,.inl ⟨by omega,rfl,rfl,rfl⟩⟩
        case measure => simp [intOf]; omega
    · by_cases hlt2:i < b.size
      · have hki:(i:Int) < (b.size:Int):=by omega
        obtain ⟨bb,hbb⟩:∃ bb,((b[i].toNat:Int) == 47)=bb:=⟨_,rfl⟩
        cases bb
        all_goals
         go_wp2_with fail
         go_roundw
         case rel => exact ⟨i + 1,by omega,by go_num,X,.inr ⟨by omega,rfl,rfl,rfl⟩⟩
         case measure => simp [intOf]; omega
      · have hki:(b.size:Int) ≤ (i:Int):=by omega
        clear hlt2
        go_wp2_with fail
        refine (HEN.out _).mono ?_
        rintro e w2 ⟨rfl,X2⟩
        go_wp2_with fail
        refine (HED.out _).mono ?_
        rintro e w3 ⟨rfl,X3⟩
        go_wp2_with fail
        go_ret
        exact ⟨rfl,(X.trans X2).trans X3⟩
 · clear HG
   go_enter Tryz.func96,Tryz.ntmps96
   go_wp2_with fail
   go_loopw [6,7,5,25] (fun nv dv mv iv wr => ∃ (i:Nat),i ≤ b.size ∧ iv=.int .i64 i ∧ Ext w wr ∧ ((i ≤ i0 ∧ nv=.string b ∧ dv=.string ⟨#[50]⟩ ∧ mv=.int .i64 1) ∨ (i0 < i ∧ nv=.string n ∧ dv=.string d ∧ mv=.int .i64 2))) (fun _ _ _ iv _ => b.size - (intOf iv).toNat)
   case atStart => exact ⟨0,Nat.zero_le _,rfl,Ext.refl _,.inl ⟨Nat.zero_le _,rfl,rfl,rfl⟩⟩
   case round =>
    obtain ⟨i,hi,rfl,X,hph⟩:=hrel
    rcases hph with ⟨hii,rfl,rfl,rfl⟩ | ⟨hii,rfl,rfl,rfl⟩
    · have hlt2:i < b.size:=by omega
      have hki:(i:Int) < (b.size:Int):=by omega
      by_cases heq:i=i0
      · subst heq
        have hbi:((b[i].toNat:Int) == 47)=true:=by rw [h47]; rfl
        have hk1:(i:Int) + 1 ≤ (b.size:Int):=by omega
        have hk2:(i:Int) ≤ (b.size:Int):=by omega
        have e5:((i:Int) + 1).toNat=i + 1:=by omega
        have w5:IntKind.i64.wrap ((i:Int) + 1)=(i:Int) + 1:=IntWalk.i64_in _ (by omega)
        go_wp2_with fail
        go_quiet (fail)
        go_wp2_with fail
        go_roundw
        case rel => exact ⟨i + 1,by omega,by go_num,X.drewN _,.inr ⟨by omega,by rw [← hn],by rw [← hd],rfl⟩⟩
        case measure => simp [intOf]; omega
      · have hne:=H47.out i hlt2 (by omega)
        have hbi:((b[i].toNat:Int) == 47)=false:=by
         rw [beq_eq_false_iff_ne]
         intro e
         apply hne
         apply UInt8.toNat_inj.1
         have:(47:UInt8).toNat=47:=rfl
         omega
        clear hne
        go_wp2_with fail
        go_roundw
        case rel => exact ⟨i + 1,by omega,by go_num,X,.inl ⟨by omega,rfl,rfl,rfl⟩⟩
        case measure => simp [intOf]; omega
    · by_cases hlt2:i < b.size
      · have hki:(i:Int) < (b.size:Int):=by omega
        obtain ⟨bb,hbb⟩:∃ bb,((b[i].toNat:Int) == 47)=bb:=⟨_,rfl⟩
        cases bb
        all_goals
         go_wp2_with fail
         go_roundw
         case rel => exact ⟨i + 1,by omega,by go_num,X,.inr ⟨by omega,rfl,rfl,rfl⟩⟩
         case measure => simp [intOf]; omega
      · have hki:(b.size:Int) ≤ (i:Int):=by omega
        clear hlt2
        go_wp2_with fail
        refine (HEN.out _).mono ?_
        rintro e w2 ⟨rfl,X2⟩
        go_wp2_with fail
        refine (HED.out _).mono ?_
        rintro e w3 ⟨rfl,X3⟩
        go_wp2_with fail
        go_ret
        exact ⟨rfl,(X.trans X2).trans X3⟩
 · clear HG
   go_enter Tryz.func96,Tryz.ntmps96
   go_wp2_with fail
   go_loopw [6,7,5,25] (fun nv dv mv iv wr => ∃ (i:Nat),i ≤ b.size ∧ iv=.int .i64 i ∧ Ext w wr ∧ ((i ≤ i0 ∧ nv=.string b ∧ dv=.string ⟨#[50]⟩ ∧ mv=.int .i64 1) ∨ (i0 < i ∧ nv=.string n ∧ dv=.string d ∧ mv=.int .i64 2))) (fun _ _ _ iv _ => b.size - (intOf iv).toNat)
   case atStart => exact ⟨0,Nat.zero_le _,rfl,Ext.refl _,.inl ⟨Nat.zero_le _,rfl,rfl,rfl⟩⟩
   case round =>
    obtain ⟨i,hi,rfl,X,hph⟩:=hrel
    rcases hph with ⟨hii,rfl,rfl,rfl⟩ | ⟨hii,rfl,rfl,rfl⟩
    · have hlt2:i < b.size:=by omega
      have hki:(i:Int) < (b.size:Int):=by omega
      by_cases heq:i=i0
      · subst heq
        have hbi:((b[i].toNat:Int) == 47)=true:=by rw [h47]; rfl
        have hk1:(i:Int) + 1 ≤ (b.size:Int):=by omega
        have hk2:(i:Int) ≤ (b.size:Int):=by omega
        have e5:((i:Int) + 1).toNat=i + 1:=by omega
        have w5:IntKind.i64.wrap ((i:Int) + 1)=(i:Int) + 1:=IntWalk.i64_in _ (by omega)
        go_wp2_with fail
        go_quiet (fail)
        go_wp2_with fail
        go_roundw
        case rel => exact ⟨i + 1,by omega,by go_num,X.drewN _,.inr ⟨by omega,by rw [← hn],by rw [← hd],rfl⟩⟩
        case measure => simp [intOf]; omega
      · have hne:=H47.out i hlt2 (by omega)
        have hbi:((b[i].toNat:Int) == 47)=false:=by
         rw [beq_eq_false_iff_ne]
         intro e
         apply hne
         apply UInt8.toNat_inj.1
         have:(47:UInt8).toNat=47:=rfl
         omega
        clear hne
        go_wp2_with fail
        go_roundw
        case rel => exact ⟨i + 1,by omega,by go_num,X,.inl ⟨by omega,rfl,rfl,rfl⟩⟩
        case measure => simp [intOf]; omega
    · by_cases hlt2:i < b.size
      · have hki:(i:Int) < (b.size:Int):=by omega
        obtain ⟨bb,hbb⟩:∃ bb,((b[i].toNat:Int) == 47)=bb:=⟨_,rfl⟩
        cases bb
        all_goals
         go_wp2_with fail
         go_roundw
         case rel => exact ⟨i + 1,by omega,by go_num,X,.inr ⟨by omega,rfl,rfl,rfl⟩⟩
         case measure => simp [intOf]; omega
      · have hki:(b.size:Int) ≤ (i:Int):=by omega
        clear hlt2
        go_wp2_with fail
        refine (HEN.out _).mono ?_
        rintro e w2 ⟨rfl,X2⟩
        go_wp2_with fail
        refine (HED.out _).mono ?_
        rintro e w3 ⟨rfl,X3⟩
        go_wp2_with fail
        go_ret
        exact ⟨rfl,(X.trans X2).trans X3⟩
 · clear HG
   go_enter Tryz.func96,Tryz.ntmps96
   go_wp2_with fail
   go_loopw [6,7,5,25] (fun nv dv mv iv wr => ∃ (i:Nat),i ≤ b.size ∧ iv=.int .i64 i ∧ Ext w wr ∧ ((i ≤ i0 ∧ nv=.string b ∧ dv=.string ⟨#[50]⟩ ∧ mv=.int .i64 1) ∨ (i0 < i ∧ nv=.string n ∧ dv=.string d ∧ mv=.int .i64 2))) (fun _ _ _ iv _ => b.size - (intOf iv).toNat)
   case atStart => exact ⟨0,Nat.zero_le _,rfl,Ext.refl _,.inl ⟨Nat.zero_le _,rfl,rfl,rfl⟩⟩
   case round =>
    obtain ⟨i,hi,rfl,X,hph⟩:=hrel
    rcases hph with ⟨hii,rfl,rfl,rfl⟩ | ⟨hii,rfl,rfl,rfl⟩
    · have hlt2:i < b.size:=by omega
      have hki:(i:Int) < (b.size:Int):=by omega
      by_cases heq:i=i0
      · subst heq
        have hbi:((b[i].toNat:Int) == 47)=true:=by rw [h47]; rfl
        have hk1:(i:Int) + 1 ≤ (b.size:Int):=by omega
        have hk2:(i:Int) ≤ (b.size:Int):=by omega
        have e5:((i:Int) + 1).toNat=i + 1:=by omega
        have w5:IntKind.i64.wrap ((i:Int) + 1)=(i:Int) + 1:=IntWalk.i64_in _ (by omega)
        go_wp2_with fail
        go_quiet (fail)
        go_wp2_with fail
        go_roundw
        case rel => exact ⟨i + 1,by omega,by go_num,X.drewN _,.inr ⟨by omega,by rw [← hn],by rw [← hd],rfl⟩⟩
        case measure => simp [intOf]; omega
      · have hne:=H47.out i hlt2 (by omega)
        have hbi:((b[i].toNat:Int) == 47)=false:=by
         rw [beq_eq_false_iff_ne]
         intro e
         apply hne
         apply UInt8.toNat_inj.1
         have:(47:UInt8).toNat=47:=rfl
         omega
        clear hne
        go_wp2_with fail
        go_roundw
        case rel => exact ⟨i + 1,by omega,by go_num,X,.inl ⟨by omega,rfl,rfl,rfl⟩⟩
        case measure => simp [intOf]; omega
    · by_cases hlt2:i < b.size
      · have hki:(i:Int) < (b.size:Int):=by omega
        obtain ⟨bb,hbb⟩:∃ bb,((b[i].toNat:Int) == 47)=bb:=⟨_,rfl⟩
        cases bb
        all_goals
         go_wp2_with fail
         go_roundw
         case rel => exact ⟨i + 1,by omega,by go_num,X,.inr ⟨by omega,rfl,rfl,rfl⟩⟩
         case measure => simp [intOf]; omega
      · have hki:(b.size:Int) ≤ (i:Int):=by omega
        clear hlt2
        go_wp2_with fail
        refine (HEN.out _).mono ?_
        rintro e w2 ⟨rfl,X2⟩
        go_wp2_with fail
        refine (HED.out _).mono ?_
        rintro e w3 ⟨rfl,X3⟩
        go_wp2_with fail
        go_ret
        exact ⟨rfl,(X.trans X2).trans X3⟩
 · have HG2:=Lib.hid (HG.out rfl rfl)
   clear HG
   go_enter Tryz.func96,Tryz.ntmps96
   go_wp2_with fail
   go_loopw [6,7,5,25] (fun nv dv mv iv wr => ∃ (i:Nat),i ≤ b.size ∧ iv=.int .i64 i ∧ Ext w wr ∧ ((i ≤ i0 ∧ nv=.string b ∧ dv=.string ⟨#[50]⟩ ∧ mv=.int .i64 1) ∨ (i0 < i ∧ nv=.string n ∧ dv=.string d ∧ mv=.int .i64 2))) (fun _ _ _ iv _ => b.size - (intOf iv).toNat)
   case atStart => exact ⟨0,Nat.zero_le _,rfl,Ext.refl _,.inl ⟨Nat.zero_le _,rfl,rfl,rfl⟩⟩
   case round =>
    obtain ⟨i,hi,rfl,X,hph⟩:=hrel
    rcases hph with ⟨hii,rfl,rfl,rfl⟩ | ⟨hii,rfl,rfl,rfl⟩
    · have hlt2:i < b.size:=by omega
      have hki:(i:Int) < (b.size:Int):=by omega
      by_cases heq:i=i0
      · subst heq
        have hbi:((b[i].toNat:Int) == 47)=true:=by rw [h47]; rfl
        have hk1:(i:Int) + 1 ≤ (b.size:Int):=by omega
        have hk2:(i:Int) ≤ (b.size:Int):=by omega
        have e5:((i:Int) + 1).toNat=i + 1:=by omega
        have w5:IntKind.i64.wrap ((i:Int) + 1)=(i:Int) + 1:=IntWalk.i64_in _ (by omega)
        go_wp2_with fail
        go_quiet (fail)
        go_wp2_with fail
        go_roundw
        case rel => exact ⟨i + 1,by omega,by go_num,X.drewN _,.inr ⟨by omega,by rw [← hn],by rw [← hd],rfl⟩⟩
        case measure => simp [intOf]; omega
      · have hne:=H47.out i hlt2 (by omega)
        have hbi:((b[i].toNat:Int) == 47)=false:=by
         rw [beq_eq_false_iff_ne]
         intro e
         apply hne
         apply UInt8.toNat_inj.1
         have:(47:UInt8).toNat=47:=rfl
         omega
        clear hne
        go_wp2_with fail
        go_roundw
        case rel => exact ⟨i + 1,by omega,by go_num,X,.inl ⟨by omega,rfl,rfl,rfl⟩⟩
        case measure => simp [intOf]; omega
    · by_cases hlt2:i < b.size
      · have hki:(i:Int) < (b.size:Int):=by omega
        obtain ⟨bb,hbb⟩:∃ bb,((b[i].toNat:Int) == 47)=bb:=⟨_,rfl⟩
        cases bb
        all_goals
         go_wp2_with fail
         go_roundw
         case rel => exact ⟨i + 1,by omega,by go_num,X,.inr ⟨by omega,rfl,rfl,rfl⟩⟩
         case measure => simp [intOf]; omega
      · have hki:(b.size:Int) ≤ (i:Int):=by omega
        clear hlt2
        go_wp2_with fail
        refine (HEN.out _).mono ?_
        rintro e w2 ⟨rfl,X2⟩
        go_wp2_with fail
        refine (HED.out _).mono ?_
        rintro e w3 ⟨rfl,X3⟩
        go_wp2_with fail
        refine (HG2.out _).mono ?_
        rintro e w4 ⟨rfl,X4⟩
        go_wp2_with fail
        go_ret
        exact ⟨rfl,((X.trans X2).trans X3).trans X4⟩
 · have HG2:=Lib.hid (HG.out rfl rfl)
   clear HG
   go_enter Tryz.func96,Tryz.ntmps96
   go_wp2_with fail
   go_loopw [6,7,5,25] (fun nv dv mv iv wr => ∃ (i:Nat),i ≤ b.size ∧ iv=.int .i64 i ∧ Ext w wr ∧ ((i ≤ i0 ∧ nv=.string b ∧ dv=.string ⟨#[50]⟩ ∧ mv=.int .i64 1) ∨ (i0 < i ∧ nv=.string n ∧ dv=.string d ∧ mv=.int .i64 2))) (fun _ _ _ iv _ => b.size - (intOf iv).toNat)
   case atStart => exact ⟨0,Nat.zero_le _,rfl,Ext.refl _,.inl ⟨Nat.zero_le _,rfl,rfl,rfl⟩⟩
   case round =>
    obtain ⟨i,hi,rfl,X,hph⟩:=hrel
    rcases hph with ⟨hii,rfl,rfl,rfl⟩ | ⟨hii,rfl,rfl,rfl⟩
    · have hlt2:i < b.size:=by omega
      have hki:(i:Int) < (b.size:Int):=by omega
      by_cases heq:i=i0
      · subst heq
        have hbi:((b[i].toNat:Int) == 47)=true:=by rw [h47]; rfl
        have hk1:(i:Int) + 1 ≤ (b.size:Int):=by omega
        have hk2:(i:Int) ≤ (b.size:Int):=by omega
        have e5:((i:Int) + 1).toNat=i + 1:=by omega
        have w5:IntKind.i64.wrap ((i:Int) + 1)=(i:Int) + 1:=IntWalk.i64_in _ (by omega)
        go_wp2_with fail
        go_quiet (fail)
        go_wp2_with fail
        go_roundw
        case rel => exact ⟨i + 1,by omega,by go_num,X.drewN _,.inr ⟨by omega,by rw [← hn],by rw [← hd],rfl⟩⟩
        case measure => simp [intOf]; omega
      · have hne:=H47.out i hlt2 (by omega)
        have hbi:((b[i].toNat:Int) == 47)=false:=by
         rw [beq_eq_false_iff_ne]
         intro e
         apply hne
         apply UInt8.toNat_inj.1
         have:(47:UInt8).toNat=47:=rfl
         omega
        clear hne
        go_wp2_with fail
        go_roundw
        case rel => exact ⟨i + 1,by omega,by go_num,X,.inl ⟨by omega,rfl,rfl,rfl⟩⟩
        case measure => simp [intOf]; omega
    · by_cases hlt2:i < b.size
      · have hki:(i:Int) < (b.size:Int):=by omega
        obtain ⟨bb,hbb⟩:∃ bb,((b[i].toNat:Int) == 47)=bb:=⟨_,rfl⟩
        cases bb
        all_goals
         go_wp2_with fail
         go_roundw
         case rel => exact ⟨i + 1,by omega,by go_num,X,.inr ⟨by omega,rfl,rfl,rfl⟩⟩
         case measure => simp [intOf]; omega
      · have hki:(b.size:Int) ≤ (i:Int):=by omega
        clear hlt2
        go_wp2_with fail
        refine (HEN.out _).mono ?_
        rintro e w2 ⟨rfl,X2⟩
        go_wp2_with fail
        refine (HED.out _).mono ?_
        rintro e w3 ⟨rfl,X3⟩
        go_wp2_with fail
        refine (HG2.out _).mono ?_
        rintro e w4 ⟨rfl,X4⟩
        go_wp2_with fail
        go_ret
        exact ⟨rfl,((X.trans X2).trans X3).trans X4⟩
end Go.Proofs.YtcggohkbmhdohaaGreatDoor
