/- texts merged: RatF RatK -/
import Derived.Test.YtcggohkbmhdohaaGreatDoorRtA
import Derived.Test.YtcggohkbmhdohaaGreatDoorShelf
import Derived.Test.YtcggohkbmhdohaaGreatDoorNtAC
import Derived.Lib.IndexLaws
import Derived.Test.YtcggohkbmhdohaaGreatDoorRtB
namespace Go.Proofs.YtcggohkbmhdohaaGreatDoor
open Go.RowKit
set_option linter.unusedVariables false
def ixB (s:ByteArray) (c:UInt8):Int:=Lib.indexByte s.data.toList c
def cutA (s:ByteArray) (c:UInt8):ByteArray:=if ixB s c=-1 then s else s.extract 0 (ixB s c).toNat
def cutR (s:ByteArray) (c:UInt8):ByteArray:=if ixB s c=-1 then ⟨#[]⟩ else s.extract ((ixB s c).toNat + 1) s.size
def cutK (s:ByteArray) (c:UInt8):Bool:=decide (ixB s c ≠ -1)
theorem ixB_cases (s:ByteArray) (c:UInt8):ixB s c=-1 ∨ ∃ i:Nat,ixB s c=i ∧ i < s.size:=by
 have h:=Lib.indexByte_ge s.data.toList c
 by_cases h1:Lib.indexByte s.data.toList c=-1
 · exact .inl h1
 · refine .inr ⟨(Lib.indexByte s.data.toList c).toNat,by unfold ixB; omega,?_⟩
   have h2:=(Lib.indexByte_some (l:=s.data.toList) (c:=c) (o:=(Lib.indexByte s.data.toList c).toNat) (by omega)).1
   have h3:=(List.getElem?_eq_some_iff.1 h2).1
   rw [Array.length_toList] at h3
   exact h3
theorem cutA_miss {s:ByteArray} {c:UInt8} (h:ixB s c=-1):cutA s c=s:=by rw [cutA,if_pos h]
theorem cutR_miss {s:ByteArray} {c:UInt8} (h:ixB s c=-1):cutR s c=⟨#[]⟩:=by rw [cutR,if_pos h]
theorem cutK_miss {s:ByteArray} {c:UInt8} (h:ixB s c=-1):cutK s c=false:=by rw [cutK,h]; rfl
theorem cutA_hit {s:ByteArray} {c:UInt8} {i:Nat} (h:ixB s c=i):cutA s c=s.extract 0 i:=by
 rw [cutA,h,if_neg (by omega)]; rfl
theorem cutR_hit {s:ByteArray} {c:UInt8} {i:Nat} (h:ixB s c=i):cutR s c=s.extract (i + 1) s.size:=by
 rw [cutR,h,if_neg (by omega)]; rfl
theorem cutK_hit {s:ByteArray} {c:UInt8} {i:Nat} (h:ixB s c=i):cutK s c=true:=by
 rw [cutK,h]; exact decide_eq_true (by omega)
set_option maxHeartbeats 800000 in
set_option maxRecDepth 100000 in
theorem cutLite_any (s:ByteArray) (c:UInt8) (w:World) (hs:s.size ≤ 9223372036854775806) :
 Calls Tryz.prog 155 #[.string s,.string ⟨#[c]⟩] w fun e w' => e=.returned (.tuple #[.string (cutA s c),.string (cutR s c),.bool (cutK s c)]) ∧ Ext w w':=by
 have HI:=Tryz.stringslite_Index_one s c w
 rw [show Lib.indexByte s.data.toList c=ixB s c from rfl] at HI
 rcases ixB_cases s c with h | ⟨i,h,hlt⟩
 · rw [h] at HI
   rw [cutA_miss h,cutR_miss h,cutK_miss h]
   have HI:=Lib.hid HI
   clear h
   go_enter Tryz.func155,Tryz.ntmps155
   go_wp2_with fail
   refine HI.out.mono ?_
   rintro e w1 ⟨rfl,rfl⟩
   go_wp2_with fail
   refine bodyPost_ret (v:=.tuple #[.string s,.string ⟨#[]⟩,.bool false]) (by simp [results,Tryz.results155,go_sem]) rfl ?_
   exact ⟨rfl,Ext.refl w1⟩
 · rw [h] at HI
   rw [cutA_hit h,cutR_hit h,cutK_hit h]
   have HI:=Lib.hid HI
   have hi1:(i:Int) + 1 ≤ (s.size:Int):=by omega
   have hi2:(i:Int) ≤ (s.size:Int):=by omega
   have hsz:(s.size:Int) ≤ 9223372036854775806:=by omega
   have e5:((i:Int) + 1).toNat=i + 1:=by omega
   clear h
   go_enter Tryz.func155,Tryz.ntmps155
   go_wp2_with fail
   refine HI.out.mono ?_
   rintro e w1 ⟨rfl,rfl⟩
   go_wp2_with fail
   go_quiet (fail)
   go_wp2_with fail
   refine bodyPost_ret (v:=.tuple #[.string (s.extract 0 i),.string (s.extract (i + 1) s.size),.bool true]) (by simp [results,Tryz.results155,go_sem]) rfl ?_
   exact ⟨rfl,(Ext.refl w1).drewN _⟩
set_option maxHeartbeats 800000 in
set_option maxRecDepth 100000 in
theorem cut1_any (s:ByteArray) (c:UInt8) (w:World) (hs:s.size ≤ 9223372036854775806) :
 Calls Tryz.prog 124 #[.string s,.string ⟨#[c]⟩] w fun e w' => e=.returned (.tuple #[.string (cutA s c),.string (cutR s c),.bool (cutK s c)]) ∧ Ext w w':=by
 have HI:=Lib.hid (cutLite_any s c w hs)
 generalize cutA s c=A at *
 generalize cutR s c=R at *
 generalize cutK s c=K at *
 go_enter Tryz.func124,Tryz.ntmps124
 go_wp2_with fail
 refine HI.out.mono ?_
 rintro e w1 ⟨rfl,hx⟩
 go_wp2_with fail
 refine bodyPost_ret (v:=.tuple #[.string A,.string R,.bool K]) (by simp [results,Tryz.results124,go_sem]) rfl ?_
 exact ⟨rfl,hx⟩
def negB (s:ByteArray):Bool:=Lib.hasPrefix s.data.toList [45]
def bodyB (s:ByteArray):ByteArray:=⟨(Lib.trimPrefix s.data.toList [45]).toArray⟩
def numT (s:ByteArray):ByteArray:=cutA (bodyB s) 47
def denT (s:ByteArray):ByteArray:=cutR (bodyB s) 47
def hasD (s:ByteArray):Bool:=cutK (bodyB s) 47
def isT (s:ByteArray) (c:UInt8):Bool:=s.toList == [c]
def synB (s:ByteArray):Bool:=!natB (numT s).data.toList || ((hasD s && !natB (denT s).data.toList) || (negB s && isT (numT s) 48))
def bigB (s:ByteArray):Bool:=decide (2000 < (numT s).size) || decide (2000 < (denT s).size)
def frmB (s:ByteArray):Bool:=hasD s && (isT (denT s) 48 || (isT (denT s) 49 || !decide (Nat.gcd (numB (numT s)) (numB (denT s))=1)))
def ratErr (s:ByteArray):Int:=if synB s=true then 5 else if bigB s=true then 2 else if frmB s=true then 3 else 0
theorem bodyB_le (s:ByteArray):(bodyB s).size ≤ s.size:=by
 have h1:(bodyB s).data.toList=Lib.trimPrefix s.data.toList [45]:=by simp [bodyB]
 rw [← bsz,h1,← bsz s]
 unfold Lib.trimPrefix
 split
 · rw [List.length_drop]; omega
 · exact Nat.le_refl _
theorem cutR_le2 (s:ByteArray) (c:UInt8):(cutR s c).size ≤ s.size:=by
 rcases ixB_cases s c with h1 | ⟨i,h1,h2⟩
 · rw [cutR_miss h1]; exact Nat.zero_le _
 · rw [cutR_hit h1,ByteArray.size_extract]; omega
theorem cutA_le2 (s:ByteArray) (c:UInt8):(cutA s c).size ≤ s.size:=by
 rcases ixB_cases s c with h1 | ⟨i,h1,h2⟩
 · rw [cutA_miss h1]; exact Nat.le_refl _
 · rw [cutA_hit h1,ByteArray.size_extract]; omega
theorem numT_le (s:ByteArray):(numT s).size ≤ s.size:=Nat.le_trans (cutA_le2 _ _) (bodyB_le s)
theorem denT_le (s:ByteArray):(denT s).size ≤ s.size:=Nat.le_trans (cutR_le2 _ _) (bodyB_le s)
theorem denT_miss {s:ByteArray} (h:hasD s=false):(denT s).size=0:=by
 unfold denT
 unfold hasD at h
 rcases ixB_cases (bodyB s) 47 with h1 | ⟨i,h1,h2⟩
 · rw [cutR_miss h1]; rfl
 · rw [cutK_hit h1] at h; cases h
theorem numB_dig2 {s:ByteArray} (h:natB s.data.toList=true) (hs:s.size ≤ 2000):(dig (numB s)).length ≤ 2000:=by
 have:=decF_lt (natB_iff.1 h).1
 rw [bsz] at this
 exact dig_le10 this hs
end Go.Proofs.YtcggohkbmhdohaaGreatDoor
