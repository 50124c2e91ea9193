/- texts merged: TrY ShelfC TrZ TrAA TrAB TrAC TrAD TrAE TrAF TrAG TrAH TrAI MaxOf -/
import Derived.Test.YtcggohkbmhdohaaGreatDoorTrQX
import Derived.Shelf.Strings.Builder1
import Derived.Shelf.LaysM
import Derived.Test.YtcggohkbmhdohaaGreatDoorProg
import Derived.Deep.DeepMust
import Derived.OwnWalk
import Derived.Test.YtcggohkbmhdohaaGreatDoorRtGI
import Derived.Test.YtcggohkbmhdohaaGreatDoorShelf
namespace Go.Proofs.YtcggohkbmhdohaaGreatDoor
open Go.RowKit
set_option linter.unusedVariables false
open Go.Shelf Go.RowKit
section
variable {w WS:World} {b j:Nat} {x:Value} {l:List Value}
end
def flatN:List (Nd × Value × Value) → List Value
 | [] => []
 | p :: t => .int .i64 p.1.kind :: .int .i64 p.1.player :: .int .i64 p.1.info :: p.2.1 :: p.2.2 :: .string p.1.pay :: flatN t
theorem flatN_get:∀ (L:List (Nd × Value × Value)) (i:Nat) (p:Nd × Value × Value),L[i]?=some p →
 (flatN L)[i * 6]?=some (.int .i64 p.1.kind) ∧ (flatN L)[i * 6 + 1]?=some (.int .i64 p.1.player) ∧ (flatN L)[i * 6 + 2]?=some (.int .i64 p.1.info) ∧
 (flatN L)[i * 6 + 3]?=some p.2.1 ∧ (flatN L)[i * 6 + 4]?=some p.2.2 ∧ (flatN L)[i * 6 + 5]?=some (.string p.1.pay)
 | [],i,p,h => by simp at h
 | q :: t,0,p,h => by
   simp only [List.getElem?_cons_zero,Option.some.injEq] at h
   subst h
   exact ⟨rfl,rfl,rfl,rfl,rfl,rfl⟩
 | q :: t,i + 1,p,h => by
   have:=flatN_get t i p (by simpa using h)
   have e:(i + 1) * 6=i * 6 + 6:=by omega
   rw [e]
   exact this
theorem treeIn_of {w:World} {b off c:Nat} (L:List (Nd × Value × Value)) (hc:∀ (j:Nat) u,(flatN L)[j]?=some u → w.cell? ⟨b,off + j,none⟩=some u) (hn:∀ p ∈ L,Ints w p.2.1 p.1.next ∧ Strs w p.2.2 p.1.odds) (hl:L.length ≤ c) (h2:L.length ≤ 17592186044416) :
 TreeIn w (.slice (some ⟨b,off,none⟩) L.length c) (L.map (·.1)):=by
 refine ⟨some ⟨b,off,none⟩,c,(by rw [List.length_map]),(by rw [List.length_map]; exact hl),(fun e => by cases e),(by rw [List.length_map]; exact h2),fun i x hx => ?_⟩
 rw [List.getElem?_map] at hx
 cases hp:L[i]? with
 | none => rw [hp] at hx; cases hx
 | some p =>
   rw [hp] at hx
   obtain rfl:=Option.some.inj hx
   obtain ⟨g0,g1,g2,g3,g4,g5⟩:=flatN_get L i p hp
   obtain ⟨hi,ho⟩:=hn p (List.mem_of_getElem? hp)
   exact ⟨b,off,p.2.1,p.2.2,rfl,⟨hc _ _ g0,by rw [Nat.add_assoc]; exact hc _ _ g1,by rw [Nat.add_assoc]; exact hc _ _ g2,by rw [Nat.add_assoc]; exact hc _ _ g3,by rw [Nat.add_assoc]; exact hc _ _ g4,by rw [Nat.add_assoc]; exact hc _ _ g5,hi,ho⟩⟩
theorem lit_tree (w:World) (e:TypeId) (L:List (Nd × Value × Value)) (k:Nat) (hk:k=w.heap.size) (hn:∀ p ∈ L,Ints w p.2.1 p.1.next ∧ Strs w p.2.2 p.1.odds) (h2:L.length ≤ 1000) :
 TreeIn (w.alloc (.cells (flatN L).toArray e)) (.slice (some ⟨k,0,none⟩) L.length L.length) (L.map (·.1)):=by
 subst hk
 refine treeIn_of L (fun j u hu => ?_) (fun p hp => ?_) (Nat.le_refl _) (by omega)
 · rw [Nat.zero_add]
   have hb:(w.alloc (.cells (flatN L).toArray e)).heap[w.heap.size]?=some (.cells (flatN L).toArray e):=by rw [← World.alloc_eq]; simp
   rw [cell_of_obj' hb]
   simpa using hu
 · exact ⟨(hn p hp).1.ext ((Ext.refl w).alloc _),(hn p hp).2.ext ((Ext.refl w).alloc _)⟩
def guessT:List Nd:=[⟨2,0,0,[1,2],[],⟨#[]⟩⟩,⟨2,1,3,[3,4],[],⟨#[]⟩⟩,⟨2,1,3,[5,6],[],⟨#[]⟩⟩,⟨0,0,0,[],[],⟨#[45,49]⟩⟩,⟨0,0,0,[],[],⟨#[49]⟩⟩,⟨0,0,0,[],[],⟨#[49]⟩⟩,⟨0,0,0,[],[],⟨#[45,49]⟩⟩]
def guessL (k:Nat):List (Nd × Value × Value):=[(⟨2,0,0,[1,2],[],⟨#[]⟩⟩,.slice (some ⟨k,0,none⟩) 2 2,.slice none 0 0),(⟨2,1,3,[3,4],[],⟨#[]⟩⟩,.slice (some ⟨k + 1,0,none⟩) 2 2,.slice none 0 0),(⟨2,1,3,[5,6],[],⟨#[]⟩⟩,.slice (some ⟨k + 1 + 1,0,none⟩) 2 2,.slice none 0 0),(⟨0,0,0,[],[],⟨#[45,49]⟩⟩,.slice none 0 0,.slice none 0 0),(⟨0,0,0,[],[],⟨#[49]⟩⟩,.slice none 0 0,.slice none 0 0),(⟨0,0,0,[],[],⟨#[49]⟩⟩,.slice none 0 0,.slice none 0 0),(⟨0,0,0,[],[],⟨#[45,49]⟩⟩,.slice none 0 0,.slice none 0 0)]
set_option maxHeartbeats 1600000 in
set_option maxRecDepth 100000 in
theorem guess_any (w:World):Calls Tryz.prog 41 #[] w fun e w' => ∃ u,e=.returned u ∧ TreeIn w' u guessT ∧ Ext w w':=by
 have hI:∀ (W:World) (a b:Int) (k:Nat),k=W.heap.size → Ints (W.alloc (.cells #[.int .i64 a,.int .i64 b] 3)) (.slice (some ⟨k,0,none⟩) 2 2) [a,b]:=fun W a b k hk => by
  subst hk
  exact own_rowOf (xs:=[a,b]) (World.ownsRow_lit (base:=W.heap.size) (e:=3) (size:=1) W #[.int .i64 a,.int .i64 b] 2 (Nat.le_refl _) (by unfold maxLen; omega) (by simp)) (by omega)
 obtain ⟨k,hk⟩:∃ k,w.heap.size=k:=⟨_,rfl⟩
 obtain ⟨W1,hW1⟩:∃ W1,w.alloc (.cells #[.int .i64 1,.int .i64 2] 3)=W1:=⟨_,rfl⟩
 obtain ⟨W2,hW2⟩:∃ W2,W1.alloc (.cells #[.int .i64 3,.int .i64 4] 3)=W2:=⟨_,rfl⟩
 obtain ⟨W3,hW3⟩:∃ W3,W2.alloc (.cells #[.int .i64 5,.int .i64 6] 3)=W3:=⟨_,rfl⟩
 have k1:W1.heap.size=k + 1:=by rw [← hW1,World.size_alloc,hk]
 have k2:W2.heap.size=k + 1 + 1:=by rw [← hW2,World.size_alloc,k1]
 have k3:W3.heap.size=k + 1 + 1 + 1:=by rw [← hW3,World.size_alloc,k2]
 have X1:Ext w W1:=by rw [← hW1]; exact (Ext.refl w).alloc _
 have X2:Ext W1 W2:=by rw [← hW2]; exact (Ext.refl W1).alloc _
 have X3:Ext W2 W3:=by rw [← hW3]; exact (Ext.refl W2).alloc _
 have i1:Ints W3 (.slice (some ⟨k,0,none⟩) 2 2) [1,2]:=((by rw [← hW1]; exact hI w 1 2 k hk.symm:Ints W1 _ _).ext X2).ext X3
 have i2:Ints W3 (.slice (some ⟨k + 1,0,none⟩) 2 2) [3,4]:=(by rw [← hW2]; exact hI W1 3 4 (k + 1) k1.symm:Ints W2 _ _).ext X3
 have i3:Ints W3 (.slice (some ⟨k + 1 + 1,0,none⟩) 2 2) [5,6]:=by rw [← hW3]; exact hI W2 5 6 (k + 1 + 1) k2.symm
 have nI:Ints W3 (.slice none 0 0) []:=Row.nil _
 have nS:Strs W3 (.slice none 0 0) []:=Row.nil _
 have HT:=Lib.hid (lit_tree W3 79 (guessL k) (k + 1 + 1 + 1) k3.symm (fun p hp => by
  unfold guessL at hp
  simp only [List.mem_cons,List.not_mem_nil,or_false] at hp
  rcases hp with rfl | rfl | rfl | rfl | rfl | rfl | rfl
  · exact ⟨i1,nS⟩
  · exact ⟨i2,nS⟩
  · exact ⟨i3,nS⟩
  · exact ⟨nI,nS⟩
  · exact ⟨nI,nS⟩
  · exact ⟨nI,nS⟩
  · exact ⟨nI,nS⟩) (by unfold guessL; simp))
 have HX:=Lib.hid ((X1.trans X2).trans X3)
 clear i1 i2 i3 nI nS X1 X2 X3 hI
 go_enter Tryz.func41,Tryz.ntmps41
 go_wp2_with fail
 go_ret
 exact ⟨_,rfl,HT.out,HX.out.alloc _⟩
end Go.Proofs.YtcggohkbmhdohaaGreatDoor
