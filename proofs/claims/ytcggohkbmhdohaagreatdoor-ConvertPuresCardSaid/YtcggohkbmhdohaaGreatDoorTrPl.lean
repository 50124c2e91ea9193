/- texts merged: TrA TrB TrM TrC TrD TrE -/
import Derived.Test.YtcggohkbmhdohaaGreatDoorRtDF
import Derived.Test.YtcggohkbmhdohaaGreatDoorRtGI
namespace Go.Proofs.YtcggohkbmhdohaaGreatDoor
open Go.RowKit
set_option linter.unusedVariables false
structure Nd where
 kind:Int
 player:Int
 info:Int
 next:List Int
 odds:List ByteArray
 pay:ByteArray
def outB (n i:Nat) (k:Int):Bool:=decide (k ≤ (i:Int)) || decide ((n:Int) ≤ k)
def nextE (n i:Nat) (l:List Int):Int:=if l.length=0 then 3 else if 6 < l.length then 2 else if l.any (outB n i)=true then 3 else 0
def nodeE (n i:Nat) (x:Nd):Int :=
 if x.kind=0 then (if x.player ≠ 0 ∨ x.info ≠ 0 ∨ x.next.length ≠ 0 ∨ x.odds.length ≠ 0 then 3 else ratErr x.pay)
 else if x.kind=1 then (if x.player ≠ 0 ∨ x.info ≠ 0 ∨ x.pay.size ≠ 0 then 3 else if nextE n i x.next ≠ 0 then nextE n i x.next else if x.odds.length ≠ x.next.length then 3 else oddsE x.odds)
 else if x.kind=2 then (if x.odds.length ≠ 0 ∨ x.pay.size ≠ 0 then 3 else if (x.player ≠ 0 ∧ x.player ≠ 1) ∨ x.info < 0 ∨ 9 < x.info then 4 else nextE n i x.next)
 else 1
def nodesE (n:Nat):Nat → List Nd → Int
 | _,[] => 0
 | i,x :: t => if nodeE n i x ≠ 0 then nodeE n i x else nodesE n (i + 1) t
def hitsL (i:Nat) (k:Int) (l:List Int) (c:Nat):List (Int × Int) :=
 match l with
 | [] => []
 | n :: t => if n=k then ((i:Int),(c:Int)) :: hitsL i k t (c + 1) else hitsL i k t (c + 1)
def parL (k:Int):Nat → List Nd → List (Int × Int)
 | _,[] => []
 | i,x :: t => hitsL i k x.next 0 ++ parL k (i + 1) t
def parents (T:List Nd) (k:Int):List (Int × Int):=parL k 0 T
def isMove (x:Nd) (p q:Int):Bool:=(x.kind == 2) && (x.player == p) && (x.info == q)
def clash (x y:Nd):Bool:=(x.kind == 2) && (y.kind == 2) && (x.player == y.player) && (x.info == y.info) && (x.next.length != y.next.length)
def clashB (T:List Nd):Bool:=T.any fun x => T.any fun y => clash x y
def lostB (T:List Nd):Bool:=(List.range T.length).any fun k => decide (0 < k) && decide ((parents T (k:Int)).length ≠ 1)
def treeE (T:List Nd):Int :=
 if 120 < T.length then 2 else if T.length=0 then 8 else if nodesE T.length 0 T ≠ 0 then nodesE T.length 0 T else if lostB T=true then 3 else if clashB T=true then 3 else 0
def playerE (T:List Nd) (p:Int):Int:=if treeE T ≠ 0 then treeE T else if p ≠ 0 ∧ p ≠ 1 then 4 else 0
theorem nodesE_zero {n:Nat}:∀ {l:List Nd} {i:Nat},nodesE n i l=0 → ∀ (j:Nat) (x:Nd),l[j]?=some x → nodeE n (i + j) x=0
 | [],_,_,j,x,h => by simp at h
 | y :: t,i,h,j,x,hx => by
   rw [nodesE] at h
   by_cases h0:nodeE n i y=0
   · rw [if_neg (by simpa using h0)] at h
     cases j with
     | zero => simp at hx; subst hx; simpa using h0
     | succ j =>
       have:=nodesE_zero h j x (by simpa using hx)
       rw [show i + (j + 1)=i + 1 + j from by omega]; exact this
   · rw [if_pos h0] at h; exact absurd h h0
theorem nextE_zero {n i:Nat} {l:List Int} (h:nextE n i l=0):0 < l.length ∧ l.length ≤ 6 ∧ ∀ k ∈ l,(i:Int) < k ∧ k < (n:Int):=by
 unfold nextE at h
 by_cases h1:l.length=0
 · rw [if_pos h1] at h; cases h
 · rw [if_neg h1] at h
   by_cases h2:6 < l.length
   · rw [if_pos h2] at h; cases h
   · rw [if_neg h2] at h
     by_cases h3:l.any (outB n i)=true
     · rw [if_pos h3] at h; cases h
     · refine ⟨by omega,by omega,fun k hk => ?_⟩
       have h4:¬ outB n i k=true:=fun e => h3 (List.any_eq_true.2 ⟨k,hk,e⟩)
       unfold outB at h4
       simp only [Bool.or_eq_true,decide_eq_true_eq,not_or] at h4
       omega
structure Valid (T:List Nd):Prop where
 pos:0 < T.length
 len:T.length ≤ 120
 node:∀ (i:Nat) (x:Nd),T[i]?=some x →
  (x.kind=0 ∧ x.player=0 ∧ x.info=0 ∧ x.next=[] ∧ x.odds=[] ∧ ratErr x.pay=0) ∨
  (x.kind=1 ∧ x.player=0 ∧ x.info=0 ∧ x.pay.size=0 ∧ x.odds.length=x.next.length ∧ oddsE x.odds=0 ∧ nextE T.length i x.next=0) ∨
  (x.kind=2 ∧ x.odds=[] ∧ x.pay.size=0 ∧ (x.player=0 ∨ x.player=1) ∧ 0 ≤ x.info ∧ x.info ≤ 9 ∧ nextE T.length i x.next=0)
 par:∀ k:Nat,0 < k → k < T.length → (parents T (k:Int)).length=1
 wide:∀ x ∈ T,∀ y ∈ T,x.kind=2 → y.kind=2 → x.player=y.player → x.info=y.info → x.next.length=y.next.length
theorem valid_of {T:List Nd} (h:treeE T=0):Valid T:=by
 unfold treeE at h
 by_cases h1:120 < T.length
 · rw [if_pos h1] at h; cases h
 rw [if_neg h1] at h
 by_cases h2:T.length=0
 · rw [if_pos h2] at h; cases h
 rw [if_neg h2] at h
 by_cases h3:nodesE T.length 0 T=0
 · rw [if_neg (by simpa using h3)] at h
   by_cases h4:lostB T=true
   · rw [if_pos h4] at h; cases h
   rw [if_neg h4] at h
   by_cases h5:clashB T=true
   · rw [if_pos h5] at h; cases h
   refine ⟨by omega,by omega,fun i x hx => ?_,fun k hk hkl => ?_,fun x hx y hy e1 e2 e3 e4 => ?_⟩
   · have hn:=nodesE_zero h3 i x hx
     rw [Nat.zero_add] at hn
     unfold nodeE at hn
     by_cases k0:x.kind=0
     · rw [if_pos k0] at hn
       by_cases hb:x.player ≠ 0 ∨ x.info ≠ 0 ∨ x.next.length ≠ 0 ∨ x.odds.length ≠ 0
       · rw [if_pos hb] at hn; cases hn
       · rw [if_neg hb] at hn
         simp only [not_or,Classical.not_not] at hb
         exact .inl ⟨k0,hb.1,hb.2.1,List.eq_nil_of_length_eq_zero hb.2.2.1,List.eq_nil_of_length_eq_zero hb.2.2.2,hn⟩
     rw [if_neg k0] at hn
     by_cases k1:x.kind=1
     · rw [if_pos k1] at hn
       by_cases hb:x.player ≠ 0 ∨ x.info ≠ 0 ∨ x.pay.size ≠ 0
       · rw [if_pos hb] at hn; cases hn
       rw [if_neg hb] at hn
       simp only [not_or,Classical.not_not] at hb
       by_cases hx:nextE T.length i x.next=0
       · rw [if_neg (by simpa using hx)] at hn
         by_cases hl:x.odds.length=x.next.length
         · rw [if_neg (by simpa using hl)] at hn
           exact .inr (.inl ⟨k1,hb.1,hb.2.1,hb.2.2,hl,hn,hx⟩)
         · rw [if_pos hl] at hn; cases hn
       · rw [if_pos hx] at hn; exact absurd hn hx
     rw [if_neg k1] at hn
     by_cases k2:x.kind=2
     · rw [if_pos k2] at hn
       by_cases hb:x.odds.length ≠ 0 ∨ x.pay.size ≠ 0
       · rw [if_pos hb] at hn; cases hn
       rw [if_neg hb] at hn
       simp only [not_or,Classical.not_not] at hb
       by_cases hr:(x.player ≠ 0 ∧ x.player ≠ 1) ∨ x.info < 0 ∨ 9 < x.info
       · rw [if_pos hr] at hn; cases hn
       · rw [if_neg hr] at hn
         exact .inr (.inr ⟨k2,List.eq_nil_of_length_eq_zero hb.1,hb.2,by omega,by omega,by omega,hn⟩)
     · rw [if_neg k2] at hn; cases hn
   · by_cases hp:(parents T (k:Int)).length=1
     · exact hp
     · exact absurd (List.any_eq_true.2 ⟨k,List.mem_range.2 hkl,by simp [hk,hp]⟩) h4
   · by_cases hw:x.next.length=y.next.length
     · exact hw
     · exact absurd (List.any_eq_true.2 ⟨x,hx,List.any_eq_true.2 ⟨y,hy,by simp [clash,e1,e2,e3,e4,hw]⟩⟩) h5
 · rw [if_pos h3] at h; exact absurd h h3
theorem hitsL_mem {i:Nat} {k:Int} {p:Int × Int}:∀ {l:List Int} {c:Nat},p ∈ hitsL i k l c ↔ ∃ j:Nat,l[j]?=some k ∧ p=((i:Int),((c + j:Nat):Int))
 | [],c => by simp [hitsL]
 | n :: t,c => by
   rw [hitsL]
   have ih:=@hitsL_mem i k p t (c + 1)
   have key:(∃ j:Nat,(n :: t)[j]?=some k ∧ p=((i:Int),((c + j:Nat):Int))) ↔ (n=k ∧ p=((i:Int),(c:Int))) ∨ ∃ j:Nat,t[j]?=some k ∧ p=((i:Int),((c + 1 + j:Nat):Int)):=by
    constructor
    · rintro ⟨j,hj,rfl⟩
      cases j with
      | zero => simp at hj; exact .inl ⟨hj,rfl⟩
      | succ j => exact .inr ⟨j,by simpa using hj,by rw [show c + (j + 1)=c + 1 + j from by omega]⟩
    · rintro (⟨rfl,rfl⟩ | ⟨j,hj,rfl⟩)
      · exact ⟨0,rfl,rfl⟩
      · exact ⟨j + 1,by simpa using hj,by rw [show c + (j + 1)=c + 1 + j from by omega]⟩
   by_cases h:n=k
   · rw [if_pos h,List.mem_cons,ih,key]; simp [h]
   · rw [if_neg h,ih,key]; simp [h]
theorem parL_mem {k:Int} {p:Int × Int}:∀ {l:List Nd} {i:Nat},p ∈ parL k i l ↔ ∃ (a:Nat) (x:Nd) (j:Nat),l[a]?=some x ∧ x.next[j]?=some k ∧ p=(((i + a:Nat):Int),(j:Int))
 | [],i => by simp [parL]
 | y :: t,i => by
   rw [parL,List.mem_append,hitsL_mem,@parL_mem k p t (i + 1)]
   constructor
   · rintro (⟨j,hj,rfl⟩ | ⟨a,x,j,ha,hj,rfl⟩)
     · exact ⟨0,y,j,rfl,hj,by simp⟩
     · exact ⟨a + 1,x,j,by simpa using ha,hj,by rw [show i + (a + 1)=i + 1 + a from by omega]⟩
   · rintro ⟨a,x,j,ha,hj,rfl⟩
     cases a with
     | zero => simp at ha; subst ha; exact .inl ⟨j,hj,by simp⟩
     | succ a => exact .inr ⟨a,x,j,by simpa using ha,hj,by rw [show i + (a + 1)=i + 1 + a from by omega]⟩
theorem parents_mem {T:List Nd} {k:Int} {p:Int × Int}:p ∈ parents T k ↔ ∃ (a:Nat) (x:Nd) (j:Nat),T[a]?=some x ∧ x.next[j]?=some k ∧ p=((a:Int),(j:Int)):=by
 unfold parents
 rw [parL_mem]
 simp
theorem Valid.child {T:List Nd} (h:Valid T) {i:Nat} {x:Nd} (hx:T[i]?=some x) {k:Int} (hk:k ∈ x.next):(i:Int) < k ∧ k < (T.length:Int):=by
 rcases h.node i x hx with ⟨_,_,_,h0,_⟩ | ⟨_,_,_,_,_,_,h0⟩ | ⟨_,_,_,_,_,_,h0⟩
 · rw [h0] at hk; cases hk
 · exact (nextE_zero h0).2.2 k hk
 · exact (nextE_zero h0).2.2 k hk
theorem Valid.one {T:List Nd} (h:Valid T) {i c:Nat} {x:Nd} {k:Nat} (hx:T[i]?=some x) (hk:x.next[c]?=some (k:Int)):parents T (k:Int)=[((i:Int),(c:Int))]:=by
 have hlt:=h.child hx (List.mem_of_getElem? hk)
 have h1:=h.par k (by omega) (by omega)
 obtain ⟨p,hp⟩:=List.length_eq_one_iff.1 h1
 have:((i:Int),(c:Int)) ∈ parents T (k:Int):=parents_mem.2 ⟨i,x,c,hx,hk,rfl⟩
 rw [hp] at this ⊢
 rw [List.mem_singleton.1 this]
theorem Valid.has {T:List Nd} (h:Valid T) {k:Nat} (h0:0 < k) (hk:k < T.length):∃ (i c:Nat) (x:Nd),T[i]?=some x ∧ x.next[c]?=some (k:Int) ∧ i < k ∧ parents T (k:Int)=[((i:Int),(c:Int))]:=by
 have h1:=h.par k h0 hk
 obtain ⟨p,hp⟩:=List.length_eq_one_iff.1 h1
 have:p ∈ parents T (k:Int):=by rw [hp]; exact List.mem_singleton.2 rfl
 obtain ⟨a,x,j,ha,hj,rfl⟩:=parents_mem.1 this
 have hlt:=h.child ha (List.mem_of_getElem? hj)
 exact ⟨a,j,x,ha,hj,by omega,hp⟩
theorem Valid.uniq {T:List Nd} (h:Valid T) {i j c d:Nat} {x y:Nd} {k:Int} (hx:T[i]?=some x) (hk:x.next[c]?=some k) (hy:T[j]?=some y) (hk2:y.next[d]?=some k):i=j ∧ c=d:=by
 have hlt:=h.child hx (List.mem_of_getElem? hk)
 obtain ⟨n,rfl⟩:∃ n:Nat,(n:Int)=k:=⟨k.toNat,by omega⟩
 have e:=(h.one hx hk).symm.trans (h.one hy hk2)
 simp only [List.cons.injEq,Prod.mk.injEq,and_true] at e
 omega
def pathF (T:List Nd):Nat → Nat → List (Nat × Nat)
 | 0,_ => []
 | f + 1,k => if k=0 then [] else match (parents T (k:Int)).head? with
   | none => []
   | some p => pathF T f p.1.toNat ++ [(p.1.toNat,p.2.toNat)]
def path (T:List Nd) (k:Nat):List (Nat × Nat):=pathF T k k
theorem path_zero (T:List Nd):path T 0=[]:=rfl
theorem pathF_step {T:List Nd} (h:Valid T) {i c:Nat} {x:Nd} {k f:Nat} (hx:T[i]?=some x) (hk:x.next[c]?=some (k:Int)):pathF T (f + 1) k=pathF T f i ++ [(i,c)]:=by
 have hlt:=h.child hx (List.mem_of_getElem? hk)
 rw [pathF,if_neg (by omega),h.one hx hk]
 simp
theorem pathF_more {T:List Nd} (h:Valid T):∀ (f k:Nat),k < T.length → k ≤ f → pathF T f k=path T k
 | 0,k,_,hf => by
   have:k=0:=by omega
   subst this; rfl
 | f + 1,k,hk,hf => by
   by_cases h0:k=0
   · subst h0; rw [pathF,if_pos rfl]; rfl
   · obtain ⟨i,c,x,hx,hc,hi,_⟩:=h.has (by omega) hk
     rw [pathF_step h hx hc,pathF_more h f i (by omega) (by omega)]
     unfold path
     obtain ⟨k',rfl⟩:∃ k',k=k' + 1:=⟨k - 1,by omega⟩
     rw [pathF_step h hx hc]
     congr 1
     by_cases e:k'=f
     · subst e; exact (pathF_more h k' i (by omega) (by omega)).symm
     · exact (pathF_more h k' i (by omega) (by omega)).symm
 termination_by f => f
theorem path_step {T:List Nd} (h:Valid T) {i c:Nat} {x:Nd} {k:Nat} (hx:T[i]?=some x) (hk:x.next[c]?=some (k:Int)):path T k=path T i ++ [(i,c)]:=by
 have hlt:=h.child hx (List.mem_of_getElem? hk)
 rw [← pathF_more h (k + 1) k (by omega) (by omega),pathF_step h hx hk,pathF_more h k i (by omega) (by omega)]
theorem path_len {T:List Nd} (h:Valid T):∀ (n k:Nat),k ≤ n → k < T.length → (path T k).length ≤ k
 | n,k,hn,hk => by
   by_cases h0:k=0
   · subst h0; rw [path_zero]; exact Nat.le_refl _
   · obtain ⟨i,c,x,hx,hc,hi,_⟩:=h.has (by omega) hk
     match n,hn with
     | 0,hn => omega
     | n + 1,hn =>
       have:=path_len h n i (by omega) (by omega)
       rw [path_step h hx hc,List.length_append,List.length_singleton]
       omega
def ownS (T:List Nd) (p:Int) (s:Nat × Nat):Option (Int × Int) :=
 match T[s.1]? with
 | none => none
 | some x => if x.kind=2 ∧ x.player=p then some (x.info,(s.2:Int)) else none
def own (T:List Nd) (p:Int) (k:Nat):List (Int × Int):=(path T k).filterMap (ownS T p)
theorem own_zero (T:List Nd) (p:Int):own T p 0=[]:=rfl
theorem own_step {T:List Nd} (h:Valid T) (p:Int) {i c:Nat} {x:Nd} {k:Nat} (hx:T[i]?=some x) (hk:x.next[c]?=some (k:Int)) :
 own T p k=own T p i ++ if x.kind=2 ∧ x.player=p then [(x.info,(c:Int))] else []:=by
 unfold own
 rw [path_step h hx hk,List.filterMap_append]
 congr 1
 rw [List.filterMap_cons,List.filterMap_nil]
 unfold ownS
 rw [hx]
 dsimp only
 by_cases hc:x.kind=2 ∧ x.player=p
 · rw [if_pos hc,if_pos hc]
 · rw [if_neg hc,if_neg hc]
def remB (T:List Nd) (p:Int):Bool:=(List.range T.length).all fun i => (List.range T.length).all fun k =>
 match T[i]?,T[k]? with
 | some x,some y => !((x.kind == 2) && (y.kind == 2) && (x.player == p) && (y.player == p) && (x.info == y.info)) || (own T p i == own T p k)
 | _,_ => true
def widthT (T:List Nd) (p q:Int):Nat:=match T.find? (fun x => isMove x p q) with
 | some x => x.next.length
 | none => 0
def infosT (T:List Nd) (p:Int):List Int:=((List.range 10).map Int.ofNat).filter fun q => decide (0 < widthT T p q)
theorem Valid.lt {T:List Nd} {i:Nat} {x:Nd} (hx:T[i]?=some x):i < T.length:=(List.getElem?_eq_some_iff.1 hx).1
def doneP (T:List Nd) (i c k:Nat):Prop:=k=0 ∨ ∃ (a d:Nat) (x:Nd),T[a]?=some x ∧ x.next[d]?=some (k:Int) ∧ (a < i ∨ (a=i ∧ d < c))
theorem Valid.done_self {T:List Nd} (h:Valid T) {i:Nat} (hi:i < T.length) (c:Nat):doneP T i c i:=by
 by_cases h0:i=0
 · exact .inl h0
 · obtain ⟨a,d,x,hx,hd,ha,_⟩:=h.has (by omega) hi
   exact .inr ⟨a,d,x,hx,hd,.inl ha⟩
theorem doneP.zero {T:List Nd} {k:Nat} (h:doneP T 0 0 k):k=0:=by
 rcases h with h | ⟨a,d,x,_,_,h | h⟩
 · exact h
 · omega
 · omega
theorem Valid.done_all {T:List Nd} (h:Valid T) {k:Nat} (hk:k < T.length):doneP T T.length 0 k:=by
 by_cases h0:k=0
 · exact .inl h0
 · obtain ⟨a,d,x,hx,hd,ha,_⟩:=h.has (by omega) hk
   exact .inr ⟨a,d,x,hx,hd,.inl (Valid.lt hx)⟩
theorem Valid.done_succ {T:List Nd} (h:Valid T) {i c:Nat} {x:Nd} (hx:T[i]?=some x) {n k:Nat} (hn:x.next[c]?=some (n:Int)) (hd:doneP T i (c + 1) k):k=n ∨ (k ≠ n ∧ doneP T i c k):=by
 by_cases hk:k=n
 · exact .inl hk
 · refine .inr ⟨hk,?_⟩
   rcases hd with h0 | ⟨a,d,y,hy,hyd,hl⟩
   · exact .inl h0
   · refine .inr ⟨a,d,y,hy,hyd,?_⟩
     rcases hl with hl | ⟨rfl,hl⟩
     · exact .inl hl
     · refine .inr ⟨rfl,?_⟩
       by_cases e:d=c
       · subst e
         rw [hx] at hy
         obtain rfl:=Option.some.inj hy
         rw [hn] at hyd
         exact absurd (by have:=Option.some.inj hyd; omega) hk
       · omega
theorem doneP.next {T:List Nd} {i k:Nat} {x:Nd} (hx:T[i]?=some x) (hd:doneP T (i + 1) 0 k):doneP T i x.next.length k:=by
 rcases hd with h0 | ⟨a,d,y,hy,hyd,hl⟩
 · exact .inl h0
 · refine .inr ⟨a,d,y,hy,hyd,?_⟩
   by_cases e:a=i
   · subst e
     rw [hx] at hy
     obtain rfl:=Option.some.inj hy
     exact .inr ⟨rfl,(List.getElem?_eq_some_iff.1 hyd).1⟩
   · exact .inl (by omega)
theorem remB_iff {T:List Nd} {p:Int}:remB T p=true ↔ ∀ (i k:Nat) (x y:Nd),T[i]?=some x → T[k]?=some y → x.kind=2 → y.kind=2 → x.player=p → y.player=p → x.info=y.info → own T p i=own T p k:=by
 unfold remB
 rw [List.all_eq_true]
 constructor
 · intro h i k x y hx hy e1 e2 e3 e4 e5
   have h1:=h i (List.mem_range.2 (Valid.lt hx))
   rw [List.all_eq_true] at h1
   have h2:=h1 k (List.mem_range.2 (Valid.lt hy))
   rw [hx,hy] at h2
   simpa [e1,e2,e3,e4,e5] using h2
 · intro h i hi
   rw [List.all_eq_true]
   intro k hk
   have hi:=List.mem_range.1 hi
   have hk:=List.mem_range.1 hk
   rw [List.getElem?_eq_getElem hi,List.getElem?_eq_getElem hk]
   dsimp only
   by_cases hc:(T[i].kind=2 ∧ T[k].kind=2 ∧ T[i].player=p ∧ T[k].player=p ∧ T[i].info=T[k].info)
   · obtain ⟨e1,e2,e3,e4,e5⟩:=hc
     rw [h i k _ _ (List.getElem?_eq_getElem hi) (List.getElem?_eq_getElem hk) e1 e2 e3 e4 e5]
     simp
   · have:((T[i].kind == 2) && (T[k].kind == 2) && (T[i].player == p) && (T[k].player == p) && (T[i].info == T[k].info))=false:=by
      rw [Bool.eq_false_iff]
      intro e
      simp only [Bool.and_eq_true,beq_iff_eq] at e
      exact hc ⟨e.1.1.1.1,e.1.1.1.2,e.1.1.2,e.1.2,e.2⟩
     rw [this]; rfl
def knownB (T:List Nd) (p:Int) (i:Nat) (q:Int):Bool:=(T.take i).any fun x => isMove x p q
def freshB (T:List Nd) (p:Int) (i:Nat) (x:Nd):Bool:=(x.kind == 2) && (x.player == p) && !knownB T p i x.info
def waysL (T:List Nd) (p:Int):Nat → List (List (Int × Int))
 | 0 => [[]]
 | i + 1 => match T[i]? with
   | none => waysL T p i
   | some x => if freshB T p i x=true then waysL T p i ++ (List.range x.next.length).map (fun c:Nat => own T p i ++ [(x.info,(c:Int))]) else waysL T p i
def idxL (ws:List (List (Int × Int))) (o:List (Int × Int)):Nat:=ws.idxOf o
theorem isMove_iff {x:Nd} {p q:Int}:isMove x p q=true ↔ x.kind=2 ∧ x.player=p ∧ x.info=q:=by
 unfold isMove; simp [and_assoc]
theorem freshB_iff {T:List Nd} {p:Int} {i:Nat} {x:Nd}:freshB T p i x=true ↔ x.kind=2 ∧ x.player=p ∧ knownB T p i x.info=false:=by
 unfold freshB; simp [and_assoc]
theorem knownB_iff {T:List Nd} {p q:Int} {i:Nat}:knownB T p i q=true ↔ ∃ (j:Nat) (x:Nd),j < i ∧ T[j]?=some x ∧ x.kind=2 ∧ x.player=p ∧ x.info=q:=by
 unfold knownB
 rw [List.any_eq_true]
 constructor
 · rintro ⟨x,hx,hm⟩
   obtain ⟨j,hj⟩:=List.mem_iff_getElem?.1 hx
   rw [List.getElem?_take] at hj
   split at hj
   · exact ⟨j,x,‹_›,hj,isMove_iff.1 hm⟩
   · cases hj
 · rintro ⟨j,x,hj,hx,hm⟩
   exact ⟨x,List.mem_iff_getElem?.2 ⟨j,by rw [List.getElem?_take,if_pos hj]; exact hx⟩,isMove_iff.2 hm⟩
theorem knownB_mono {T:List Nd} {p q:Int} {i j:Nat} (h:knownB T p i q=true) (hij:i ≤ j):knownB T p j q=true:=by
 obtain ⟨a,x,ha,hx⟩:=knownB_iff.1 h
 exact knownB_iff.2 ⟨a,x,by omega,hx⟩
theorem knownB_zero (T:List Nd) (p q:Int):knownB T p 0 q=false:=rfl
theorem waysL_succ {T:List Nd} {p:Int} {i:Nat} {x:Nd} (hx:T[i]?=some x):waysL T p (i + 1)=if freshB T p i x=true then waysL T p i ++ (List.range x.next.length).map (fun c:Nat => own T p i ++ [(x.info,(c:Int))]) else waysL T p i:=by
 rw [waysL,hx]
theorem waysL_pre {T:List Nd} {p:Int}:∀ (d i:Nat),waysL T p i <+: waysL T p (i + d)
 | 0,i => List.prefix_refl _
 | d + 1,i => by
   refine (waysL_pre d i).trans ?_
   show waysL T p (i + d) <+: waysL T p (i + d + 1)
   rw [waysL]
   split
   · exact List.prefix_refl _
   · split
     · exact List.prefix_append _ _
     · exact List.prefix_refl _
theorem waysL_le {T:List Nd} {p:Int} {i j:Nat} (h:i ≤ j):waysL T p i <+: waysL T p j:=by
 have:=waysL_pre (T:=T) (p:=p) (j - i) i
 rwa [show i + (j - i)=j from by omega] at this
theorem waysL_pos (T:List Nd) (p:Int) (i:Nat):(waysL T p i)[0]?=some []:=by
 obtain ⟨t,ht⟩:=waysL_le (T:=T) (p:=p) (Nat.zero_le i)
 rw [← ht]; rfl
theorem known_first {T:List Nd} {p q:Int}:∀ {i:Nat},knownB T p i q=true → ∃ (j:Nat) (x:Nd),j < i ∧ T[j]?=some x ∧ x.kind=2 ∧ x.player=p ∧ x.info=q ∧ knownB T p j q=false
 | 0,h => by rw [knownB_zero] at h; cases h
 | i + 1,h => by
   by_cases hk:knownB T p i q=true
   · obtain ⟨j,x,hj,r⟩:=known_first hk
     exact ⟨j,x,by omega,r⟩
   · have hf:knownB T p i q=false:=by simpa using hk
     obtain ⟨j,x,hj,hx,e1,e2,e3⟩:=knownB_iff.1 h
     by_cases e:j=i
     · subst e; exact ⟨j,x,by omega,hx,e1,e2,e3,hf⟩
     · exact absurd (knownB_iff.2 ⟨j,x,by omega,hx,e1,e2,e3⟩) hk
theorem ways_at {T:List Nd} {p:Int} {j m c:Nat} {x:Nd} (hx:T[j]?=some x) (hf:freshB T p j x=true) (hc:c < x.next.length) (hm:j < m):(waysL T p m)[(waysL T p j).length + c]?=some (own T p j ++ [(x.info,(c:Int))]):=by
 obtain ⟨t,ht⟩:=waysL_le (T:=T) (p:=p) (show j + 1 ≤ m by omega)
 have e:=waysL_succ (p:=p) hx
 rw [if_pos hf] at e
 have h1:(waysL T p (j + 1))[(waysL T p j).length + c]?=some (own T p j ++ [(x.info,(c:Int))]):=by
  rw [e,List.getElem?_append_right (by omega),show (waysL T p j).length + c - (waysL T p j).length=c from by omega,List.getElem?_map,List.getElem?_range hc]; rfl
 rw [← ht,List.getElem?_append_left (List.getElem?_eq_some_iff.1 h1).1]
 exact h1
theorem ways_last {T:List Nd} {p:Int}:∀ (i:Nat) (w:List (Int × Int)),w ∈ waysL T p i → w ≠ [] → ∃ (v:List (Int × Int)) (q:Int) (c:Nat),w=v ++ [(q,(c:Int))] ∧ knownB T p i q=true
 | 0,w,h,hne => by
   rw [waysL,List.mem_singleton] at h; exact absurd h hne
 | i + 1,w,h,hne => by
   rw [waysL] at h
   cases hx:T[i]? with
   | none =>
     rw [hx] at h
     obtain ⟨v,q,c,e,hk⟩:=ways_last i w h hne
     exact ⟨v,q,c,e,knownB_mono hk (by omega)⟩
   | some x =>
     rw [hx] at h
     dsimp only at h
     by_cases hf:freshB T p i x=true
     · rw [if_pos hf] at h
       rcases List.mem_append.1 h with h | h
       · obtain ⟨v,q,c,e,hk⟩:=ways_last i w h hne
         exact ⟨v,q,c,e,knownB_mono hk (by omega)⟩
       · obtain ⟨c,_,rfl⟩:=List.mem_map.1 h
         obtain ⟨e1,e2,_⟩:=freshB_iff.1 hf
         exact ⟨own T p i,x.info,c,rfl,knownB_iff.2 ⟨i,x,by omega,hx,e1,e2,rfl⟩⟩
     · rw [if_neg hf] at h
       obtain ⟨v,q,c,e,hk⟩:=ways_last i w h hne
       exact ⟨v,q,c,e,knownB_mono hk (by omega)⟩
theorem ways_nodup (T:List Nd) (p:Int):∀ i,(waysL T p i).Nodup
 | 0 => by rw [waysL]; simp
 | i + 1 => by
   rw [waysL]
   cases hx:T[i]? with
   | none => exact ways_nodup T p i
   | some x =>
     dsimp only
     by_cases hf:freshB T p i x=true
     · rw [if_pos hf,List.nodup_append]
       refine ⟨ways_nodup T p i,?_,?_⟩
       · show List.Pairwise _ _
         rw [List.pairwise_map]
         refine List.nodup_range.imp fun {a b} hab e => hab ?_
         have:=List.append_cancel_left e
         simp at this
         omega
       · rintro a ha b hb rfl
         obtain ⟨c,_,rfl⟩:=List.mem_map.1 hb
         obtain ⟨v,q,d,e,hk⟩:=ways_last i _ ha (by simp)
         have e2:=List.append_inj_right' e rfl
         simp only [List.cons.injEq,Prod.mk.injEq,and_true] at e2
         rw [← e2.1,(freshB_iff.1 hf).2.2] at hk
         cases hk
     · rw [if_neg hf]; exact ways_nodup T p i
theorem idxL_at {ws:List (List (Int × Int))} (hn:ws.Nodup) {k:Nat} {o:List (Int × Int)} (h:ws[k]?=some o):idxL ws o=k:=by
 obtain ⟨hk,rfl⟩:=List.getElem?_eq_some_iff.1 h
 exact List.Nodup.idxOf_getElem hn k hk
theorem idxL_pre {ws vs:List (List (Int × Int))} {o:List (Int × Int)} (h:ws <+: vs) (ho:o ∈ ws):idxL vs o=idxL ws o:=by
 obtain ⟨t,rfl⟩:=h
 unfold idxL
 rw [List.idxOf_append,if_pos ho]
theorem ways_mem {T:List Nd} (hv:Valid T) {p:Int} (hr:remB T p=true):∀ (n k:Nat),k ≤ n → k < T.length → ∀ i c,doneP T i c k → own T p k ∈ waysL T p (if c=0 then i else i + 1)
 | n,k,hn,hk,i,c,hd => by
   rcases hd with h0 | ⟨a,d,x,hx,hxd,hl⟩
   · subst h0
     exact List.mem_of_getElem? (waysL_pos T p _)
   · have hlt:=hv.child hx (List.mem_of_getElem? hxd)
     have hai:a + 1 ≤ (if c=0 then i else i + 1):=by
      rcases hl with hl | ⟨hl,hdc⟩
      · split <;> omega
      · split <;> omega
     refine (waysL_le hai).subset ?_
     rw [own_step hv p hx hxd]
     have hda:own T p a ∈ waysL T p a:=by
      match n,hn with
      | 0,hn => omega
      | n + 1,hn =>
        have:=ways_mem hv hr n a (by omega) (by omega) a 0 (hv.done_self (by omega) 0)
        simpa using this
     by_cases hm:x.kind=2 ∧ x.player=p
     · rw [if_pos hm]
       by_cases hkn:knownB T p a x.info=true
       · obtain ⟨j,y,hj,hy,e1,e2,e3,e4⟩:=known_first hkn
         have ho:=remB_iff.1 hr a j x y hx hy hm.1 e1 hm.2 e2 e3.symm
         have hw:=hv.wide x (List.mem_of_getElem? hx) y (List.mem_of_getElem? hy) hm.1 e1 (hm.2.trans e2.symm) e3.symm
         have:=ways_at (p:=p) (m:=a + 1) (c:=d) hy (freshB_iff.2 ⟨e1,e2,by rw [e3]; exact e4⟩) (by rw [← hw]; exact (List.getElem?_eq_some_iff.1 hxd).1) (by omega)
         rw [ho,← e3]
         exact List.mem_of_getElem? this
       · have hfr:freshB T p a x=true:=freshB_iff.2 ⟨hm.1,hm.2,by simpa using hkn⟩
         exact List.mem_of_getElem? (ways_at (p:=p) (m:=a + 1) (c:=d) hx hfr (List.getElem?_eq_some_iff.1 hxd).1 (by omega))
     · rw [if_neg hm,List.append_nil]
       exact (waysL_le (by omega)).subset hda
structure NdAt (w:World) (b o:Nat) (x:Nd) (nv ov:Value):Prop where
 c0:w.cell? ⟨b,o,none⟩=some (.int .i64 x.kind)
 c1:w.cell? ⟨b,o + 1,none⟩=some (.int .i64 x.player)
 c2:w.cell? ⟨b,o + 2,none⟩=some (.int .i64 x.info)
 c3:w.cell? ⟨b,o + 3,none⟩=some nv
 c4:w.cell? ⟨b,o + 4,none⟩=some ov
 c5:w.cell? ⟨b,o + 5,none⟩=some (.string x.pay)
 n:Ints w nv x.next
 o:Strs w ov x.odds
theorem NdAt.ext {w w':World} {b o:Nat} {x:Nd} {nv ov:Value} (h:NdAt w b o x nv ov) (hx:Ext w w'):NdAt w' b o x nv ov :=
 ⟨hx.cell h.c0,hx.cell h.c1,hx.cell h.c2,hx.cell h.c3,hx.cell h.c4,hx.cell h.c5,h.n.ext hx,h.o.ext hx⟩
def TreeIn (w:World) (v:Value) (T:List Nd):Prop:=∃ (ao:Option Addr) (c:Nat),v=.slice ao T.length c ∧ T.length ≤ c ∧ (ao=none → c=0) ∧ T.length ≤ 17592186044416 ∧
 ∀ (i:Nat) (x:Nd),T[i]?=some x → ∃ b off nv ov,ao=some ⟨b,off,none⟩ ∧ NdAt w b (off + i * 6) x nv ov
theorem TreeIn.ext {w w':World} {v:Value} {T:List Nd} (h:TreeIn w v T) (hx:Ext w w'):TreeIn w' v T:=by
 obtain ⟨ao,c,h1,h2,h3,h4,h5⟩:=h
 refine ⟨ao,c,h1,h2,h3,h4,fun i x hi => ?_⟩
 obtain ⟨b,off,nv,ov,e,hn⟩:=h5 i x hi
 exact ⟨b,off,nv,ov,e,hn.ext hx⟩
def NdsOf (w:World) (ao:Option Addr) (T:List Nd):Prop:=∀ (i:Nat) (x:Nd),T[i]?=some x → ∃ b off nv ov,ao=some ⟨b,off,none⟩ ∧ NdAt w b (off + i * 6) x nv ov
theorem NdsOf.ext {w w':World} {ao:Option Addr} {T:List Nd} (h:NdsOf w ao T) (hx:Ext w w'):NdsOf w' ao T:=fun i x hi => by
 obtain ⟨b,off,nv,ov,e,hn⟩:=h i x hi
 exact ⟨b,off,nv,ov,e,hn.ext hx⟩
theorem TreeIn.open {w:World} {v:Value} {T:List Nd} (h:TreeIn w v T):∃ ao c,v=.slice ao T.length c ∧ T.length ≤ 17592186044416 ∧ NdsOf w ao T:=by
 obtain ⟨ao,c,h1,h2,h3,h4,h5⟩:=h
 exact ⟨ao,c,h1,h4,h5⟩
theorem NdsOf.at {w:World} {ao:Option Addr} {T:List Nd} (h:NdsOf w ao T) {i:Nat} {x:Nd} (hx:Hid (T[i]?=some x)):∃ b off no nc oo oc,ao=some ⟨b,off,none⟩ ∧
 w.cell? ⟨b,off + i * 6,none⟩=some (.int .i64 x.kind) ∧ w.cell? ⟨b,off + i * 6 + 1,none⟩=some (.int .i64 x.player) ∧ w.cell? ⟨b,off + i * 6 + 2,none⟩=some (.int .i64 x.info) ∧
 w.cell? ⟨b,off + i * 6 + 3,none⟩=some (.slice no x.next.length nc) ∧ w.cell? ⟨b,off + i * 6 + 4,none⟩=some (.slice oo x.odds.length oc) ∧ w.cell? ⟨b,off + i * 6 + 5,none⟩=some (.string x.pay) ∧
 CellsOf (Value.int .i64) w no x.next ∧ Strs w (.slice oo x.odds.length oc) x.odds ∧ Ints w (.slice no x.next.length nc) x.next:=by
 obtain ⟨b,off,nv,ov,e,hn⟩:=h i x hx.out
 obtain ⟨no,nc,rfl,_,h1⟩:=hn.n.open
 obtain ⟨oo,oc,rfl,_,h2⟩:=hn.o.open
 exact ⟨b,off,no,nc,oo,oc,e,hn.c0,hn.c1,hn.c2,hn.c3,hn.c4,hn.c5,h1,hn.o,hn.n⟩
def TreeSz (T:List Nd):Prop:=∀ x ∈ T,x.pay.size ≤ 9223372036854775806 ∧ ∀ s ∈ x.odds,s.size ≤ 9223372036854775806
abbrev Ch:=Int × List ByteArray
def StrIn (w:World) (v:Value) (S:List Ch):Prop:=∃ (ao:Option Addr) (c:Nat),v=.slice ao S.length c ∧ S.length ≤ c ∧ (ao=none → c=0) ∧ S.length ≤ 17592186044416 ∧
 ∀ (i:Nat) (x:Ch),S[i]?=some x → ∃ b off ov,ao=some ⟨b,off,none⟩ ∧ w.cell? ⟨b,off + i * 2,none⟩=some (.int .i64 x.1) ∧ w.cell? ⟨b,off + i * 2 + 1,none⟩=some ov ∧ Strs w ov x.2
def ChsOf (w:World) (ao:Option Addr) (S:List Ch):Prop:=∀ (i:Nat) (x:Ch),S[i]?=some x → ∃ b off ov,ao=some ⟨b,off,none⟩ ∧ w.cell? ⟨b,off + i * 2,none⟩=some (.int .i64 x.1) ∧ w.cell? ⟨b,off + i * 2 + 1,none⟩=some ov ∧ Strs w ov x.2
theorem ChsOf.ext {w w':World} {ao:Option Addr} {S:List Ch} (h:ChsOf w ao S) (hx:Ext w w'):ChsOf w' ao S:=fun i x hi => by
 obtain ⟨b,off,ov,e,h0,h1,h2⟩:=h i x hi
 exact ⟨b,off,ov,e,hx.cell h0,hx.cell h1,h2.ext hx⟩
theorem StrIn.ext {w w':World} {v:Value} {S:List Ch} (h:StrIn w v S) (hx:Ext w w'):StrIn w' v S:=by
 obtain ⟨ao,c,h1,h2,h3,h4,h5⟩:=h
 exact ⟨ao,c,h1,h2,h3,h4,ChsOf.ext h5 hx⟩
theorem StrIn.open {w:World} {v:Value} {S:List Ch} (h:StrIn w v S):∃ ao c,v=.slice ao S.length c ∧ S.length ≤ 17592186044416 ∧ ChsOf w ao S:=by
 obtain ⟨ao,c,h1,h2,h3,h4,h5⟩:=h
 exact ⟨ao,c,h1,h4,h5⟩
theorem ChsOf.at {w:World} {ao:Option Addr} {S:List Ch} (h:ChsOf w ao S) {i:Nat} {x:Ch} (hx:Hid (S[i]?=some x)):∃ b off oo oc,ao=some ⟨b,off,none⟩ ∧
 w.cell? ⟨b,off + i * 2,none⟩=some (.int .i64 x.1) ∧ w.cell? ⟨b,off + i * 2 + 1,none⟩=some (.slice oo x.2.length oc) ∧ Strs w (.slice oo x.2.length oc) x.2:=by
 obtain ⟨b,off,ov,e,h0,h1,h2⟩:=h i x hx.out
 obtain ⟨oo,oc,rfl,_,_⟩:=h2.open
 exact ⟨b,off,oo,oc,e,h0,h1,h2⟩
def StrSz (S:List Ch):Prop:=∀ x ∈ S,∀ s ∈ x.2,s.size ≤ 9223372036854775806
abbrev Pl:=List Int × ByteArray
def PlnsOf (w:World) (ao:Option Addr) (L:List Pl):Prop:=∀ (i:Nat) (x:Pl),L[i]?=some x → ∃ b off cv,ao=some ⟨b,off,none⟩ ∧ w.cell? ⟨b,off + i * 2,none⟩=some cv ∧ w.cell? ⟨b,off + i * 2 + 1,none⟩=some (.string x.2) ∧ Ints w cv x.1
def PlnIn (w:World) (v:Value) (L:List Pl):Prop:=∃ (ao:Option Addr) (c:Nat),v=.slice ao L.length c ∧ L.length ≤ c ∧ (ao=none → c=0) ∧ L.length ≤ 17592186044416 ∧ PlnsOf w ao L
theorem PlnsOf.ext {w w':World} {ao:Option Addr} {L:List Pl} (h:PlnsOf w ao L) (hx:Ext w w'):PlnsOf w' ao L:=fun i x hi => by
 obtain ⟨b,off,ov,e,h0,h1,h2⟩:=h i x hi
 exact ⟨b,off,ov,e,hx.cell h0,hx.cell h1,h2.ext hx⟩
theorem PlnIn.ext {w w':World} {v:Value} {L:List Pl} (h:PlnIn w v L) (hx:Ext w w'):PlnIn w' v L:=by
 obtain ⟨ao,c,h1,h2,h3,h4,h5⟩:=h
 exact ⟨ao,c,h1,h2,h3,h4,h5.ext hx⟩
theorem hitsL_snoc (i:Nat) (k n:Int):∀ (l:List Int) (c:Nat),hitsL i k (l ++ [n]) c=hitsL i k l c ++ (if n=k then [((i:Int),((c + l.length:Nat):Int))] else [])
 | [],c => by
   show hitsL i k [n] c=_
   rw [hitsL,hitsL,hitsL]
   by_cases h:n=k
   · rw [if_pos h,if_pos h]; rfl
   · rw [if_neg h,if_neg h]; rfl
 | a :: t,c => by
   rw [List.cons_append,hitsL,hitsL,hitsL_snoc i k n t (c + 1),List.length_cons,show c + 1 + t.length=c + (t.length + 1) from by omega]
   by_cases h:a=k
   · rw [if_pos h,if_pos h]; rfl
   · rw [if_neg h,if_neg h]
theorem parL_snoc (k:Int) (x:Nd):∀ (l:List Nd) (i:Nat),parL k i (l ++ [x])=parL k i l ++ hitsL (i + l.length) k x.next 0
 | [],i => by
   show parL k i [x]=_
   rw [parL,parL,parL,List.append_nil]; rfl
 | y :: t,i => by
   rw [List.cons_append,parL,parL,parL_snoc k x t (i + 1),List.append_assoc,List.length_cons,show i + 1 + t.length=i + (t.length + 1) from by omega]
def cntT (T:List Nd) (i c:Nat) (k:Int):Nat:=(parL k 0 (T.take i)).length + (match T[i]? with | none => 0 | some x => (hitsL i k (x.next.take c) 0).length)
theorem cntT_zero (T:List Nd) (k:Int):cntT T 0 0 k=0:=by
 unfold cntT
 rw [List.take_zero,parL]
 cases T[0]? <;> simp [hitsL]
theorem cntT_step {T:List Nd} {i c:Nat} {x:Nd} {n:Int} (hx:T[i]?=some x) (hn:x.next[c]?=some n) (k:Int):cntT T i (c + 1) k=cntT T i c k + (if n=k then 1 else 0):=by
 unfold cntT
 rw [hx]
 dsimp only
 obtain ⟨h1,h2⟩:=List.getElem?_eq_some_iff.1 hn
 rw [List.take_succ_eq_append_getElem h1,h2,hitsL_snoc,List.length_append]
 by_cases h:n=k
 · rw [if_pos h,if_pos h]; simp; omega
 · rw [if_neg h,if_neg h]; simp
theorem cntT_next {T:List Nd} {i:Nat} {x:Nd} (hx:T[i]?=some x) (k:Int):cntT T (i + 1) 0 k=cntT T i x.next.length k:=by
 unfold cntT
 rw [hx]
 obtain ⟨h1,h2⟩:=List.getElem?_eq_some_iff.1 hx
 have hl:(T.take i).length=i:=by rw [List.length_take]; omega
 rw [List.take_succ_eq_append_getElem h1,h2,parL_snoc,List.length_append,hl,Nat.zero_add]
 dsimp only
 rw [List.take_of_length_le (Nat.le_refl _)]
 cases T[i + 1]? <;> simp [hitsL]
theorem cntT_all {T:List Nd} {i:Nat} (hi:T.length ≤ i) (k:Int):cntT T i 0 k=(parents T k).length:=by
 unfold cntT
 rw [List.take_of_length_le hi,List.getElem?_eq_none hi]
 rfl
def calm (T:List Nd) (i:Nat):Prop:=∀ (a b:Nat) (x y:Nd),a < i → b < i → T[a]?=some x → T[b]?=some y → clash x y=false
theorem calm_all {T:List Nd} {i:Nat} (hi:T.length ≤ i):calm T i ↔ clashB T=false:=by
 unfold clashB
 constructor
 · intro h
   rw [Bool.eq_false_iff]
   intro e
   rw [List.any_eq_true] at e
   obtain ⟨x,hx,e⟩:=e
   rw [List.any_eq_true] at e
   obtain ⟨y,hy,e⟩:=e
   obtain ⟨a,ha⟩:=List.mem_iff_getElem?.1 hx
   obtain ⟨b,hb⟩:=List.mem_iff_getElem?.1 hy
   have h1:=Valid.lt ha
   have h2:=Valid.lt hb
   rw [h a b x y (by omega) (by omega) ha hb] at e
   cases e
 · intro h a b x y _ _ ha hb
   rw [Bool.eq_false_iff]
   intro e
   rw [Bool.eq_false_iff] at h
   exact h (List.any_eq_true.2 ⟨x,List.mem_of_getElem? ha,List.any_eq_true.2 ⟨y,List.mem_of_getElem? hb,e⟩⟩)
theorem clash_iff {x y:Nd}:clash x y=true ↔ x.kind=2 ∧ y.kind=2 ∧ x.player=y.player ∧ x.info=y.info ∧ x.next.length ≠ y.next.length:=by
 unfold clash; simp [and_assoc]
def sizeP (T:List Nd) (i:Nat) (f:Int × Int → Option Nat):Prop:=∀ pq:Int × Int,(f pq=none ∧ ∀ (a:Nat) (x:Nd),a < i → T[a]?=some x → isMove x pq.1 pq.2=false) ∨
 ∃ (a:Nat) (x:Nd),a < i ∧ T[a]?=some x ∧ isMove x pq.1 pq.2=true ∧ f pq=some x.next.length
theorem sizeP_skip {T:List Nd} {i:Nat} {f:Int × Int → Option Nat} (h:sizeP T i f) {x:Nd} (hx:T[i]?=some x) (hk:x.kind ≠ 2):sizeP T (i + 1) f:=fun pq => by
 rcases h pq with ⟨h1,h2⟩ | ⟨a,y,h1,h2⟩
 · refine .inl ⟨h1,fun a y ha hy => ?_⟩
   by_cases e:a=i
   · subst e
     rw [hx] at hy
     obtain rfl:=Option.some.inj hy
     rw [Bool.eq_false_iff]
     exact fun e => hk (isMove_iff.1 e).1
   · exact h2 a y (by omega) hy
 · exact .inr ⟨a,y,by omega,h2⟩
theorem sizeP_put {T:List Nd} {i:Nat} {f:Int × Int → Option Nat} (h:sizeP T i f) {x:Nd} (hx:T[i]?=some x) (hk:x.kind=2):sizeP T (i + 1) (fun pq => if pq=(x.player,x.info) then some x.next.length else f pq):=fun pq => by
 by_cases e:pq=(x.player,x.info)
 · refine .inr ⟨i,x,by omega,hx,?_,?_⟩
   · rw [e]; exact isMove_iff.2 ⟨hk,rfl,rfl⟩
   · show (if _ then _ else _)=_
     rw [if_pos e]
 · have e2:(if pq=(x.player,x.info) then some x.next.length else f pq)=f pq:=if_neg e
   show (_=none ∧ _) ∨ _
   dsimp only
   rw [e2]
   rcases h pq with ⟨h1,h2⟩ | ⟨a,y,h1,h2⟩
   · refine .inl ⟨h1,fun a y ha hy => ?_⟩
     by_cases e3:a=i
     · subst e3
       rw [hx] at hy
       obtain rfl:=Option.some.inj hy
       rw [Bool.eq_false_iff]
       intro e4
       obtain ⟨_,r1,r2⟩:=isMove_iff.1 e4
       exact e (by rw [r1,r2])
     · exact h2 a y (by omega) hy
   · exact .inr ⟨a,y,by omega,h2⟩
theorem calm_succ {T:List Nd} {i:Nat} {f:Int × Int → Option Nat} (h:sizeP T i f) (hc:calm T i) {x:Nd} (hx:T[i]?=some x) (hk:x.kind ≠ 2 ∨ f (x.player,x.info)=none ∨ f (x.player,x.info)=some x.next.length):calm T (i + 1):=by
 have key:∀ (b:Nat) (y:Nd),b < i → T[b]?=some y → clash x y=false:=fun b y hb hy => by
  rw [Bool.eq_false_iff]
  intro e
  obtain ⟨k1,k2,k3,k4,k5⟩:=clash_iff.1 e
  rcases hk with hk | hk | hk
  · exact hk k1
  · rcases h (x.player,x.info) with ⟨_,h2⟩ | ⟨a,z,_,_,_,h4⟩
    · have:=h2 b y hb hy
      rw [Bool.eq_false_iff] at this
      exact this (isMove_iff.2 ⟨k2,k3.symm,k4.symm⟩)
    · rw [hk] at h4; cases h4
  · rcases h (x.player,x.info) with ⟨h1,_⟩ | ⟨a,z,ha,hz,hm,h4⟩
    · rw [hk] at h1; cases h1
    · rw [hk] at h4
      have h5:=Option.some.inj h4
      obtain ⟨m1,m2,m3⟩:=isMove_iff.1 hm
      have:=hc a b z y ha hb hz hy
      rw [Bool.eq_false_iff] at this
      refine this (clash_iff.2 ⟨m1,k2,?_,?_,by omega⟩)
      · rw [m2]; exact k3
      · rw [m3]; exact k4
 have symm:∀ {u v:Nd},clash u v=false → clash v u=false:=fun {u v} e => by
  rw [Bool.eq_false_iff] at e ⊢
  intro e2
  obtain ⟨k1,k2,k3,k4,k5⟩:=clash_iff.1 e2
  exact e (clash_iff.2 ⟨k2,k1,k3.symm,k4.symm,fun h => k5 h.symm⟩)
 intro a b y z ha hb hy hz
 by_cases e1:a=i
 · subst e1
   rw [hx] at hy
   obtain rfl:=Option.some.inj hy
   by_cases e2:b=a
   · subst e2
     rw [hx] at hz
     obtain rfl:=Option.some.inj hz
     rw [Bool.eq_false_iff]
     exact fun e => (clash_iff.1 e).2.2.2.2 rfl
   · exact key b z (by omega) hz
 · by_cases e2:b=i
   · subst e2
     rw [hx] at hz
     obtain rfl:=Option.some.inj hz
     exact symm (key a y (by omega) hy)
   · exact hc a b y z (by omega) (by omega) hy hz
theorem calm_not {T:List Nd} {i:Nat} {f:Int × Int → Option Nat} (h:sizeP T i f) {x:Nd} {n:Nat} (hx:T[i]?=some x) (hk:x.kind=2) (hf:f (x.player,x.info)=some n) (hn:n ≠ x.next.length):clashB T=true:=by
 rcases h (x.player,x.info) with ⟨h1,_⟩ | ⟨a,z,ha,hz,hm,h4⟩
 · rw [hf] at h1; cases h1
 · rw [hf] at h4
   have h5:=Option.some.inj h4
   obtain ⟨m1,m2,m3⟩:=isMove_iff.1 hm
   exact List.any_eq_true.2 ⟨x,List.mem_of_getElem? hx,List.any_eq_true.2 ⟨z,List.mem_of_getElem? hz,clash_iff.2 ⟨hk,m1,m2.symm,m3.symm,by omega⟩⟩⟩
def pickP (S:List Ch) (q:Int) (c:Nat) (a:Rat):Rat:=S.foldl (fun a s => if s.1=q then a * ((s.2[c]?).map ratOf).getD 1 else a) a
def facP (T:List Nd) (G:Int → Option (List Ch)) (a:Rat) (s:Nat × Nat):Rat :=
 match T[s.1]? with
 | none => a
 | some x => if x.kind=1 then a * ((x.odds[s.2]?).map ratOf).getD 1 else if x.kind=2 then (match G x.player with | none => a | some S => pickP S x.info s.2 a) else a
def chanceT (T:List Nd) (G:Int → Option (List Ch)) (k:Nat):Rat:=(path T k).foldl (facP T G) 1
theorem chanceT_step {T:List Nd} (h:Valid T) (G:Int → Option (List Ch)) {i c:Nat} {x:Nd} {k:Nat} (hx:T[i]?=some x) (hk:x.next[c]?=some (k:Int)):chanceT T G k=facP T G (chanceT T G i) (i,c):=by
 unfold chanceT
 rw [path_step h hx hk,List.foldl_append]; rfl
def sumR (f:Nat → Rat):Nat → Rat
 | 0 => 0
 | n + 1 => sumR f n + f n
theorem sumR_congr {f g:Nat → Rat}:∀ {n:Nat},(∀ j,j < n → f j=g j) → sumR f n=sumR g n
 | 0,_ => rfl
 | n + 1,h => by rw [sumR,sumR,sumR_congr (n:=n) (fun j hj => h j (by omega)),h n (by omega)]
theorem sumR_add (f g:Nat → Rat):∀ n,sumR (fun j => f j + g j) n=sumR f n + sumR g n
 | 0 => by show (0:Rat)=0 + 0; grind
 | n + 1 => by rw [sumR,sumR,sumR,sumR_add f g n]; grind
theorem sumR_zero {f:Nat → Rat}:∀ {n:Nat},(∀ j,j < n → f j=0) → sumR f n=0
 | 0,_ => rfl
 | n + 1,h => by rw [sumR,sumR_zero (n:=n) (fun j hj => h j (by omega)),h n (by omega)]; grind
theorem sumR_one (g:Nat → Rat) (a:Nat):∀ n,sumR (fun j => if j=a then g j else 0) n=if a < n then g a else 0
 | 0 => by rw [if_neg (by omega)]; rfl
 | n + 1 => by
   rw [sumR,sumR_one g a n]
   by_cases h:n=a
   · subst h
     rw [if_neg (by omega),if_pos rfl,if_pos (by omega)]; grind
   · rw [if_neg h]
     by_cases h2:a < n
     · rw [if_pos h2,if_pos (by omega)]; grind
     · rw [if_neg h2,if_neg (by omega)]; grind
def lsum:List Rat → Rat
 | [] => 0
 | a :: t => a + lsum t
theorem lsum_snoc (a:Rat):∀ l:List Rat,lsum (l ++ [a])=lsum l + a
 | [] => by show a + 0=0 + a; grind
 | b :: t => by rw [List.cons_append,lsum,lsum,lsum_snoc a t]; grind
theorem sumR_mem (g:Nat → Rat) {n:Nat}:∀ {l:List Nat},l.Nodup → (∀ j ∈ l,j < n) → sumR (fun j => if j ∈ l then g j else 0) n=lsum (l.map g)
 | [],_,_ => sumR_zero fun j _ => by simp
 | a :: t,hn,hl => by
   obtain ⟨h1,h2⟩:=List.nodup_cons.1 hn
   rw [List.map_cons,lsum,← sumR_mem g h2 (fun j hj => hl j (List.mem_cons_of_mem _ hj))]
   have e:=sumR_one g a n
   rw [if_pos (hl a (List.mem_cons_self ..))] at e
   rw [← e,← sumR_add]
   refine sumR_congr fun j hj => ?_
   by_cases hja:j=a
   · subst hja
     rw [if_pos (List.mem_cons_self ..),if_pos rfl,if_neg h1]; grind
   · by_cases hjt:j ∈ t
     · rw [if_pos (List.mem_cons_of_mem _ hjt),if_neg hja,if_pos hjt]; grind
     · rw [if_neg (by simp [hja,hjt]),if_neg hja,if_neg hjt]; grind
def parN (T:List Nd) (k:Nat):Nat:=match (parents T (k:Int)).head? with
 | none => 0
 | some p => p.1.toNat
theorem parN_of {T:List Nd} (h:Valid T) {i c:Nat} {x:Nd} {k:Nat} (hx:T[i]?=some x) (hk:x.next[c]?=some (k:Int)):parN T k=i:=by
 unfold parN
 rw [h.one hx hk]
 simp
theorem Valid.next_nodup {T:List Nd} (h:Valid T) {i:Nat} {x:Nd} (hx:T[i]?=some x):(x.next.map Int.toNat).Nodup:=by
 show List.Pairwise _ _
 rw [List.pairwise_iff_getElem]
 intro a b ha hb hab e
 rw [List.length_map] at ha hb
 rw [List.getElem_map,List.getElem_map] at e
 have h1:=h.child hx (List.getElem_mem ha)
 have h2:=h.child hx (List.getElem_mem hb)
 have e3:x.next[a]=x.next[b]:=by omega
 have:=(h.uniq (c:=a) (d:=b) hx (List.getElem?_eq_getElem ha) hx (by rw [List.getElem?_eq_getElem hb,← e3])).2
 omega
theorem Valid.mem_next {T:List Nd} (h:Valid T) {i:Nat} {x:Nd} (hx:T[i]?=some x) {j:Nat} (hj:j < T.length):j ∈ x.next.map Int.toNat ↔ 0 < j ∧ parN T j=i:=by
 constructor
 · intro hm
   obtain ⟨k,hk,rfl⟩:=List.mem_map.1 hm
   have h1:=h.child hx hk
   obtain ⟨c,hc⟩:=List.mem_iff_getElem?.1 hk
   refine ⟨by omega,parN_of h (c:=c) hx ?_⟩
   rw [hc]; congr 1; omega
 · rintro ⟨h0,hp⟩
   obtain ⟨a,c,y,hy,hc,_,_⟩:=h.has h0 hj
   have e:=parN_of h hy hc
   rw [e] at hp
   subst hp
   rw [hx] at hy
   obtain rfl:=Option.some.inj hy
   exact List.mem_map.2 ⟨(j:Int),List.mem_of_getElem? hc,by simp⟩
theorem parN_lt {T:List Nd} (h:Valid T) {k:Nat} (h0:0 < k) (hk:k < T.length):parN T k < k:=by
 obtain ⟨a,c,y,hy,hc,ha,_⟩:=h.has h0 hk
 rw [parN_of h hy hc]; exact ha
theorem flow {T:List Nd} (h:Valid T) (r V:Nat → Rat) (pay:Nat → Rat)
 (hend:∀ (i:Nat) (x:Nd),T[i]?=some x → x.kind=0 → V i=pay i)
 (hmid:∀ (i:Nat) (x:Nd),T[i]?=some x → x.kind ≠ 0 → r i * V i=lsum ((x.next.map Int.toNat).map fun j => r j * V j)) :
 sumR (fun j => match T[j]? with | some x => if x.kind=0 then r j * pay j else 0 | none => 0) T.length=r 0 * V 0:=by
 let fr:Nat → Nat → Rat:=fun i j => match T[j]? with | some x => if x.kind=0 ∧ j < i then r j * pay j else 0 | none => 0
 let fs:Nat → Nat → Rat:=fun i j => if i ≤ j ∧ (j=0 ∨ parN T j < i) then r j * V j else 0
 have key:∀ i,i ≤ T.length → sumR (fun j => fr i j + fs i j) T.length=r 0 * V 0:=by
  intro i
  induction i with
  | zero =>
    intro _
    have e:=sumR_one (fun j => r j * V j) 0 T.length
    rw [if_pos h.pos] at e
    rw [← e]
    refine sumR_congr fun j hj => ?_
    have h1:fr 0 j=0:=by
     show (match T[j]? with | some x => _ | none => _)=_
     rw [List.getElem?_eq_getElem hj]
     dsimp only
     rw [if_neg (by omega)]
    have h2:fs 0 j=if j=0 then r j * V j else 0:=by
     show (if _ then _ else _)=_
     by_cases hj0:j=0
     · rw [if_pos ⟨Nat.zero_le _,.inl hj0⟩,if_pos hj0]
     · rw [if_neg (by omega),if_neg hj0]
    rw [h1,h2]; grind
  | succ i ih =>
    intro hi
    rw [← ih (by omega)]
    obtain ⟨x,hx⟩:∃ x,T[i]?=some x:=⟨T[i]'(by omega),List.getElem?_eq_getElem (by omega)⟩
    have hsum:=sumR_mem (fun j => r j * V j) (h.next_nodup hx) (n:=T.length) (fun j hj => by
     obtain ⟨k,hk,rfl⟩:=List.mem_map.1 hj
     have:=h.child hx hk
     omega)
    let d:Rat:=(if x.kind=0 then r i * pay i else 0) - r i * V i
    have e:sumR (fun j => fr (i + 1) j + fs (i + 1) j) T.length=sumR (fun j => (fr i j + fs i j) + ((if j=i then d else 0) + (if j ∈ x.next.map Int.toNat then r j * V j else 0))) T.length:=by
     refine sumR_congr fun j hj => ?_
     have hm:=h.mem_next hx hj
     have hfr:∀ a,fr a j=match T[j]? with | some x => if x.kind=0 ∧ j < a then r j * pay j else 0 | none => 0:=fun _ => rfl
     have hfs:∀ a,fs a j=if a ≤ j ∧ (j=0 ∨ parN T j < a) then r j * V j else 0:=fun _ => rfl
     rw [hfr,hfr,hfs,hfs]
     by_cases hji:j=i
     · subst hji
       rw [hx]
       dsimp only
       have hn:¬ (j ∈ x.next.map Int.toNat):=fun e => by
        have:=hm.1 e
        have:=parN_lt h this.1 hj
        omega
       have hp:j=0 ∨ parN T j < j:=by
        by_cases h0:j=0
        · exact .inl h0
        · exact .inr (parN_lt h (by omega) hj)
       rw [if_neg (show ¬ (j + 1 ≤ j ∧ (j=0 ∨ parN T j < j + 1)) by omega),if_neg (show ¬ (x.kind=0 ∧ j < j) by omega),if_pos (show j ≤ j ∧ (j=0 ∨ parN T j < j) from ⟨Nat.le_refl _,hp⟩),if_pos rfl,if_neg hn]
       show _=0 + r j * V j + ((if x.kind=0 then r j * pay j else 0) - r j * V j + 0)
       by_cases hk:x.kind=0
       · rw [if_pos ⟨hk,by omega⟩,if_pos hk]; grind
       · rw [if_neg (fun e => hk e.1),if_neg hk]; grind
     · rw [if_neg hji]
       have e1:∀ y:Nd,(if y.kind=0 ∧ j < i + 1 then r j * pay j else 0)=(if y.kind=0 ∧ j < i then r j * pay j else 0):=fun y => by
        by_cases hc:y.kind=0 ∧ j < i
        · rw [if_pos hc,if_pos ⟨hc.1,by omega⟩]
        · rw [if_neg hc,if_neg (fun e => hc ⟨e.1,by omega⟩)]
       rw [List.getElem?_eq_getElem hj]
       dsimp only
       rw [e1]
       by_cases hmm:j ∈ x.next.map Int.toNat
       · obtain ⟨h0,hp⟩:=hm.1 hmm
         have hlt:=parN_lt h h0 hj
         rw [if_pos (show i + 1 ≤ j ∧ (j=0 ∨ parN T j < i + 1) by omega),if_neg (show ¬ (i ≤ j ∧ (j=0 ∨ parN T j < i)) by omega),if_pos hmm]
         grind
       · have hp:¬ (0 < j ∧ parN T j=i):=fun e => hmm (hm.2 e)
         rw [if_neg hmm]
         by_cases hc:i ≤ j ∧ (j=0 ∨ parN T j < i)
         · rw [if_pos hc,if_pos (show i + 1 ≤ j ∧ (j=0 ∨ parN T j < i + 1) by omega)]; grind
         · rw [if_neg hc,if_neg (show ¬ (i + 1 ≤ j ∧ (j=0 ∨ parN T j < i + 1)) by omega)]; grind
    rw [e,sumR_add,sumR_add,sumR_add,hsum]
    have h1:=sumR_one (fun _ => d) i T.length
    rw [if_pos (show i < T.length by omega)] at h1
    rw [h1]
    by_cases hk:x.kind=0
    · have h2:x.next=[]:=by
       rcases h.node i x hx with ⟨_,_,_,h0,_⟩ | ⟨h0,_⟩ | ⟨h0,_⟩
       · exact h0
       · rw [hk] at h0; cases h0
       · rw [hk] at h0; cases h0
      have h3:d=0:=by
       show (if x.kind=0 then r i * pay i else 0) - r i * V i=0
       rw [if_pos hk,hend i x hx hk]; grind
      rw [h3,h2]
      show _ + ((0:Rat) + 0)=_
      grind
    · have h3:d=- (r i * V i):=by
       show (if x.kind=0 then r i * pay i else 0) - r i * V i=_
       rw [if_neg hk]; grind
      rw [h3,← hmid i x hx hk]
      grind
 have e:=key T.length (Nat.le_refl _)
 rw [← e]
 refine sumR_congr fun j hj => ?_
 have h1:fs T.length j=0:=if_neg (by omega)
 have h2:fr T.length j=match T[j]? with | some x => if x.kind=0 then r j * pay j else 0 | none => 0:=by
  show (match T[j]? with | some x => if x.kind=0 ∧ j < T.length then r j * pay j else 0 | none => 0)=_
  rw [List.getElem?_eq_getElem hj]
  dsimp only
  by_cases hk:T[j].kind=0
  · rw [if_pos ⟨hk,hj⟩,if_pos hk]
  · rw [if_neg (fun e => hk e.1),if_neg hk]
 rw [h1,h2]; grind
def lastP (S:List Ch) (q:Int) (c:Nat):Rat:=S.foldl (fun a s => if s.1=q then ((s.2[c]?).map ratOf).getD 0 else a) 0
def oddP (G:Int → List Ch) (x:Nd) (c:Nat):Rat:=if x.kind=1 then ((x.odds[c]?).map ratOf).getD 0 else lastP (G x.player) x.info c
def sumC (g:Nat → Nat → Rat):List Int → Nat → Rat
 | [],_ => 0
 | n :: t,c => g c n.toNat + sumC g t (c + 1)
def valF (T:List Nd) (G:Int → List Ch):Nat → Nat → Rat
 | 0,_ => 0
 | f + 1,k => match T[k]? with
   | none => 0
   | some x => if x.kind=0 then ratOf x.pay else sumC (fun c n => oddP G x c * valF T G f n) x.next 0
theorem sumC_congr {g h:Nat → Nat → Rat}:∀ {l:List Int} {c:Nat},(∀ d n,n ∈ l → g d n.toNat=h d n.toNat) → sumC g l c=sumC h l c
 | [],_,_ => rfl
 | a :: t,c,hh => by rw [sumC,sumC,hh c a (List.mem_cons_self ..),sumC_congr (l:=t) (fun d n hn => hh d n (List.mem_cons_of_mem _ hn))]
theorem valF_more {T:List Nd} (h:Valid T) (G:Int → List Ch):∀ (d k f g:Nat),k + d=T.length → d ≤ f → d ≤ g → valF T G f k=valF T G g k
 | d,k,f,g,hk,hf,hg => by
   by_cases hkn:k < T.length
   · match d,f,g,hf,hg with
     | 0,_,_,_,_ => omega
     | d + 1,f + 1,g + 1,hf,hg =>
       rw [valF,valF,List.getElem?_eq_getElem hkn]
       dsimp only
       split
       · rfl
       · refine sumC_congr fun c n hn => ?_
         have hc:=h.child (List.getElem?_eq_getElem hkn) hn
         congr 1
         exact valF_more h G (T.length - n.toNat) n.toNat f g (by omega) (by omega) (by omega)
   · cases f <;> cases g <;> simp [valF,List.getElem?_eq_none (show T.length ≤ k by omega)]
 termination_by d => d
 decreasing_by omega
def valT (T:List Nd) (G:Int → List Ch) (k:Nat):Rat:=valF T G T.length k
theorem valT_end {T:List Nd} (h:Valid T) (G:Int → List Ch) {i:Nat} {x:Nd} (hx:T[i]?=some x) (hk:x.kind=0):valT T G i=ratOf x.pay:=by
 have:=Valid.lt hx
 unfold valT
 rw [show T.length=T.length - 1 + 1 from by omega,valF,hx]
 dsimp only
 rw [if_pos hk]
theorem valT_mid {T:List Nd} (h:Valid T) (G:Int → List Ch) {i:Nat} {x:Nd} (hx:T[i]?=some x) (hk:x.kind ≠ 0):valT T G i=sumC (fun c n => oddP G x c * valT T G n) x.next 0:=by
 have hi:=Valid.lt hx
 unfold valT
 conv => lhs; rw [show T.length=T.length - 1 + 1 from by omega,valF,hx]
 dsimp only
 rw [if_neg hk]
 refine sumC_congr fun c n hn => ?_
 have hc:=h.child hx hn
 congr 1
 exact valF_more h G (T.length - n.toNat) n.toNat _ _ (by omega) (by omega) (by omega)
theorem sumC_lsum (g:Nat → Rat) (o:Nat → Rat) (a:Rat) (r:Nat → Rat):∀ (l:List Int) (c:Nat),(∀ d n,l[d]?=some n → r n.toNat=a * o (c + d)) → a * sumC (fun c n => o c * g n) l c=lsum ((l.map Int.toNat).map fun j => r j * g j)
 | [],c,_ => by show a * (0:Rat)=0; grind
 | n :: t,c,h => by
   rw [sumC,List.map_cons,List.map_cons,lsum,← sumC_lsum g o a r t (c + 1) (fun d m hd => by rw [h (d + 1) m (by simpa using hd)]; congr 2; omega),h 0 n rfl,Nat.add_zero]
   grind
theorem val_ends {T:List Nd} (h:Valid T) (G:Int → List Ch) (r:Nat → Rat) (h0:r 0=1) (hr:∀ (i c:Nat) (x:Nd) (k:Nat),T[i]?=some x → x.next[c]?=some (k:Int) → r k=r i * oddP G x c) :
 sumR (fun j => match T[j]? with | some x => if x.kind=0 then r j * ratOf x.pay else 0 | none => 0) T.length=valT T G 0:=by
 have hf:=flow h r (valT T G) (fun j => match T[j]? with | some x => ratOf x.pay | none => 0) (fun i x hx hk => by rw [hx]; exact valT_end h G hx hk) (fun i x hx hk => by
  rw [valT_mid h G hx hk]
  refine sumC_lsum _ _ _ r x.next 0 fun d n hd => ?_
  have hc:=h.child hx (List.mem_of_getElem? hd)
  rw [Nat.zero_add]
  exact hr i d x n.toNat hx (by rw [hd]; congr 1; omega))
 rw [h0] at hf
 rw [show valT T G 0=1 * valT T G 0 from by grind,← hf]
 refine sumR_congr fun j hj => ?_
 rw [List.getElem?_eq_getElem hj]
def maxAt (f:Nat → Rat) (s:Nat):Nat → Nat
 | 0 => 0
 | n + 1 => if f (s + maxAt f s n) < f (s + (n + 1)) then n + 1 else maxAt f s n
def hsL (T:List Nd) (p:Int) (g:Nat → Rat):Nat → Nat → Rat
 | 0 => g
 | d + 1 => match T[T.length - (d + 1)]? with
   | none => hsL T p g d
   | some x => if freshB T p (T.length - (d + 1)) x=true then
      let s:=(waysL T p (T.length - (d + 1))).length
      let k:=idxL (waysL T p (T.length - (d + 1))) (own T p (T.length - (d + 1)))
      let m:=hsL T p g d (s + maxAt (hsL T p g d) s (x.next.length - 1))
      fun j => if j=k then hsL T p g d j + m else hsL T p g d j
     else hsL T p g d
def rzB (P:Int → Nat) (w:List (Int × Int)):Bool:=w.all fun s => s.2 == ((P s.1:Nat):Int)
theorem rzB_snoc (P:Int → Nat) (w:List (Int × Int)) (q:Int) (c:Nat):rzB P (w ++ [(q,(c:Int))])=(rzB P w && (decide (c=P q))):=by
 unfold rzB
 rw [List.all_append]
 congr 1
 show ((c:Int) == ((P q:Nat):Int) && true)=_
 rw [Bool.and_true]
 by_cases h:c=P q
 · rw [decide_eq_true h,h]; simp
 · rw [decide_eq_false h,beq_eq_false_iff_ne]; omega
def worth (T:List Nd) (p:Int) (g:Nat → Rat) (P:Int → Nat) (d:Nat):Rat :=
 sumR (fun s => if rzB P ((waysL T p T.length).getD s [])=true then hsL T p g d s else 0) (waysL T p (T.length - d)).length
end Go.Proofs.YtcggohkbmhdohaaGreatDoor
