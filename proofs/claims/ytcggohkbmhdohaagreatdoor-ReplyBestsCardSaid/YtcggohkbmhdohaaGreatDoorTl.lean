/- a region that draws its order and ends with one store: the store is set behind the region -/
import Derived.StillTail
import Derived.Deep.RegionHeld3
namespace Go.Proofs.YtcggohkbmhdohaaGreatDoor
open Go
set_option linter.unusedVariables false
def LastQ (P:Program) (o:Oper) (Q:Exit → Act → World → Prop):Exit → Act → World → Prop
 | .normal,a,w => o.wp P a w (fun a' w' => Q .normal a' w') Q
 | e,a,w => Q e a w
def stand (o:Oper):Oper:={ o with op:=.move (.const (.bool false)) }
def setLast:List Oper → List Oper
 | [] => []
 | [o] => [stand o]
 | a :: b :: t => a :: setLast (b :: t)
theorem setLast_get:∀ (l:List Oper) (i:Nat),i + 1 < l.length → (setLast l)[i]?=l[i]?
 | [],i,h => by simp at h
 | [o],i,h => by simp at h
 | a :: b :: t,0,h => rfl
 | a :: b :: t,i + 1,h => by
   show (setLast (b :: t))[i]?=(b :: t)[i]?
   exact setLast_get (b :: t) i (by simpa using h)
theorem setLast_last:∀ (l:List Oper) (o:Oper) (n:Nat),l[n]?=some o → n + 1=l.length → (setLast l)[n]?=some (stand o)
 | [],o,n,h,h2 => by simp at h2
 | [a],o,0,h,h2 => by simp at h; subst h; rfl
 | [a],o,n + 1,h,h2 => by simp at h2
 | a :: b :: t,o,0,h,h2 => by simp at h2
 | a :: b :: t,o,n + 1,h,h2 => by
   show (setLast (b :: t))[n]?=_
   exact setLast_last (b :: t) o n (by simpa using h) (by simpa using h2)
theorem setLast_len:∀ l:List Oper,(setLast l).length=l.length
 | [] => rfl
 | [o] => rfl
 | a :: b :: t => by show (setLast (b :: t)).length + 1=_; rw [setLast_len (b :: t)]; rfl
theorem setLast_any (l:List Oper) (i:Nat):(l[i]?=none ∧ (setLast l)[i]?=none) ∨ ∃ o o',l[i]?=some o ∧ (setLast l)[i]?=some o' ∧ o'.after=o.after ∧ o'.dst=o.dst ∧ o'.guard=o.guard:=by
 rcases Nat.lt_or_ge i l.length with h | h
 · have e:l[i]?=some l[i]:=List.getElem?_eq_getElem h
   rcases Nat.lt_or_ge (i + 1) l.length with h2 | h2
   · exact .inr ⟨_,_,e,(setLast_get l i h2).trans e,rfl,rfl,rfl⟩
   · exact .inr ⟨_,_,e,setLast_last l _ i e (by omega),rfl,rfl,rfl⟩
 · exact .inl ⟨List.getElem?_eq_none h,List.getElem?_eq_none (by rw [setLast_len]; exact h)⟩
theorem setLast_ready (l:List Oper) (md:Region.Mode) (listed:Array Bool):Region.ready md (setLast l).toArray listed=Region.ready md l.toArray listed:=by
 unfold Region.ready
 rw [List.size_toArray,List.size_toArray,setLast_len]
 congr 1
 funext i
 rw [List.getElem?_toArray,List.getElem?_toArray]
 rcases setLast_any l i with ⟨h1,h2⟩ | ⟨o,o',h1,h2,h3,_⟩
 · rw [h1,h2]
 · rw [h1,h2]; simp only [Option.map_some]; rw [h3]
theorem setLast_yielded (l:List Oper) (tmps:Array Value):yielded (setLast l).toArray tmps=yielded l.toArray tmps:=by
 funext g
 unfold yielded
 rw [List.getElem?_toArray,List.getElem?_toArray]
 rcases setLast_any l g with ⟨h1,h2⟩ | ⟨o,o',h1,h2,_,h3,_⟩
 · rw [h1,h2]
 · rw [h1,h2]; simp only [Option.bind_some]; rw [h3]
theorem lastQ_wp {P:Program} {o r:Oper} {Q:Exit → Act → World → Prop} {K:Act → World → Prop} {a:Act} {w:World} (h:r.wp P a w K (LastQ P o Q)):r.wp P a w K Q:=by
 unfold Oper.wp at *
 generalize (execOp a.eval r).run P w=x at *
 cases x with
 | ok n w' => cases n <;> exact h
 | halt y w' => cases y <;> exact h
def backB (md:Region.Mode) (l:List Oper):Bool:=(List.range l.length).all fun j => match l[j]? with
 | some o => o.after.toList.all fun e => !Region.binds md e || decide (e.on < j)
 | none => true
theorem ready_ne {l:List Oper} {md:Region.Mode} {n:Nat} {listed:Array Bool} (hb:backB md l=true) (hn:n < l.length) (hl:listed.getD n true=false) (hs:listed.size=l.length):Region.ready md l.toArray listed ≠ []:=by
 have key:∀ n,n < l.length → listed.getD n true=false → ∃ j,j ∈ Region.ready md l.toArray listed:=by
  intro n
  induction n using Nat.strongRecOn with
  | _ n ih =>
    intro hn hl
    by_cases hx:∃ i,i < n ∧ listed.getD i true=false
    · obtain ⟨i,h1,h2⟩:=hx
      exact ih i h1 (by omega) h2
    · refine ⟨n,mem_ready.2 ⟨hl,l[n],by rw [List.getElem?_toArray]; exact List.getElem?_eq_getElem hn,fun e he hbd => ?_⟩⟩
      have h1:=List.all_eq_true.1 hb n (List.mem_range.2 hn)
      rw [List.getElem?_eq_getElem hn] at h1
      have h2:=List.all_eq_true.1 h1 e (by simpa using he)
      simp only [hbd,Bool.not_true,Bool.false_or,decide_eq_true_eq] at h2
      cases hg:listed.getD e.on true with
      | true =>
        have:e.on < listed.size:=by omega
        simp [this] at hg ⊢
        exact hg
      | false => exact absurd ⟨e.on,h2,hg⟩ hx
 obtain ⟨j,hj⟩:=key n hn hl
 intro e
 rw [e] at hj
 cases hj
theorem wpAny_last {P:Program} {md:Region.Mode} {l:List Oper} {o:Oper} {n:Nat} {Q:Exit → Act → World → Prop} (hn:n + 1=l.length) (ho:l[n]?=some o) (hs:Region.sinkB md l.toArray n=true) (hc:Region.chainB md l.toArray n=true) (hb:backB md l=true) (hg:o.guard=none) (hd:o.dst=none) :
 ∀ (fuel:Nat) (listed:Array Bool) (a:Act) (w:World),HeadInv md l.toArray n listed → wpAny P md (setLast l).toArray (LastQ P o Q) fuel listed a w → wpAny P md l.toArray Q fuel listed a w:=by
 intro fuel
 induction fuel with
 | zero =>
   intro listed a w inv h
   have h1:=h.1
   rw [setLast_ready] at h1
   exact absurd h1 (ready_ne hb (show n < l.length by omega) (inv.tail n (Nat.le_refl _) (by rw [List.size_toArray]; omega)) (by rw [inv.size,List.size_toArray]))
 | succ fuel ih =>
   intro listed a w inv h
   obtain ⟨_,h1⟩:=h
   rw [setLast_ready] at h1
   refine ⟨fun e => absurd e (ready_ne hb (show n < l.length by omega) (inv.tail n (Nat.le_refl _) (by rw [List.size_toArray]; omega)) (by rw [inv.size,List.size_toArray])),fun i hi => ?_⟩
   have hw:=h1 i hi
   obtain ⟨hil,oi,hoi,_⟩:=mem_ready.1 hi
   rw [List.getElem?_toArray] at hoi
   have hilt:=(List.getElem?_eq_some_iff.1 hoi).1
   rcases Nat.lt_or_ge i n with hin | hin
   · have hop:(setLast l)[i]?=some oi:=by rw [setLast_get l i (by omega)]; exact hoi
     unfold wpOp at hw ⊢
     rw [List.getElem?_toArray,hop] at hw
     rw [List.getElem?_toArray,hoi]
     simp only at hw ⊢
     rw [setLast_yielded] at hw
     split
     · rename_i hwd
       rw [if_pos hwd] at hw
       rcases hw with hw | ⟨hw,hl⟩
       · exact .inl (Oper.wp_mono (fun a w hk => ih _ a w (inv.set hi hin) hk) (lastQ_wp hw))
       · exact .inr ⟨hw,hl⟩
     · rename_i hwd
       rw [if_neg hwd] at hw
       exact ih _ _ w (inv.set hi hin) hw
   · have hie:i=n:=by omega
     subst hie
     rw [ho] at hoi
     cases hoi
     have hall:∀ j,j < i → listed.getD j true=true:=fun j hj => by
      cases hx:listed.getD j true with
      | true => rfl
      | false => exact absurd hi (tail_waits hs hc (by rw [List.size_toArray]; omega) inv (i - j) j rfl hj hx i (Nat.le_refl _))
     have hnil:Region.ready md l.toArray (listed.setIfInBounds i true)=[]:=by
      cases hr:Region.ready md l.toArray (listed.setIfInBounds i true) with
      | nil => rfl
      | cons j t =>
        have hj:j ∈ Region.ready md l.toArray (listed.setIfInBounds i true):=by rw [hr]; exact List.mem_cons_self ..
        obtain ⟨h3,oj,h4,_⟩:=mem_ready.1 hj
        rw [List.getElem?_toArray] at h4
        have hjl:=(List.getElem?_eq_some_iff.1 h4).1
        by_cases hji:i=j
        · subst hji
          have:i < listed.size:=by rw [inv.size,List.size_toArray]; omega
          simp [this] at h3
        · rw [getD_set_ne true hji,hall j (by omega)] at h3
          cases h3
     have hop:=setLast_last l o i ho hn
     have hend:LastQ P o Q .normal a w:=by
      unfold wpOp at hw
      rw [List.getElem?_toArray,hop] at hw
      have hgd:(stand o).guard=none:=hg
      have hwt:Region.wanted (stand o) (yielded (setLast l).toArray a.tmps)=true:=by unfold Region.wanted; rw [hgd]
      simp only [hwt,if_true] at hw
      have hput:a.put (stand o).dst (.bool false)=a:=by
       have:(stand o).dst=none:=hd
       rw [this]; rfl
      have fin:∀ f,wpAny P md (setLast l).toArray (LastQ P o Q) f (listed.setIfInBounds i true) a w → LastQ P o Q .normal a w:=fun f hf => by
       cases f with
       | zero => exact hf.2
       | succ f => exact hf.1 (by rw [setLast_ready]; exact hnil)
      rcases hw with hw | ⟨hw,_⟩
      · have:wpAny P md (setLast l).toArray (LastQ P o Q) fuel (listed.setIfInBounds i true) (a.put (stand o).dst (.bool false)) w:=hw
        rw [hput] at this
        exact fin _ this
      · have h9:=hw.1
        exfalso
        revert h9
        show noRoomEvent ∈ #[] → False
        simp
     have hq:o.wp P a w (fun a' w' => Q .normal a' w') Q:=hend
     unfold wpOp
     rw [List.getElem?_toArray,ho]
     have hwt:Region.wanted o (yielded l.toArray a.tmps)=true:=by unfold Region.wanted; rw [hg]
     simp only [hwt,if_true]
     refine .inl (Oper.wp_mono (fun a' w' hk => ?_) hq)
     cases fuel with
     | zero => exact ⟨hnil,hk⟩
     | succ f => exact ⟨fun _ => hk,fun j hj => by rw [hnil] at hj; cases hj⟩
theorem wp_region_last {P:Program} {id:Nat} {l l':List Oper} {o:Oper} {Q:Exit → Act → World → Prop} {S:World → Prop} {a:Act} {w:World} (n:Nat) (hm:P.follows .mixedOrders=true) (hl:setLast l=l') (hn:n + 1=l.length) (ho:l[n]?=some o)
 (hs:Region.sinkB .any l.toArray n=true) (hc:Region.chainB .any l.toArray n=true) (hb:backB .any l=true) (hg:o.guard=none) (hd:o.dst=none) (hS:S w.drew)
 (h:S w.drew → wpAnyH P .any l'.toArray (LastQ P o Q) S l'.toArray.size (Array.replicate l'.toArray.size false) a w.drew):(Code.region id l.toArray true).wp P Q a w:=by
 have inv0:HeadInv .any l.toArray n (Array.replicate l.toArray.size false) :=
  ⟨by simp,(fun j oj _ hl => by rw [getD_replicate_false] at hl; cases hl),fun t ht ht2 => getD_in (by simpa using ht2) (getD_replicate_false _ _)⟩
 refine wp_region_any hm (wpAny_last hn ho hs hc hb hg hd _ _ _ _ inv0 ?_)
 have h1:=wpAny_of_held _ _ _ _ (h hS)
 have e:l'.toArray.size=l.toArray.size:=by rw [← hl,List.size_toArray,List.size_toArray,setLast_len]
 rw [e,← hl] at h1
 exact h1
end Go.Proofs.YtcggohkbmhdohaaGreatDoor
