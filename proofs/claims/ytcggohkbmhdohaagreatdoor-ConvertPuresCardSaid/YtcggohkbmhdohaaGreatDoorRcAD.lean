/- texts merged: RcA RcB RcC RcD -/
import Derived.Test.YtcggohkbmhdohaaGreatDoorTrPl
import Derived.Test.YtcggohkbmhdohaaGreatDoorTrQX
import Derived.BigQuiet
import Derived.Test.YtcggohkbmhdohaaGreatDoorTwS
import Derived.Test.YtcggohkbmhdohaaGreatDoorMk
import Derived.Test.YtcggohkbmhdohaaGreatDoorTrKO
import Derived.Deep.RegionHeld3
namespace Go.Proofs.YtcggohkbmhdohaaGreatDoor
open Go.RowKit
set_option linter.unusedVariables false
def firstI (T:List Nd) (p:Int):Nat → Int → Option Nat
 | 0,_ => none
 | i + 1,q => match firstI T p i q with
   | some j => some j
   | none => match T[i]? with
     | none => none
     | some x => if isMove x p q=true then some i else none
theorem firstI_none {T:List Nd} {p q:Int}:∀ {i:Nat},firstI T p i q=none → knownB T p i q=false
 | 0,_ => rfl
 | i + 1,h => by
   rw [firstI] at h
   cases hf:firstI T p i q with
   | some j => rw [hf] at h; cases h
   | none =>
     rw [hf] at h
     dsimp only at h
     have ih:=firstI_none hf
     rw [Bool.eq_false_iff]
     intro hk
     obtain ⟨j,y,hj,hy,e1,e2,e3⟩:=knownB_iff.1 hk
     by_cases hji:j=i
     · subst hji
       rw [hy] at h
       dsimp only at h
       rw [if_pos (isMove_iff.2 ⟨e1,e2,e3⟩)] at h
       cases h
     · rw [knownB_iff.2 ⟨j,y,by omega,hy,e1,e2,e3⟩] at ih
       cases ih
theorem firstI_some {T:List Nd} {p q:Int} {j:Nat}:∀ {i:Nat},firstI T p i q=some j → ∃ x,j < i ∧ T[j]?=some x ∧ isMove x p q=true ∧ knownB T p j q=false
 | 0,h => by cases h
 | i + 1,h => by
   rw [firstI] at h
   cases hf:firstI T p i q with
   | some k =>
     rw [hf] at h
     dsimp only at h
     obtain rfl:=Option.some.inj h
     obtain ⟨x,h1,h2⟩:=firstI_some hf
     exact ⟨x,by omega,h2⟩
   | none =>
     rw [hf] at h
     dsimp only at h
     cases hx:T[i]? with
     | none => rw [hx] at h; cases h
     | some x =>
       rw [hx] at h
       dsimp only at h
       by_cases hm:isMove x p q=true
       · rw [if_pos hm] at h
         obtain rfl:=Option.some.inj h
         exact ⟨x,by omega,hx,hm,firstI_none hf⟩
       · rw [if_neg hm] at h; cases h
theorem firstI_more {T:List Nd} {p q:Int} {i j:Nat} (h:firstI T p i q=some j):∀ d,firstI T p (i + d) q=some j
 | 0 => h
 | d + 1 => by rw [← Nat.add_assoc,firstI,firstI_more h d]
theorem firstI_le {T:List Nd} {p q:Int} {i j m:Nat} (h:firstI T p i q=some j) (hm:i ≤ m):firstI T p m q=some j:=by
 have:=firstI_more h (m - i)
 rwa [show i + (m - i)=m by omega] at this
theorem firstI_skip {T:List Nd} {p:Int} {i:Nat} {x:Nd} (hx:T[i]?=some x) (hm:¬ (x.kind=2 ∧ x.player=p)):firstI T p (i + 1)=firstI T p i:=by
 funext q
 rw [firstI,hx]
 have h1:¬ isMove x p q=true:=fun e => hm ⟨(isMove_iff.1 e).1,(isMove_iff.1 e).2.1⟩
 cases firstI T p i q with
 | some j => rfl
 | none => dsimp only; rw [if_neg h1]
theorem firstI_keep {T:List Nd} {p:Int} {i j:Nat} {x:Nd} (hx:T[i]?=some x) (hf:firstI T p i x.info=some j):firstI T p (i + 1)=firstI T p i:=by
 funext q
 rw [firstI,hx]
 cases hq:firstI T p i q with
 | some j => rfl
 | none =>
   dsimp only
   by_cases h1:isMove x p q=true
   · rw [(isMove_iff.1 h1).2.2] at hf
     rw [hf] at hq; cases hq
   · rw [if_neg h1]
theorem firstI_put {T:List Nd} {p:Int} {i:Nat} {x:Nd} (hx:T[i]?=some x) (hk:x.kind=2) (hp:x.player=p) (hf:firstI T p i x.info=none):firstI T p (i + 1)=fun q => if q=x.info then some i else firstI T p i q:=by
 funext q
 rw [firstI,hx]
 dsimp only
 by_cases h:q=x.info
 · subst h
   rw [hf,if_pos rfl,if_pos (isMove_iff.2 ⟨hk,hp,rfl⟩)]
 · rw [if_neg h]
   have h1:¬ isMove x p q=true:=fun e => h (isMove_iff.1 e).2.2.symm
   cases firstI T p i q with
   | some j => rfl
   | none => dsimp only; rw [if_neg h1]
theorem firstI_all {T:List Nd} {p:Int} {i:Nat} {x:Nd} (hx:T[i]?=some x) (hk:x.kind=2) (hp:x.player=p):∃ j,firstI T p T.length x.info=some j ∧ j ≤ i:=by
 have hi:=Valid.lt hx
 cases hf:firstI T p (i + 1) x.info with
 | none =>
   have:=firstI_none hf
   rw [knownB_iff.2 ⟨i,x,by omega,hx,hk,hp,rfl⟩] at this
   cases this
 | some j =>
   obtain ⟨y,h1,_⟩:=firstI_some hf
   exact ⟨j,firstI_le hf (by omega),by omega⟩
def heldR (T:List Nd) (p:Int) (i:Nat):Prop:=∀ (a:Nat) (x:Nd) (j:Nat),a < i → T[a]?=some x → x.kind=2 → x.player=p → firstI T p T.length x.info=some j → own T p a=own T p j
theorem heldR_zero (T:List Nd) (p:Int):heldR T p 0:=fun a x j h => absurd h (by omega)
theorem heldR_skip {T:List Nd} {p:Int} {i:Nat} {x:Nd} (h:heldR T p i) (hx:T[i]?=some x) (hm:¬ (x.kind=2 ∧ x.player=p)):heldR T p (i + 1):=fun a y j ha hy hk hp hf => by
 by_cases e:a=i
 · subst e
   rw [hx] at hy
   obtain rfl:=Option.some.inj hy
   exact absurd ⟨hk,hp⟩ hm
 · exact h a y j (by omega) hy hk hp hf
theorem heldR_put {T:List Nd} {p:Int} {i:Nat} {x:Nd} (h:heldR T p i) (hx:T[i]?=some x) (hk0:x.kind=2) (hp0:x.player=p) (hf0:firstI T p i x.info=none):heldR T p (i + 1):=fun a y j ha hy hk hp hf => by
 by_cases e:a=i
 · subst e
   rw [hx] at hy
   obtain rfl:=Option.some.inj hy
   have h1:firstI T p (a + 1) x.info=some a:=by rw [firstI_put hx hk0 hp0 hf0]; exact if_pos rfl
   have h2:=firstI_le h1 (show a + 1 ≤ T.length by have:=Valid.lt hx; omega)
   rw [hf] at h2
   rw [Option.some.inj h2]
 · exact h a y j (by omega) hy hk hp hf
theorem heldR_keep {T:List Nd} {p:Int} {i k:Nat} {x:Nd} (h:heldR T p i) (hx:T[i]?=some x) (hf0:firstI T p i x.info=some k) (ho:own T p i=own T p k):heldR T p (i + 1):=fun a y j ha hy hk hp hf => by
 by_cases e:a=i
 · subst e
   rw [hx] at hy
   obtain rfl:=Option.some.inj hy
   have h2:=firstI_le hf0 (show a ≤ T.length by have:=Valid.lt hx; omega)
   rw [hf] at h2
   rw [Option.some.inj h2]; exact ho
 · exact h a y j (by omega) hy hk hp hf
theorem remB_held {T:List Nd} {p:Int} (h:heldR T p T.length):remB T p=true:=by
 rw [remB_iff]
 intro i k x y hx hy e1 e2 e3 e4 e5
 obtain ⟨j,hj,_⟩:=firstI_all hx e1 e3
 rw [h i x j (Valid.lt hx) hx e1 e3 hj]
 rw [e5] at hj
 exact (h k y j (Valid.lt hy) hy e2 e4 hj).symm
theorem remB_not {T:List Nd} {p:Int} {i k:Nat} {x:Nd} (hx:T[i]?=some x) (hk:x.kind=2) (hp:x.player=p) (hf:firstI T p i x.info=some k) (ho:own T p i ≠ own T p k):remB T p=false:=by
 rw [Bool.eq_false_iff]
 intro h
 obtain ⟨y,_,hy,hm,_⟩:=firstI_some hf
 obtain ⟨e1,e2,e3⟩:=isMove_iff.1 hm
 exact ho (remB_iff.1 h i k x y hx hy hk e1 hp e2 e3.symm)
def seqsL (T:List Nd) (p:Int):Nat → List (Int × Int × Int)
 | 0 => [(-1,-1,-1)]
 | i + 1 => match T[i]? with
   | none => seqsL T p i
   | some x => if freshB T p i x=true then seqsL T p i ++ (List.range x.next.length).map (fun c:Nat => (x.info,(c:Int),((idxL (waysL T p i) (own T p i):Nat):Int))) else seqsL T p i
theorem seqsL_succ {T:List Nd} {p:Int} {i:Nat} {x:Nd} (hx:T[i]?=some x):seqsL T p (i + 1)=if freshB T p i x=true then seqsL T p i ++ (List.range x.next.length).map (fun c:Nat => (x.info,(c:Int),((idxL (waysL T p i) (own T p i):Nat):Int))) else seqsL T p i:=by
 rw [seqsL,hx]
theorem seqsL_len (T:List Nd) (p:Int):∀ i,(seqsL T p i).length=(waysL T p i).length
 | 0 => rfl
 | i + 1 => by
   rw [seqsL,waysL]
   cases T[i]? with
   | none => exact seqsL_len T p i
   | some x =>
     dsimp only
     by_cases h:freshB T p i x=true
     · rw [if_pos h,if_pos h,List.length_append,List.length_append,seqsL_len T p i]; simp
     · rw [if_neg h,if_neg h,seqsL_len T p i]
theorem Valid.wide1 {T:List Nd} (h:Valid T) {i:Nat} {x:Nd} (hx:T[i]?=some x) (hk:x.kind=2):0 < x.next.length ∧ x.next.length ≤ 6 ∧ 0 ≤ x.info ∧ x.info ≤ 9 ∧ (x.player=0 ∨ x.player=1):=by
 rcases h.node i x hx with ⟨h0,_⟩ | ⟨h0,_⟩ | ⟨_,_,_,hp,h1,h2,h0⟩
 · rw [hk] at h0; cases h0
 · rw [hk] at h0; cases h0
 · exact ⟨(nextE_zero h0).1,(nextE_zero h0).2.1,h1,h2,hp⟩
theorem fresh_first {T:List Nd} {p:Int} {i:Nat} {x:Nd} (hk:x.kind=2) (hp:x.player=p):freshB T p i x=true ↔ firstI T p i x.info=none:=by
 rw [freshB_iff]
 constructor
 · rintro ⟨_,_,h⟩
   cases hf:firstI T p i x.info with
   | none => rfl
   | some j =>
     obtain ⟨y,h1,h2,h3,_⟩:=firstI_some hf
     obtain ⟨m1,m2,m3⟩:=isMove_iff.1 h3
     rw [knownB_iff.2 ⟨j,y,h1,h2,m1,m2,m3⟩] at h; cases h
 · intro h
   exact ⟨hk,hp,firstI_none h⟩
def atN (T:List Nd) (p:Int) (k:Nat):Nat:=idxL (waysL T p T.length) (own T p k)
theorem atN_zero (T:List Nd) (p:Int):atN T p 0=0:=by
 unfold atN
 rw [own_zero]
 exact idxL_at (ways_nodup T p _) (waysL_pos T p _)
theorem own_in {T:List Nd} (hv:Valid T) {p:Int} (hr:remB T p=true) {i:Nat} (hi:i < T.length):own T p i ∈ waysL T p i:=by
 have:=ways_mem hv hr i i (Nat.le_refl _) hi i 0 (hv.done_self hi 0)
 simpa using this
theorem atN_before {T:List Nd} (hv:Valid T) {p:Int} (hr:remB T p=true) {i:Nat} (hi:i < T.length):idxL (waysL T p i) (own T p i)=atN T p i :=
 (idxL_pre (waysL_le (by omega)) (own_in hv hr hi)).symm
theorem atN_same {T:List Nd} (hv:Valid T) {p:Int} {i c k:Nat} {x:Nd} (hx:T[i]?=some x) (hk:x.next[c]?=some (k:Int)) (hm:¬ (x.kind=2 ∧ x.player=p)):atN T p k=atN T p i:=by
 unfold atN
 rw [own_step hv p hx hk,if_neg hm,List.append_nil]
theorem atN_own {T:List Nd} (hv:Valid T) {p:Int} (hr:remB T p=true) {i c k j:Nat} {x:Nd} (hx:T[i]?=some x) (hk:x.next[c]?=some (k:Int)) (h1:x.kind=2) (h2:x.player=p) (hf:firstI T p (i + 1) x.info=some j):atN T p k=(waysL T p j).length + c:=by
 obtain ⟨y,hj,hy,hm,hkn⟩:=firstI_some hf
 obtain ⟨m1,m2,m3⟩:=isMove_iff.1 hm
 have ho:=remB_iff.1 hr i j x y hx hy h1 m1 h2 m2 m3.symm
 have hw:=hv.wide x (List.mem_of_getElem? hx) y (List.mem_of_getElem? hy) h1 m1 (h2.trans m2.symm) m3.symm
 unfold atN
 rw [own_step hv p hx hk,if_pos ⟨h1,h2⟩,ho,← m3]
 exact idxL_at (ways_nodup T p _) (ways_at (p:=p) hy (freshB_iff.2 ⟨m1,m2,by rw [m3]; exact hkn⟩) (by rw [← hw]; exact (List.getElem?_eq_some_iff.1 hk).1) (by have:=Valid.lt hx; omega))
theorem ways_size {T:List Nd} (hv:Valid T) (p:Int):∀ i,i ≤ T.length → (waysL T p i).length ≤ 1 + 6 * i
 | 0,_ => by rw [waysL]; simp
 | i + 1,h => by
   have ih:=ways_size hv p i (by omega)
   obtain ⟨x,hx⟩:∃ x,T[i]?=some x:=⟨T[i],List.getElem?_eq_getElem (by omega)⟩
   rw [waysL_succ hx]
   by_cases hf:freshB T p i x=true
   · have:=(hv.wide1 hx (freshB_iff.1 hf).1).2.1
     rw [if_pos hf,List.length_append,List.length_map,List.length_range]; omega
   · rw [if_neg hf]; omega
set_option maxHeartbeats 3200000 in
set_option maxRecDepth 100000 in
theorem equal2_any (u v:Value) (ps qs:List (Int × Int)) (w:World) (hu:P2In w u ps) (hv:P2In w v qs) :
 Calls Tryz.prog 104 #[u,v] w fun e w' => e=.returned (.bool (decide (ps=qs))) ∧ Ext w w':=by
 obtain ⟨wo,rfl⟩:∃ wo:World,wo=w:=⟨_,rfl⟩
 obtain ⟨ao,c,rfl,hl1,hp⟩:=hu.open
 obtain ⟨bo,d,rfl,hl2,hq⟩:=hv.open
 have HP:=Lib.hid hp
 have HQ:=Lib.hid hq
 clear hp hq hu hv
 by_cases hl:ps.length=qs.length
 · have HLL:=Lib.hid hl
   obtain ⟨R,hR⟩:∃ R,decide (ps=qs)=R:=⟨_,rfl⟩
   have HR:=Lib.hid hR
   rw [hR,← hl]
   clear hl hR hl2
   go_enter Tryz.func104,Tryz.ntmps104
   go_wp2_with fail
   go_loopw [13] (fun iv wr => ∃ (i:Nat),i ≤ ps.length ∧ iv=.int .i64 i ∧ Hid (ps.take i=qs.take i) ∧ Ext wo wr) (fun iv _ => ps.length - (intOf iv).toNat)
   case atStart => exact ⟨0,Nat.zero_le _,rfl,by show _=_; rw [List.take_zero,List.take_zero],Ext.refl _⟩
   case round =>
    obtain ⟨i,hi,rfl,HE,X⟩:=hrel
    by_cases hlt:i < ps.length
    · obtain ⟨p,d1,d2,d3⟩:=get_lt hlt
      obtain ⟨q,e1,e2,e3⟩:=get_lt (xs:=qs) (k:=i) (by rw [← HLL.out]; exact hlt)
      obtain ⟨b,off,rfl,c0,c1⟩:=(HP.out.ext X).at d1
      obtain ⟨b2,off2,rfl,f0,f1⟩:=(HQ.out.ext X).at e1
      have hii:(i:Int) < (ps.length:Int):=by omega
      have HNE:=Lib.hid (take_ne d1.out e1.out)
      have HEQ:=Lib.hid (fun (h:p=q) => (by rw [d3.out,e3.out,HE.out,h]:ps.take (i + 1)=qs.take (i + 1)))
      obtain ⟨p1,p2⟩:=p
      obtain ⟨q1,q2⟩:=q
      dsimp only at c0 c1 f0 f1
      by_cases h1:p1=q1 ∧ p2=q2
      · obtain ⟨rfl,rfl⟩:=h1
        have HE2:=Lib.hid (HEQ.out rfl)
        have g1:(p1 == p1)=true:=by simp
        have g2:(p2 == p2)=true:=by simp
        clear d1 d2 d3 e1 e2 e3 hlt HNE HEQ HE
        go_wp2_with fail
        go_quiet (fail)
        go_wp2_with fail
        go_roundw
        case rel => exact ⟨i + 1,by omega,by go_num,HE2,X.drewN _⟩
        case measure => simp [intOf]; omega
      · have hr:R=false:=by
         rw [← HR.out,decide_eq_false_iff_not]
         refine HNE.out fun e => h1 ?_
         rw [Prod.mk.injEq] at e
         exact e
        subst hr
        have g:(p1 == q1 && p2 == q2)=false:=by
         rw [Bool.eq_false_iff]
         intro e
         rw [Bool.and_eq_true,beq_iff_eq,beq_iff_eq] at e
         exact h1 e
        have g1:(!(p1 == q1 && p2 == q2))=true:=by rw [g]; rfl
        clear d1 d2 d3 e1 e2 e3 hlt HNE HEQ HE h1
        go_wp2_with fail
        go_quiet (fail)
        go_wp2_with fail
        go_ret
        exact ⟨rfl,X.drewN _⟩
    · have hr:R=true:=by
       rw [← HR.out,decide_eq_true_eq]
       have h1:=HE.out
       rw [List.take_of_length_le (by omega),List.take_of_length_le (by rw [← HLL.out]; omega)] at h1
       exact h1
      subst hr
      have hge:¬ (i:Int) < (ps.length:Int):=by omega
      clear hlt
      go_wp2_with fail
      go_ret
      exact ⟨rfl,X⟩
 · have hr:decide (ps=qs)=false:=decide_eq_false fun e => hl (by rw [e])
   rw [hr]
   have h1:((ps.length:Int) != (qs.length:Int))=true:=by rw [bne_iff_ne]; omega
   clear hl hr
   go_enter Tryz.func104,Tryz.ntmps104
   go_wp2_with fail
   go_ret
   exact ⟨rfl,Ext.refl _⟩
theorem P2In.own0 {w:World}:P2O (w.alloc (.cells #[] 101)) w.heap.size (.slice (some ⟨w.heap.size,0,none⟩) 0 0) [] :=
 World.ownsRow_lit w #[] 0 (Nat.le_refl _) (by unfold maxLen; omega) rfl
set_option maxHeartbeats 1600000 in
set_option maxRecDepth 100000 in
theorem clone2_any (u:Value) (ps:List (Int × Int)) (w:World) (hu:P2In w u ps) (hl:ps.length ≤ 1000000) :
 Calls Tryz.prog 140 #[u] w fun e w' => ∃ v,e=.returned v ∧ P2O w' w.heap.size v ps ∧ Ext w w':=by
 obtain ⟨wo,rfl⟩:∃ wo:World,wo=w:=⟨_,rfl⟩
 have HS:=Lib.hid hu.src
 have q22:=fun (w:World) (a:Option Addr) (n c n' c':Nat) => Lib.run_eql_slice_nil (P:=Tryz.prog) w 94 101 a n c n' c' Tryz.underlying94
 obtain ⟨ao,c,rfl,_,hof⟩:=hu.open
 cases ao with
 | none =>
   have hp:ps=[]:=by
    cases ps with
    | nil => rfl
    | cons p t => obtain ⟨b,off,e,_⟩:=hof 0 _ rfl; cases e
   subst hp
   obtain ⟨ao2,c2,e2,_,h0,_⟩:=hu
   simp only [Value.slice.injEq] at e2
   obtain ⟨rfl,_,rfl⟩:=e2
   have hc:=h0 rfl
   subst hc
   clear h0 HS hof
   go_enter Tryz.func140,Tryz.ntmps140
   go_wp2_with fail
   go_ret
   exact ⟨_,rfl,P2O.nil _ _,Ext.refl _⟩
 | some a =>
   obtain ⟨n,hn⟩:∃ n,ps.length=n:=⟨_,rfl⟩
   rw [hn] at HS hl
   have HN:=Lib.hid hn
   rw [hn]
   clear hof hu hn
   go_enter Tryz.func140,Tryz.ntmps140
   go_wp2_with (at_builtin; go_must (refine wp_app rfl rfl ei_p2 rfl (by exact P2In.own0) rfl (HS.out.ext ((Ext.refl _).alloc _)) (by simp only [List.length_nil]; omega) (by simp only [List.length_nil]; omega) (by simp) ?_); intro v' w' hown hgrew)
   go_ret
   refine ⟨_,rfl,?_,hgrew.extNew ((Ext.refl _).alloc _) P2In.own0 (Nat.le_refl _)⟩
   show World.ownsRow _ _ _ _ _ _ _
   rw [HN.out]
   simpa [List.length_nil,flat2] using hown
theorem own_isS {W:World} {B:Nat} {e:TypeId} {s:Nat} {v:Value} {k:Nat} {xs:List Value} (h:W.ownsRow B e s v k xs):∃ po pc,v=.slice po k pc:=by
 rcases h.2 with ⟨h1,h2⟩ | ⟨g2,cap2,cur,e,_⟩
 · exact ⟨none,0,by rw [h1,h2]⟩
 · exact ⟨_,_,e⟩
theorem P2In.kept {w w':World} {row:Option Nat} {u:Value} {ps:List (Int × Int)} (h:P2In w u ps) (hg:w.grownBy w' row) (hn:ps=[] ∨ u.ownBlock ≠ row):P2In w' u ps:=by
 obtain ⟨ao,c,h1,h2,h3,h4,h5⟩:=h
 refine ⟨ao,c,h1,h2,h3,h4,fun j x hx => ?_⟩
 obtain ⟨b,off,e,hc⟩:=h5 j x hx
 refine ⟨b,off,e,?_⟩
 rcases hn with rfl | hn
 · simp [flat2] at hx
 · exact hg.cell hc (by rw [h1,e] at hn; simpa [Value.ownBlock] using hn)
theorem P2In.blk {w:World} {u:Value} {ps:List (Int × Int)} (h:P2In w u ps):ps=[] ∨ ∃ k,u.ownBlock=some k ∧ k < w.heap.size:=by
 obtain ⟨ao,c,h1,h2,h3,h4,h5⟩:=h
 cases ps with
 | nil => exact .inl rfl
 | cons p t =>
   obtain ⟨b,off,rfl,hc⟩:=h5 0 _ rfl
   exact .inr ⟨b,by rw [h1]; rfl,World.block_lt_of_cell? w _ hc⟩
theorem P2In.isSl {w:World} {u:Value} {ps:List (Int × Int)} (h:P2In w u ps):∃ ao c,u=.slice ao ps.length c:=by
 obtain ⟨ao,c,h1,_⟩:=h
 exact ⟨ao,c,h1⟩
def PsG (w:World) (B:Nat) (v:Value) (pss:List (List (Int × Int))):Prop:=∃ us:List Value,w.ownsRow B 94 1 v us.length us ∧ us.length=pss.length ∧
 ∀ (i:Nat) (u:Value) (ps:List (Int × Int)),us[i]?=some u → pss[i]?=some ps → P2In w u ps ∧ (ps=[] ∨ u.ownBlock ≠ v.ownBlock)
theorem PsG.ext {w w':World} {B:Nat} {v:Value} {pss:List (List (Int × Int))} (h:PsG w B v pss) (hx:Ext w w'):PsG w' B v pss:=by
 obtain ⟨us,h1,h2,h3⟩:=h
 exact ⟨us,own_ext h1 hx,h2,fun i u ps a b => ⟨(h3 i u ps a b).1.ext hx,(h3 i u ps a b).2⟩⟩
theorem PsG.len {w:World} {B:Nat} {g n cap:Nat} {pss:List (List (Int × Int))} (h:PsG w B (.slice (some ⟨g,0,none⟩) n cap) pss):n=pss.length:=by
 obtain ⟨us,h1,h2,h3⟩:=h
 rcases h1.2 with ⟨e,_⟩ | ⟨g2,cap2,cur,e,_⟩
 · simp at e
 · simp only [Value.slice.injEq] at e; omega
theorem PsG.made {w:World} {B g n:Nat} (h:w.ownsRow B 94 1 (.slice (some ⟨g,0,none⟩) n n) n (List.replicate n (.slice none 0 0))):PsG w B (.slice (some ⟨g,0,none⟩) n n) (List.replicate n []):=by
 refine ⟨List.replicate n (.slice none 0 0),by rw [List.length_replicate]; exact h,by simp,fun i u ps a b => ?_⟩
 rw [List.getElem?_replicate] at a b
 split at a
 · rename_i h1
   rw [if_pos h1] at b
   cases a; cases b
   exact ⟨P2In.nil _,.inl rfl⟩
 · cases a
theorem PsG.at {w:World} {B g n cap:Nat} {pss:List (List (Int × Int))} (h:PsG w B (.slice (some ⟨g,0,none⟩) n cap) pss) {i:Nat} {ps:List (Int × Int)} (hp:pss[i]?=some ps):∃ ao c,w.cell? ⟨g,i,none⟩=some (.slice ao ps.length c) ∧ P2In w (.slice ao ps.length c) ps ∧ (ps=[] ∨ (Value.slice ao ps.length c).ownBlock ≠ some g):=by
 obtain ⟨us,h1,h2,h3⟩:=h
 have hi:=(List.getElem?_eq_some_iff.1 hp).1
 have hu:us[i]?=some (us[i]'(by omega)):=List.getElem?_eq_getElem (by omega)
 obtain ⟨h4,h5⟩:=h3 i _ ps hu hp
 obtain ⟨ao,c,e⟩:=h4.isSl
 have:=h1.cells (g:=g) rfl i _ hu
 rw [Addr.add_lit,Nat.zero_add] at this
 rw [e] at h4 h5 this
 exact ⟨ao,c,this,h4,h5⟩
theorem PsG.stored {w:World} {B g n cap:Nat} {pss:List (List (Int × Int))} (h:PsG w B (.slice (some ⟨g,0,none⟩) n cap) pss) {i:Nat} (hi:i < pss.length) :
 w.frozen? ⟨g,i,none⟩=false ∧ (∃ u0,w.cell? ⟨g,i,none⟩=some u0) ∧ ∀ u ps,P2In w u ps → (ps=[] ∨ u.ownBlock ≠ some g) → w.grownBy (w.setCell ⟨g,i,none⟩ u) (some g) ∧ PsG (w.setCell ⟨g,i,none⟩ u) B (.slice (some ⟨g,0,none⟩) n cap) (pss.set i ps):=by
 have hn:=h.len
 obtain ⟨us,h1,h2,h3⟩:=h
 have hu:us[i]?=some (us[i]'(by omega)):=List.getElem?_eq_getElem (by omega)
 have hun:us.length=n:=by omega
 rw [hun] at h1
 have hc:=h1.cells (g:=g) rfl i _ hu
 rw [Addr.add_lit,Nat.zero_add] at hc
 refine ⟨h1.frozenAt i,⟨_,hc⟩,fun u ps hp hne => ⟨(h1.stored i u).2,us.set i u,?_,by simp [h2],fun j x qs a b => ?_⟩⟩
 · rw [List.length_set,hun]; exact (h1.stored i u).1
 · have hgr:=(h1.stored i u).2
   by_cases hji:j=i
   · subst hji
     rw [List.getElem?_set_self (by omega)] at a
     rw [List.getElem?_set_self hi] at b
     cases a; cases b
     exact ⟨hp.kept hgr hne,hne⟩
   · rw [List.getElem?_set_ne (by omega)] at a b
     obtain ⟨p1,p2⟩:=h3 j x qs a b
     exact ⟨p1.kept hgr p2,p2⟩
theorem info_ps:(Tryz.prog.info? 94).map (fun i => (i.zero,i.size,i.bytes))=some (some (.slice none 0 0),1,24):=by kernel_rfl
theorem ei_ps:EI Tryz.prog 145 94 (.slice none 0 0) 1 24:=⟨Tryz.underlying145,info_parts info_ps,by decide,by decide⟩
theorem src_cell2 {w:World} {k:Nat} {x y:Value} (h1:x.oneCell'=true) (h2:y.oneCell'=true) (hc:w.cell? ⟨k,0,none⟩=some x) (hd:w.cell? ⟨k,1,none⟩=some y):Src w (.slice (some ⟨k,0,none⟩) 1 1) 1 2 [x,y]:=by
 refine ⟨_,_,rfl,rfl,?_,fun _ => ⟨_,_,rfl,fun j u hu => ?_⟩⟩
 · intro u hu
   rcases List.mem_cons.1 hu with rfl | hu
   · exact h1
   · rw [List.mem_singleton] at hu; subst hu; exact h2
 · match j,hu with
   | 0,hu => simp at hu; subst hu; exact hc
   | 1,hu => simp at hu; subst hu; exact hd
theorem bx2 {w w':World} {x y:Value} {e:TypeId} (h:Ext (w.alloc (.cells #[x,y] e)) w'):w'.cell? ⟨w.heap.size,0,none⟩=some x ∧ w'.cell? ⟨w.heap.size,1,none⟩=some y :=
 ⟨h.cell (by simp [World.cell?_alloc_new]),h.cell (by simp [World.cell?_alloc_new])⟩
theorem bx2d {w w':World} {x y:Value} {e:TypeId} (h:Ext (w.alloc (.cells #[x,y] e)).drew w'):w'.cell? ⟨w.heap.size,0,none⟩=some x ∧ w'.cell? ⟨w.heap.size,1,none⟩=some y :=
 bx2 (((Ext.refl _).drew).trans h)
theorem step_app2 {P:Program} {ops:Array Oper} {o:Oper} {a:Act} {w:World} {K:Act → World → Prop} {Q:Exit → Act → World → Prop} {E:Prop} (hg:o.guard=none) {s x:Operand} {t e:TypeId} {z:Value} {bytes:Nat}
 (ho:o.op=.call { callee:=.builtin .append,args:=#[s,x],argTypes:=#[t,t] }) (ei:EI P t e z 2 bytes) {v:Value} (hs:a.eval s=v) {k:Nat} (hx:a.eval x=.slice (some ⟨k,0,none⟩) 1 1) {y1 y2:Value} (h1:y1.oneCell'=true) (h2:y2.oneCell'=true)
 {B n:Nat} {xs:List Value} (hown:w.ownsRow B e 2 v n xs) (hc:w.cell? ⟨k,0,none⟩=some y1) (hd:w.cell? ⟨k,1,none⟩=some y2) (hlen:n + 1 ≤ 17592186044416) (hby:(n + 1) * bytes ≤ 140737488355328) (hB:B ≤ w.heap.size)
 (h:∀ v' w',w'.ownsRow B e 2 v' (n + 1) (xs ++ [y1,y2]) → Grew w v w' v' → K (a.put o.dst v') w'):if Region.wanted o (yielded ops a.tmps)=true then Oper.wp P o a w K Q else E :=
 step_app hg ho ei hs hown hx (src_cell2 h1 h2 hc hd) hlen hby hB h
structure NBox (w:World) (k:Nat) (a b c:Int):Prop where
 c0:w.cell? ⟨k,0,none⟩=some (.int .i64 a)
 c1:w.cell? ⟨k,1,none⟩=some (.int .i64 b)
 c2:w.cell? ⟨k,2,none⟩=some (.int .i64 c)
theorem NBox.ext {w w':World} {k:Nat} {a b c:Int} (h:NBox w k a b c) (hx:Ext w w'):NBox w' k a b c:=⟨hx.cell h.c0,hx.cell h.c1,hx.cell h.c2⟩
theorem NBox.kept {w w':World} {k g:Nat} {a b c:Int} (h:NBox w k a b c) (hg:w.grownBy w' (some g)) (hne:k ≠ g):NBox w' k a b c :=
 ⟨hg.cell h.c0 (fun e => hne (Option.some.inj e)),hg.cell h.c1 (fun e => hne (Option.some.inj e)),hg.cell h.c2 (fun e => hne (Option.some.inj e))⟩
theorem Valid.next6 {T:List Nd} (h:Valid T) {i:Nat} {x:Nd} (hx:T[i]?=some x):x.next.length ≤ 6:=by
 rcases h.node i x hx with ⟨_,_,_,h0,_⟩ | ⟨_,_,_,_,_,_,h0⟩ | ⟨_,_,_,_,_,_,h0⟩
 · rw [h0]; exact Nat.zero_le _
 · exact (nextE_zero h0).2.1
 · exact (nextE_zero h0).2.1
theorem own_len {T:List Nd} (hT:Valid T) (p:Int) {k:Nat} (hk:k < T.length):(own T p k).length ≤ 120:=by
 unfold own
 have h1:=List.length_filterMap_le (ownS T p) (path T k)
 have h2:=path_len hT k k (Nat.le_refl _) hk
 have:=hT.len
 omega
set_option maxHeartbeats 6400000 in
set_option maxRecDepth 100000 in
theorem ways_any (v:Value) (T:List Nd) (p:Int) (w:World) (hv:TreeIn w v T) (hT:Valid T) :
 Calls Tryz.prog 103 #[v,.int .i64 p] w fun e w' => ∃ u,e=.returned u ∧ PsG w' w.heap.size u ((List.range T.length).map (own T p)) ∧ (∃ g,u=.slice (some ⟨g,0,none⟩) T.length T.length) ∧ Ext w w':=by
 obtain ⟨wo,rfl⟩:∃ wo:World,wo=w:=⟨_,rfl⟩
 have HCLO:=Lib.hid (fun (u:Value) (ps:List (Int × Int)) W (hu:P2In W u ps) (hl:ps.length ≤ 1000000) => clone2_any u ps W hu hl)
 have hl:=hT.len
 have hpos:=hT.pos
 have HOL:=Lib.hid (fun k (hk:k < T.length) => own_len hT p hk)
 have HST:=Lib.hid (fun (i c k:Nat) (x:Nd) (hx:T[i]?=some x) (hk:x.next[c]?=some (k:Int)) => own_step hT p hx hk)
 have HDS:=Lib.hid (fun (i c n k:Nat) (x:Nd) (hx:T[i]?=some x) (hn:x.next[c]?=some (n:Int)) (hd:doneP T i (c + 1) k) => hT.done_succ hx hn hd)
 have HDI:=Lib.hid (fun (i:Nat) (hi:i < T.length) (c:Nat) => hT.done_self hi c)
 have HDA:=Lib.hid (fun (k:Nat) (hk:k < T.length) => hT.done_all hk)
 have HCH:=Lib.hid (fun (i c:Nat) (x:Nd) (k:Int) (hx:T[i]?=some x) (hk:x.next[c]?=some k) => hT.child hx (List.mem_of_getElem? hk))
 have HN6:=Lib.hid (fun (i:Nat) (x:Nd) (hx:T[i]?=some x) => hT.next6 hx)
 obtain ⟨ao,c,rfl,hlen,hn⟩:=hv.open
 have HN:=Lib.hid hn
 obtain ⟨N,hN⟩:∃ N,T.length=N:=⟨_,rfl⟩
 have HNN:=Lib.hid hN
 rw [hN] at hl hpos hlen ⊢
 clear hn hv hT hN
 go_enter Tryz.func103,Tryz.ntmps103
 go_wp2_with (first | (at_make; go_must (refine wp_make1 rfl rfl ei_ps rfl rfl rfl N rfl rfl (by omega) (by omega) ?_); intro w2 hO2 hX2))
 have HG2:=Lib.hid (PsG.made hO2)
 obtain ⟨K,hK⟩:∃ K,wo.heap.size=K:=⟨_,rfl⟩
 rw [hK] at HG2 hO2
 have hK2:K < w2.heap.size:=by
  rcases hO2.2 with ⟨e,_⟩ | ⟨g2,cap2,cur,e,_,hg,_⟩
  · simp at e
  · simp only [Value.slice.injEq,Option.some.injEq,Addr.mk.injEq,and_true] at e
    rw [e.1]
    exact (Array.getElem?_eq_some_iff.1 hg).1
 have HX2:=Lib.hid hX2
 clear hO2 hX2
 rw [hK]
 go_loopw [15] (fun iv wr => ∃ (i:Nat) (pss:List (List (Int × Int))),i ≤ N ∧ iv=.int .i64 i ∧ Hid (PsG wr K (.slice (some ⟨K,0,none⟩) N N) pss) ∧ Hid (pss.length=N) ∧ Hid (∀ k,k < N → doneP T i 0 k → pss[k]?=some (own T p k)) ∧ Hid (w2.heap.size ≤ wr.heap.size) ∧ Ext wo wr) (fun iv _ => N - (intOf iv).toNat)
 case atStart => exact ⟨0,List.replicate N [],Nat.zero_le _,rfl,HG2.out,List.length_replicate,(fun k hk hd => by rw [hd.zero,List.getElem?_replicate,if_pos hpos]; rfl),Nat.le_refl _,HX2.out⟩
 case round =>
  obtain ⟨i,pss,hi,rfl,HG,HPL,HD,HSZ,X⟩:=hrel
  by_cases hlt:i < N
  · obtain ⟨x,d1,_,_⟩:=get_lt (xs:=T) (k:=i) (by rw [HNN.out]; exact hlt)
    obtain ⟨b,off,no,nc,oo,oc,rfl,c0,c1,c2,c3,c4,c5,hnc,_,_⟩:=HN.out.at d1
    have c0:=X.cell c0
    have c1:=X.cell c1
    have c2:=X.cell c2
    have c3:=X.cell c3
    have c4:=X.cell c4
    have c5:=X.cell c5
    have hii:(i:Int) < (N:Int):=by omega
    have HXI:=Lib.hid d1.out
    have HNC:=Lib.hid hnc
    have hn6:=HN6.out i x d1.out
    obtain ⟨kx,hkx⟩:∃ kx,x.kind=kx:=⟨_,rfl⟩
    obtain ⟨px,hpx⟩:∃ px,x.player=px:=⟨_,rfl⟩
    obtain ⟨qx,hqx⟩:∃ qx,x.info=qx:=⟨_,rfl⟩
    obtain ⟨nx,hnx⟩:∃ nx,x.next.length=nx:=⟨_,rfl⟩
    obtain ⟨ox,hox⟩:∃ ox,x.odds.length=ox:=⟨_,rfl⟩
    obtain ⟨yx,hyx⟩:∃ yx,x.pay=yx:=⟨_,rfl⟩
    have HKX:=Lib.hid hkx
    have HPX:=Lib.hid hpx
    have HQX:=Lib.hid hqx
    have HNX:=Lib.hid hnx
    rw [hkx] at c0
    rw [hpx] at c1
    rw [hqx] at c2
    rw [hnx] at c3 hn6
    rw [hox] at c4
    rw [hyx] at c5
    obtain ⟨T7,hT7⟩:∃ T7,wr.heap.size=T7:=⟨_,rfl⟩
    obtain ⟨W1,hW1⟩:∃ W1,wr.alloc (.cells #[.int .i64 kx,.int .i64 px,.int .i64 qx,.slice no nx nc,.slice oo ox oc,.string yx] 79)=W1:=⟨_,rfl⟩
    have X1:Ext wr W1:=by rw [← hW1]; exact (Ext.refl wr).alloc _
    have y0:W1.cell? ⟨T7,0,none⟩=some (.int .i64 kx):=by rw [← hW1,← hT7]; simp [go_sem]
    have y1:W1.cell? ⟨T7,1,none⟩=some (.int .i64 px):=by rw [← hW1,← hT7]; simp [go_sem]
    have y2:W1.cell? ⟨T7,2,none⟩=some (.int .i64 qx):=by rw [← hW1,← hT7]; simp [go_sem]
    have y3:W1.cell? ⟨T7,3,none⟩=some (.slice no nx nc):=by rw [← hW1,← hT7]; simp [go_sem]
    have HB1:Hid (NBox W1 T7 kx px qx):=⟨y0,y1,y2⟩
    have hTK:T7 ≠ K:=by have:=HSZ.out; omega
    have HX1:=Lib.hid (X.trans X1)
    have HG1:=Lib.hid (HG.out.ext X1)
    have HS1:Hid (w2.heap.size ≤ W1.heap.size):=Nat.le_trans HSZ.out X1.size
    clear hkx hpx hqx hnx hox hyx d1 hnc
    obtain ⟨wq,rfl⟩:∃ wq:World,wq=wr:=⟨_,rfl⟩
    go_wp2_with fail
    clear c0 c1 c2 c3 c4 c5 y0 y1 y2 y3 hW1 hT7 HG HSZ X X1
    go_loopw [23] (fun jv wr => ∃ (c:Nat) (qss:List (List (Int × Int))),c ≤ nx ∧ jv=.int .i64 c ∧ Hid (PsG wr K (.slice (some ⟨K,0,none⟩) N N) qss) ∧ Hid (qss.length=N) ∧ Hid (∀ k,k < N → doneP T i c k → qss[k]?=some (own T p k)) ∧ Hid (NBox wr T7 kx px qx) ∧ Hid (w2.heap.size ≤ wr.heap.size) ∧ Ext wo wr) (fun jv _ => nx - (intOf jv).toNat)
    case atStart => exact ⟨0,pss,Nat.zero_le _,rfl,HG1.out,HPL.out,HD.out,HB1.out,HS1.out,HX1.out⟩
    case round =>
     clear HG1 HB1 HS1 HX1 HPL HD
     obtain ⟨c,qss,hc,rfl,HG,HPL,HD,HB,HSZ,X⟩:=hrel
     by_cases hlc:c < nx
     · obtain ⟨kk,k1,_,_⟩:=get_lt (xs:=x.next) (k:=c) (by rw [HNX.out]; exact hlc)
       have hch:=HCH.out _ _ _ _ HXI.out k1.out
       obtain ⟨m,rfl⟩:∃ m:Nat,kk=(m:Int):=⟨kk.toNat,by omega⟩
       obtain ⟨nb,noff,rfl,hk0⟩:=(HNC.out.ext X).at k1
       have hk0:wr.cell? ⟨nb,noff + c,none⟩=some (.int .i64 (m:Int)):=hk0
       have hmN:m < N:=by have:=HNN.out; omega
       have him:i < m:=by omega
       have HDI2:=Lib.hid (HD.out i hlt (HDI.out _ (by rw [HNN.out]; exact hlt) c))
       obtain ⟨uo,uc,e0,hu0,hn0⟩:=HG.out.at HDI2.out
       have HLO:=HOL.out i (by rw [HNN.out]; exact hlt)
       have HST2:=Lib.hid (HST.out _ _ _ _ HXI.out k1.out)
       have HDS2:=Lib.hid (fun (k:Nat) (hd:doneP T i (c + 1) k) => HDS.out _ _ _ _ _ HXI.out k1.out hd)
       rw [HKX.out,HPX.out,HQX.out] at HST2
       obtain ⟨f1,⟨u9,g1⟩,hput⟩:=HG.out.stored (i:=m) (by rw [HPL.out]; exact hmN)
       obtain ⟨OI,hOI⟩:∃ OI,own T p i=OI:=⟨_,rfl⟩
       rw [hOI] at HST2 HDI2 e0 hu0 hn0 HLO
       obtain ⟨L,hL⟩:∃ L,OI.length=L:=⟨_,rfl⟩
       rw [hL] at e0 hu0 hn0 HLO
       have HLL:=Lib.hid hL
       obtain ⟨hg8,hp8⟩:=hput _ _ hu0 hn0
       have hci:(c:Int) < (nx:Int):=by omega
       have hn6i:(nx:Int) ≤ 6:=by omega
       have hmi:(m:Int) < (N:Int):=by omega
       obtain ⟨W8,hW8⟩:∃ W8,wr.setCell ⟨K,m,none⟩ (.slice uo L uc)=W8:=⟨_,rfl⟩
       rw [hW8] at hg8 hp8
       have HG8:=Lib.hid hp8
       have HB8:=Lib.hid (HB.out.kept hg8 hTK)
       have y0:=HB8.out.c0
       have y1:=HB8.out.c1
       have y2:=HB8.out.c2
       have HX8:=Lib.hid (X.grown hg8 (by omega))
       have HU8:=Lib.hid (hu0.kept hg8 hn0)
       have HS8:Hid (w2.heap.size ≤ W8.heap.size):=Nat.le_trans HSZ.out hg8.size
       have HDN:Hid (∀ k,k ≠ m → k < N → doneP T i (c + 1) k → (qss.set m OI)[k]?=some (own T p k)):=fun k hkm hk hd => by
        rw [List.getElem?_set_ne (fun e => hkm e.symm)]
        rcases HDS2.out _ hd with e | ⟨_,hd2⟩
        · exact absurd e hkm
        · exact HD.out k hk hd2
       have HPL8:Hid ((qss.set m OI).length=N):=by show _=_; rw [List.length_set]; exact HPL.out
       obtain ⟨uo2,uc2,e8,hu8,hn8⟩:=HG8.out.at (i:=i) (ps:=OI) (by rw [List.getElem?_set_ne (by omega)]; exact HDI2.out)
       rw [hL] at e8 hu8 hn8
       have HU8:=Lib.hid hu8
       obtain ⟨f8,⟨u8,g8⟩,_⟩:=HG8.out.stored (i:=m) (by rw [HPL8.out]; exact hmN)
       have HSET:Hid ((qss.set m OI)[m]?=some OI):=by show _=_; rw [List.getElem?_set_self (by rw [HPL.out]; exact hmN)]
       have HK8:Hid (K < W8.heap.size):=by show _ < _; have:=HS8.out; omega
       clear hput hu0 hn0 hp8 HG HB HSZ X HD HPL HDS2 k1 hlc hch hL hOI hu8 hn8
       by_cases a1:kx=2
       · subst a1
         by_cases a2:px=p
         · subst a2
           rw [if_pos ⟨rfl,rfl⟩] at HST2
           have hb1:(px == px)=true:=by simp
           have hL1:L + 1 ≤ 17592186044416:=by omega
           have hL2:(L + 1) * 16 ≤ 140737488355328:=by omega
           have hL3:OI.length ≤ 1000000:=by rw [HLL.out]; omega
           have HCL:=Lib.hid (fun W (hx:Ext W8 W) => HCLO.out (.slice uo2 L uc2) OI W (HU8.out.ext hx) hL3)
           have HXR:=Lib.hid (Ext.refl W8)
           clear hL3
           go_wp2_with fail
           clear e0 f1 g1 hk0 y0 y1 hW8
           have e8a:=((Ext.refl W8).alloc (.cells #[.int .i64 qx,.int .i64 (c:Int)] 101)).cell e8
           go_region_law (first
            | (go_simp; go_at_call 140; refine (HCL.out _ (by exact HXR.out.trans (by repeat' (first | with_reducible exact Ext.refl _ | with_reducible apply Ext.alloc | with_reducible apply Ext.drew)))).mono ?_; rintro e w8 ⟨v8,rfl,h8,X8⟩; have HV8:=Lib.hid (own_mono h8 (show W8.heap.size ≤ _ from Ext.size (HXR.out.trans (by repeat' (first | with_reducible exact Ext.refl _ | with_reducible apply Ext.alloc | with_reducible apply Ext.drew))))); rw [HLL.out] at HV8; obtain ⟨po8,pc8,rfl⟩:=own_isS HV8.out; (first | have HBX:=Lib.hid (bx2 X8) | have HBX:=Lib.hid (bx2d X8) | skip); have y2:=Ext.cell (Ext.trans (by repeat' (first | with_reducible exact Ext.refl _ | with_reducible apply Ext.alloc | with_reducible apply Ext.drew)) X8) y2; have HXR:=Lib.hid (HXR.out.trans (Ext.trans (by repeat' (first | with_reducible exact Ext.refl _ | with_reducible apply Ext.alloc | with_reducible apply Ext.drew)) X8)); clear h8 X8)
            | (refine step_app2 (s:=.tmp 50) (x:=.tmp 55) rfl rfl ei_p2 rfl rfl (y1:=.int .i64 qx) (y2:=.int .i64 (c:Int)) rfl rfl (B:=W8.heap.size) (n:=L) (by exact own_ext HV8.out (by repeat' (first | with_reducible exact Ext.refl _ | with_reducible apply Ext.alloc | with_reducible apply Ext.drew))) (by first | exact Ext.cell (by repeat' (first | with_reducible exact Ext.refl _ | with_reducible apply Ext.alloc | with_reducible apply Ext.drew)) HBX.out.1 | (simp [go_sem]; done)) (by first | exact Ext.cell (by repeat' (first | with_reducible exact Ext.refl _ | with_reducible apply Ext.alloc | with_reducible apply Ext.drew)) HBX.out.2 | (simp [go_sem]; done)) hL1 hL2 (by exact Ext.size (HXR.out.trans (by repeat' (first | with_reducible exact Ext.refl _ | with_reducible apply Ext.alloc | with_reducible apply Ext.drew)))) ?_; intro v9 w9 hown hgrew; obtain ⟨po9,pc9,rfl⟩:=own_isS hown; have HXR:=Lib.hid (hgrew.extNew (HXR.out.trans (by repeat' (first | with_reducible exact Ext.refl _ | with_reducible apply Ext.alloc | with_reducible apply Ext.drew))) (own_ext HV8.out (by repeat' (first | with_reducible exact Ext.refl _ | with_reducible apply Ext.alloc | with_reducible apply Ext.drew))) (Nat.le_refl _)); have HG9:=Lib.hid (HG8.out.ext HXR.out); obtain ⟨f9,⟨u9,g9⟩,hput9⟩:=HG9.out.stored (i:=m) (by rw [HPL8.out]; exact hmN); have HPUT:=Lib.hid hput9; have HOWN:=Lib.hid hown; clear hput9 hgrew hown))
           all_goals
            have HP:P2In w9 (.slice po9 (L + 1) pc9) (OI ++ [(qx,(c:Int))]):=P2O.toIn (B:=W8.heap.size) (by show World.ownsRow _ _ _ _ _ _ _; rw [flat2_app,List.length_append,List.length_singleton,HLL.out]; exact HOWN.out) (by rw [List.length_append,List.length_singleton,HLL.out]; omega)
            have hne:(Value.slice po9 (L + 1) pc9).ownBlock ≠ some K:=fun e => by
             have:=(HOWN.out.lt K e).1
             have:=HK8.out
             omega
            obtain ⟨hgA,hpA⟩:=HPUT.out _ _ HP (.inr hne)
            rw [List.set_set] at hpA
            obtain ⟨WA,hWA⟩:∃ WA,w9.setCell ⟨K,m,none⟩ (.slice po9 (L + 1) pc9)=WA:=⟨_,rfl⟩
            rw [hWA] at hgA hpA ⊢
            have HGA:=Lib.hid hpA
            have HBA:=Lib.hid ((HB8.out.ext HXR.out).kept hgA hTK)
            have HXA:=Lib.hid ((HX8.out.trans HXR.out).grown hgA (by omega))
            have HSA:Hid (w2.heap.size ≤ WA.heap.size):=Nat.le_trans HS8.out (Nat.le_trans HXR.out.size hgA.size)
            have HDF:Hid (∀ k,k < N → doneP T i (c + 1) k → (qss.set m (OI ++ [(qx,(c:Int))]))[k]?=some (own T px k)):=fun k hk hd => by
             by_cases hkm:k=m
             · subst hkm
               rw [List.getElem?_set_self (by have:=HPL8.out; rw [List.length_set] at this; omega),HST2.out]
             · have h1:=HDN.out k hkm hk hd
               rw [List.getElem?_set_ne (fun e => hkm e.symm)] at h1 ⊢
               exact h1
            have HPLA:Hid ((qss.set m (OI ++ [(qx,(c:Int))])).length=N):=by have:=HPL8.out; show _=_; rw [List.length_set] at this ⊢; exact this
            clear hgA hpA hWA f9 g9 HPUT HP hne HOWN y2 e8a e8 f8 g8
            go_wp2_with fail
            go_roundw
            case rel => exact ⟨c + 1,_,by omega,by go_num,HGA.out,HPLA.out,HDF.out,HBA.out,HSA.out,HXA.out⟩
            case measure => simp [intOf]; omega
         · rw [if_neg (fun e => a2 e.2),List.append_nil] at HST2
           have bf:(px == p)=false:=by rw [beq_eq_false_iff_ne]; exact a2
           have HDF:Hid (∀ k,k < N → doneP T i (c + 1) k → (qss.set m OI)[k]?=some (own T p k)):=fun k hk hd => by
            by_cases hkm:k=m
            · subst hkm; rw [HSET.out,HST2.out]
            · exact HDN.out k hkm hk hd
           clear a2
           go_wp2_with fail
           go_roundw
           case rel => exact ⟨c + 1,_,by omega,by go_num,HG8.out,HPL8.out,HDF.out,HB8.out,HS8.out,HX8.out⟩
           case measure => simp [intOf]; omega
       · rw [if_neg (fun e => a1 e.1),List.append_nil] at HST2
         have bf:(kx == 2)=false:=by rw [beq_eq_false_iff_ne]; exact a1
         have HDF:Hid (∀ k,k < N → doneP T i (c + 1) k → (qss.set m OI)[k]?=some (own T p k)):=fun k hk hd => by
          by_cases hkm:k=m
          · subst hkm; rw [HSET.out,HST2.out]
          · exact HDN.out k hkm hk hd
         clear a1
         go_wp2_with fail
         go_roundw
         case rel => exact ⟨c + 1,_,by omega,by go_num,HG8.out,HPL8.out,HDF.out,HB8.out,HS8.out,HX8.out⟩
         case measure => simp [intOf]; omega
     · have hce:c=nx:=by omega
       subst hce
       have HDN:Hid (∀ k,k < N → doneP T (i + 1) 0 k → qss[k]?=some (own T p k)):=fun k hk hd => HD.out k hk (by have:=hd.next HXI.out; rwa [HNX.out] at this)
       have hge:¬ (c:Int) < (c:Int):=by omega
       clear hlc HD
       go_wp2_with fail
       go_roundw
       case rel => exact ⟨i + 1,qss,by omega,by go_num,HG.out,HPL.out,HDN.out,HSZ.out,X⟩
       case measure => simp [intOf]; omega
  · have hie:i=N:=by omega
    subst hie
    have HF:Hid (pss=(List.range i).map (own T p)):=by
     show _=_
     apply List.ext_getElem?
     intro k
     by_cases hk:k < i
     · rw [HD.out k hk (by have:=HDA.out k (by rw [HNN.out]; exact hk); rwa [HNN.out] at this),List.getElem?_map,List.getElem?_range hk]; rfl
     · rw [List.getElem?_eq_none (by rw [HPL.out]; omega),List.getElem?_eq_none (by simp; omega)]
    have hge:¬ (i:Int) < (i:Int):=by omega
    clear hlt
    go_wp2_with fail
    go_ret
    exact ⟨_,rfl,by rw [← HF.out]; exact HG.out,⟨_,rfl⟩,X⟩
set_option maxHeartbeats 6400000 in
set_option maxRecDepth 100000 in
theorem isPerfect_any (v:Value) (T:List Nd) (p:Int) (w:World) (hv:TreeIn w v T) (hT:Valid T) :
 Calls Tryz.prog 62 #[v,.int .i64 p] w fun e w' => e=.returned (.bool (remB T p)) ∧ Ext w w':=by
 obtain ⟨wo,rfl⟩:∃ wo:World,wo=w:=⟨_,rfl⟩
 have HWY:=Lib.hid (ways_any v T p wo hv hT)
 have hl:=hT.len
 have HW1:=Lib.hid (fun (i:Nat) (x:Nd) (hx:T[i]?=some x) (hk:x.kind=2) => hT.wide1 hx hk)
 obtain ⟨ao,c,rfl,hlen,hn⟩:=hv.open
 have HN:=Lib.hid hn
 obtain ⟨Q,hQ⟩:∃ Q,remB T p=Q:=⟨_,rfl⟩
 have HQ:=Lib.hid hQ
 have HQN:=Lib.hid (fun (i k:Nat) (x:Nd) (hx:T[i]?=some x) (hk:x.kind=2) (hp:x.player=p) (hf:firstI T p i x.info=some k) (ho:own T p i ≠ own T p k) => hQ.symm.trans (remB_not hx hk hp hf ho))
 have HQY:=Lib.hid (fun (h:heldR T p T.length) => hQ.symm.trans (remB_held h))
 rw [hQ]
 clear hn hv hT hQ
 go_enter Tryz.func62,Tryz.ntmps62
 go_wp2_with fail
 refine HWY.out.mono ?_
 rintro e w1 ⟨u1,rfl,h1,⟨g,rfl⟩,X1⟩
 have HG:=Lib.hid h1
 have HX1:=Lib.hid X1
 clear h1 X1
 have hmm:=@run_makeMap Tryz.prog
 go_wp2_with fail
 go_loopw [17] (fun iv wr => ∃ (i:Nat),i ≤ T.length ∧ iv=.int .i64 i ∧ Hid (MapG Tryz.prog 3 (Value.int .i64) (fun i:Int => (Lit.int .i64 i).wf=true) wr w1.heap.size i (fun q => (firstI T p i q).map fun j => Value.int .i64 (j:Int))) ∧ Hid (heldR T p i) ∧ Ext w1 wr) (fun iv _ => T.length - (intOf iv).toNat)
 case atStart => exact ⟨0,Nat.zero_le _,rfl,MapG.made w1,heldR_zero T p,(Ext.refl w1).alloc _⟩
 case round =>
  obtain ⟨i,hi4,rfl,HM,HH,X⟩:=hrel
  by_cases hlt:i < T.length
  · obtain ⟨x,d1,d2,d3⟩:=get_lt hlt
    obtain ⟨b,off,no,nc,oo,oc,rfl,c0,c1,c2,c3,c4,c5,_,_,_⟩:=HN.out.at d1
    have c0:=(HX1.out.trans X).cell c0
    have c1:=(HX1.out.trans X).cell c1
    have c2:=(HX1.out.trans X).cell c2
    have c3:=(HX1.out.trans X).cell c3
    have c4:=(HX1.out.trans X).cell c4
    have c5:=(HX1.out.trans X).cell c5
    have hii:(i:Int) < (T.length:Int):=by omega
    have HXI:=Lib.hid d1.out
    have HWX:=Lib.hid (HW1.out i x d1.out)
    obtain ⟨kx,hkx⟩:∃ kx,x.kind=kx:=⟨_,rfl⟩
    obtain ⟨px,hpx⟩:∃ px,x.player=px:=⟨_,rfl⟩
    obtain ⟨qx,hqx⟩:∃ qx,x.info=qx:=⟨_,rfl⟩
    obtain ⟨nx,hnx⟩:∃ nx,x.next.length=nx:=⟨_,rfl⟩
    obtain ⟨ox,hox⟩:∃ ox,x.odds.length=ox:=⟨_,rfl⟩
    obtain ⟨yx,hyx⟩:∃ yx,x.pay=yx:=⟨_,rfl⟩
    have HSK:=Lib.hid (fun (hm:¬ (x.kind=2 ∧ x.player=p)) => firstI_skip HXI.out hm)
    have HHK:=Lib.hid (fun (hm:¬ (x.kind=2 ∧ x.player=p)) => heldR_skip HH.out HXI.out hm)
    have HPT:=Lib.hid (fun (h1:x.kind=2) (h2:x.player=p) h3 => firstI_put HXI.out h1 h2 h3)
    have HHP:=Lib.hid (fun (h1:x.kind=2) (h2:x.player=p) h3 => heldR_put HH.out HXI.out h1 h2 h3)
    have HKP:=Lib.hid (fun (j:Nat) (h:firstI T p i x.info=some j) => firstI_keep HXI.out h)
    have HHE:=Lib.hid (fun (j:Nat) (h:firstI T p i x.info=some j) ho => heldR_keep HH.out HXI.out h ho)
    have HQX:=Lib.hid (fun (j:Nat) (h1:x.kind=2) (h2:x.player=p) (h:firstI T p i x.info=some j) ho => HQN.out i j x HXI.out h1 h2 h ho)
    rw [hkx] at c0 HSK HHK HPT HHP HQX HWX
    rw [hpx] at c1 HSK HHK HPT HHP HQX HWX
    rw [hqx] at c2 HPT HHP HKP HHE HQX HWX
    rw [hnx] at c3
    rw [hox] at c4
    rw [hyx] at c5
    obtain ⟨T7,hT7⟩:∃ T7,wr.heap.size=T7:=⟨_,rfl⟩
    obtain ⟨W1,hW1⟩:∃ W1,wr.alloc (.cells #[.int .i64 kx,.int .i64 px,.int .i64 qx,.slice no nx nc,.slice oo ox oc,.string yx] 79)=W1:=⟨_,rfl⟩
    have XW:Ext wr W1:=by rw [← hW1]; exact (Ext.refl wr).alloc _
    have y0:W1.cell? ⟨T7,0,none⟩=some (.int .i64 kx):=by rw [← hW1,← hT7]; simp [go_sem]
    have y1:W1.cell? ⟨T7,1,none⟩=some (.int .i64 px):=by rw [← hW1,← hT7]; simp [go_sem]
    have y2:W1.cell? ⟨T7,2,none⟩=some (.int .i64 qx):=by rw [← hW1,← hT7]; simp [go_sem]
    have HXW:=Lib.hid (X.trans XW)
    have HMW:=Lib.hid (HM.out.ext XW)
    have HGW:=Lib.hid (HG.out.ext HXW.out)
    clear hkx hpx hqx hnx hox hyx d1 d2 d3 X XW HM hlt
    by_cases hk:kx=2
    · by_cases hp:px=p
      · subst hk
        subst hp
        obtain ⟨_,_,hq1,hq2,_⟩:=HWX.out rfl
        have HDM:Hid ((Lit.int .i64 qx).wf=true):=wf_small (by omega) (by omega)
        have him:i < maxLen:=by unfold maxLen; omega
        have hb1:(px != px)=false:=by simp
        cases hf:firstI T px i qx with
        | none =>
          have HF2:Hid ((firstI T px i qx).map (fun j => Value.int .i64 (j:Int))=none):=by show _=_; rw [hf]; rfl
          have HHN:=Lib.hid (HHP.out rfl rfl hf)
          have HFU:Hid ((fun q => (firstI T px (i + 1) q).map fun j => Value.int .i64 (j:Int))=fun q => if q=qx then some (Value.int .i64 (i:Int)) else (firstI T px i q).map fun j => Value.int .i64 (j:Int)):=by
           show _=_
           rw [HPT.out rfl rfl hf]
           funext q
           dsimp only
           split <;> rfl
          clear hf hq1 hq2 HSK HHK HPT HHP HKP HHE HQX HWX HGW
          go_wp2_with (first
           | (at_lookup; go_must (refine wp_look rfl rfl (keyE_int Tryz.underlying3) Tryz.underlying103 (zeroI _) rfl HMW.out rfl HDM.out HF2.out ?_))
           | (at_mapUpdate; go_must (refine wp_put rfl rfl (keyE_int Tryz.underlying3) Tryz.underlying103 rfl HMW.out him rfl HDM.out rfl ?_); intro w7 HM7 hg7))
          go_roundw
          case rel => exact ⟨i + 1,by omega,by go_num,by show MapG _ _ _ _ _ _ _ _; rw [HFU.out]; exact HM7,HHN.out,HXW.out.grown hg7 (Nat.le_refl _)⟩
          case measure => simp [intOf]; omega
        | some j =>
          have HF2:Hid ((firstI T px i qx).map (fun j => Value.int .i64 (j:Int))=some (.int .i64 (j:Int))):=by show _=_; rw [hf]; rfl
          have HKJ:=Lib.hid (HKP.out j hf)
          have HHJ:=Lib.hid (fun ho => HHE.out j hf ho)
          have HQJ:=Lib.hid (fun ho => HQX.out j rfl rfl hf ho)
          obtain ⟨y9,hji,_⟩:=firstI_some hf
          obtain ⟨a1,l1,e1,hu1,_⟩:=HGW.out.at (i:=i) (ps:=own T px i) (by rw [List.getElem?_map,List.getElem?_range (by omega)]; rfl)
          obtain ⟨a2,l2,e2,hu2,_⟩:=HGW.out.at (i:=j) (ps:=own T px j) (by rw [List.getElem?_map,List.getElem?_range (by omega)]; rfl)
          have HU1:=Lib.hid hu1
          have HU2:=Lib.hid hu2
          have HEQ:=Lib.hid (fun W (hx:Ext W1 W) => equal2_any _ _ (own T px i) (own T px j) W (hu1.ext hx) (hu2.ext hx))
          obtain ⟨OI,hOI⟩:∃ OI,own T px i=OI:=⟨_,rfl⟩
          obtain ⟨OJ,hOJ⟩:∃ OJ,own T px j=OJ:=⟨_,rfl⟩
          rw [hOI] at HHJ HQJ e1 HEQ
          rw [hOJ] at HHJ HQJ e2 HEQ
          obtain ⟨L1,hL1⟩:∃ L1,OI.length=L1:=⟨_,rfl⟩
          obtain ⟨L2,hL2⟩:∃ L2,OJ.length=L2:=⟨_,rfl⟩
          rw [hL1] at e1 HEQ
          rw [hL2] at e2 HEQ
          have hjl:(j:Int) < (T.length:Int):=by omega
          have HMP:Hid (MapG Tryz.prog 3 (Value.int .i64) (fun i:Int => (Lit.int .i64 i).wf=true) W1 w1.heap.size (i + 1) (fun q => (firstI T px (i + 1) q).map fun j => Value.int .i64 (j:Int))):=by
           show MapG _ _ _ _ _ _ _ _
           rw [HKJ.out]
           exact HMW.out.mono (Nat.le_succ i)
          clear hf hq1 hq2 HSK HHK HPT HHP HKP HHE HQX HWX HGW hu1 hu2 HU1 HU2 hOI hOJ hL1 hL2 hji HKJ
          by_cases ho:OI=OJ
          · have HHN:=Lib.hid (HHJ.out ho)
            rw [decide_eq_true ho] at HEQ
            clear ho HHJ HQJ
            go_wp2_with (first
             | (at_lookup; go_must (refine wp_look rfl rfl (keyE_int Tryz.underlying3) Tryz.underlying103 (zeroI _) rfl HMW.out rfl HDM.out HF2.out ?_)))
            clear c0 c1 c2 c3 c4 c5 y0 y1 y2 hW1 hT7
            go_region_held3 (fun W9 => W9.cell? ⟨g,i,none⟩=some (.slice a1 L1 l1) ∧ W9.cell? ⟨g,j,none⟩=some (.slice a2 L2 l2))
             (first | exact ⟨XD.cell e1,XD.cell e2⟩ | exact ⟨e1,e2⟩ | go_keep)
             (first | (go_at_call 104; refine (HEQ.out _ (by repeat' (first | with_reducible exact Ext.refl _ | with_reducible apply Ext.alloc | with_reducible apply Ext.drew | with_reducible apply Ext.drewN))).mono ?_; rintro e w5 ⟨rfl,X5⟩; have XD:Ext W1 w5:=Ext.trans (by repeat' (first | with_reducible exact Ext.refl _ | with_reducible apply Ext.alloc | with_reducible apply Ext.drew | with_reducible apply Ext.drewN)) X5))
            all_goals
             have HXD:=Lib.hid XD
             clear XD
             go_wp2_with fail
             go_roundw
             case rel => exact ⟨i + 1,by omega,by go_num,HMP.out.ext (by first | exact HXD.out | exact HXD.out.drew),HHN.out,HXW.out.trans (by first | exact HXD.out | exact HXD.out.drew)⟩
             case measure => simp [intOf]; omega
          · have hq:=HQJ.out ho
            subst hq
            rw [decide_eq_false ho] at HEQ
            clear ho HHJ HQJ
            go_wp2_with (first
             | (at_lookup; go_must (refine wp_look rfl rfl (keyE_int Tryz.underlying3) Tryz.underlying103 (zeroI _) rfl HMW.out rfl HDM.out HF2.out ?_)))
            clear c0 c1 c2 c3 c4 c5 y0 y1 y2 hW1 hT7
            go_region_held3 (fun W9 => W9.cell? ⟨g,i,none⟩=some (.slice a1 L1 l1) ∧ W9.cell? ⟨g,j,none⟩=some (.slice a2 L2 l2))
             (first | exact ⟨XD.cell e1,XD.cell e2⟩ | exact ⟨e1,e2⟩ | go_keep)
             (first | (go_at_call 104; refine (HEQ.out _ (by repeat' (first | with_reducible exact Ext.refl _ | with_reducible apply Ext.alloc | with_reducible apply Ext.drew | with_reducible apply Ext.drewN))).mono ?_; rintro e w5 ⟨rfl,X5⟩; have XD:Ext W1 w5:=Ext.trans (by repeat' (first | with_reducible exact Ext.refl _ | with_reducible apply Ext.alloc | with_reducible apply Ext.drew | with_reducible apply Ext.drewN)) X5))
            all_goals
             have HXD:=Lib.hid XD
             clear XD
             go_wp2_with fail
             go_ret
             exact ⟨rfl,HX1.out.trans (HXW.out.trans (by first | exact HXD.out | exact HXD.out.drew))⟩
      · have hno:¬ (kx=2 ∧ px=p):=fun e => hp e.2
        have HFS:=Lib.hid (HSK.out hno)
        have HHS:=Lib.hid (HHK.out hno)
        subst hk
        have bf:(px != p)=true:=by rw [bne_iff_ne]; exact hp
        clear HSK HHK HPT HHP HKP HHE HQX HWX HGW hno hp
        go_wp2_with fail
        go_roundw
        case rel => exact ⟨i + 1,by omega,by go_num,by show MapG _ _ _ _ _ _ _ _; rw [HFS.out]; exact HMW.out.mono (Nat.le_succ i),HHS.out,HXW.out⟩
        case measure => simp [intOf]; omega
    · have hno:¬ (kx=2 ∧ px=p):=fun e => hk e.1
      have HFS:=Lib.hid (HSK.out hno)
      have HHS:=Lib.hid (HHK.out hno)
      have bf:(kx != 2)=true:=by rw [bne_iff_ne]; exact hk
      clear HSK HHK HPT HHP HKP HHE HQX HWX HGW hno hk
      go_wp2_with fail
      go_roundw
      case rel => exact ⟨i + 1,by omega,by go_num,by show MapG _ _ _ _ _ _ _ _; rw [HFS.out]; exact HMW.out.mono (Nat.le_succ i),HHS.out,HXW.out⟩
      case measure => simp [intOf]; omega
  · have hie:i=T.length:=by omega
    subst hie
    have hq:Q=true:=HQY.out HH.out
    subst hq
    have hge:¬ (T.length:Int) < (T.length:Int):=by omega
    clear hlt
    go_wp2_with fail
    go_ret
    exact ⟨rfl,HX1.out.trans X⟩
end Go.Proofs.YtcggohkbmhdohaaGreatDoor
