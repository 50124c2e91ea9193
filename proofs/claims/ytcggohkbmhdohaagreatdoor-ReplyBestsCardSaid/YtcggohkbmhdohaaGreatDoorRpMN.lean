/- texts merged: RpM RpN -/
import Derived.Test.YtcggohkbmhdohaaGreatDoorRpAH
import Derived.Test.YtcggohkbmhdohaaGreatDoorRpJL
namespace Go.Proofs.YtcggohkbmhdohaaGreatDoor
open Go.RowKit
set_option linter.unusedVariables false
theorem range_set {f g:Nat → Rat} {N i:Nat} {v:Rat} (h1:g i=v) (h2:∀ s,s ≠ i → g s=f s):((List.range N).map f).set i v=(List.range N).map g:=by
 apply List.ext_getElem?
 intro s
 by_cases hs:s < N
 · by_cases hi:s=i
   · subst hi
     rw [List.getElem?_set_self (by simpa using hs),List.getElem?_map,List.getElem?_range hs,← h1]; rfl
   · rw [List.getElem?_set_ne (fun h => hi h.symm),List.getElem?_map,List.getElem?_map,List.getElem?_range hs]
     show some (f s)=some (g s)
     rw [h2 s hi]
 · rw [List.getElem?_eq_none (by simp; omega),List.getElem?_eq_none (by simp; omega)]
theorem range_get {f:Nat → Rat} {N i:Nat} (h:i < N):((List.range N).map f)[i]?=some (f i):=by rw [List.getElem?_map,List.getElem?_range h]; rfl
def sumsJ (T:List Nd) (p:Int) (S:List Ch) (j s:Nat):Rat:=lsum (((endsL T).take j).map fun e => if atN T p e=s then endQ T p S e else 0)
theorem sumsJ_all {T:List Nd} {p:Int} {S:List Ch} {j:Nat} (h:(endsL T).length ≤ j):sumsJ T p S j=sumsG T p S T.length:=by
 funext s
 unfold sumsJ sumsG
 rw [List.take_of_length_le h]
 rfl
theorem lsum_app (a b:List Rat):lsum (a ++ b)=lsum a + lsum b:=by
 induction a with
 | nil => show lsum b=0 + lsum b; grind
 | cons x t ih => show x + lsum (t ++ b)=x + lsum t + lsum b; rw [ih]; grind
theorem sumsJ_step {T:List Nd} {p:Int} {S:List Ch} {j k:Nat} (h:(endsL T)[j]?=some k) (s:Nat):sumsJ T p S (j + 1) s=sumsJ T p S j s + if atN T p k=s then endQ T p S k else 0:=by
 unfold sumsJ
 rw [List.take_succ_eq_append_getElem (List.getElem?_eq_some_iff.1 h).1,(List.getElem?_eq_some_iff.1 h).2,List.map_append,lsum_app]
 show _ + ((if atN T p k=s then endQ T p S k else 0) + 0)=_
 rw [Rat.add_zero]
theorem sumsJ_set {T:List Nd} {p:Int} {S:List Ch} {j k N:Nat} (h:(endsL T)[j]?=some k):((List.range N).map (sumsJ T p S j)).set (atN T p k) (sumsJ T p S j (atN T p k) + endQ T p S k)=(List.range N).map (sumsJ T p S (j + 1)) :=
 range_set (by rw [sumsJ_step h,if_pos rfl]) fun s hs => by rw [sumsJ_step h,if_neg (fun e => hs e.symm),Rat.add_zero]
theorem two_le_ten (d:Nat):2 ^ d ≤ 10 ^ d:=Nat.pow_le_pow_left (by omega) d
theorem self_le_ten (d:Nat):d ≤ 10 ^ d:=Nat.le_of_lt (Nat.lt_pow_self (by omega))
theorem best_RB {m B:Nat} {T:List Nd} (hT:Valid T) {p:Int} (hp:p=0 ∨ p=1) {S:List Ch} (hS:strategyE T (1 - p) S=0) (hA:AllRB m T S) (hB:3 * m * T.length + m + 2 * T.length < B) :
 (∀ (k:Nat) (x:Nd),T[k]?=some x → x.kind=0 → RB B (endQ T p S k) ∧ RB B (oth T p S k * payN T k)) ∧ (∀ j s,RB B (sumsJ T p S j s)) ∧ ∀ d s,d ≤ T.length → RB B (hsL T p (sumsG T p S T.length) d s):=by
 obtain ⟨D,h0,h1,h2,h3,h4⟩:=best_has hT hp hS hA
 have hn:=self_le_ten T.length
 have hm3:3 * m * T.length=2 * m * T.length + m * T.length:=by rw [show 3 * m=2 * m + m by omega,Nat.add_mul]
 have key:∀ {X:Nat} {q:Rat} {a:Nat},HasD D X q → X ≤ 10 ^ a → a ≤ m * T.length + m + 2 * T.length → RB B q:=fun {X q a} h hX ha =>
  HasD.rb (h.mono hX) h0 (pow_lt2 h1 (by omega)) (Nat.pow_pos (by omega))
 refine ⟨fun k x hx hk => ?_,fun j s => ?_,fun d s hd => ?_⟩
 · exact ⟨key (h2 k x hx hk).1 (Nat.le_refl _) (by omega),key (h2 k x hx hk).2 (Nat.le_refl _) (by omega)⟩
 · have hpa:∀ a b:Nat,10 ^ (a + b)=10 ^ a * 10 ^ b:=fun a b => Nat.pow_add 10 a b
   have hl:HasD D (((endsL T).take j).length * 10 ^ (m * T.length + m)) (sumsJ T p S j s):=by
    unfold sumsJ
    have hh:=lsum_has (D:=D) (X:=10 ^ (m * T.length + m)) (l:=((endsL T).take j).map fun e => if atN T p e=s then endQ T p S e else 0) (fun q hq => by
     obtain ⟨e,he,rfl⟩:=List.mem_map.1 hq
     split
     · have hm:=List.mem_of_mem_take he
       have hk:=(List.mem_filter.1 hm).2
       have hlt:=endsL_lt hm
       unfold isEnd at hk
       rw [List.getElem?_eq_getElem hlt] at hk
       exact (h2 e _ (List.getElem?_eq_getElem hlt) (of_decide_eq_true hk)).1
     · exact HasD.zero _ _)
    rwa [List.length_map] at hh
   refine key hl (a:=T.length + (m * T.length + m)) ?_ (by omega)
   rw [hpa T.length]
   refine Nat.mul_le_mul_right _ (Nat.le_trans ?_ hn)
   rw [List.length_take]
   exact Nat.le_trans (Nat.min_le_right _ _) (endsK_le T T.length)
 · refine key (h4 d s) (a:=T.length + (T.length + (m * T.length + m))) ?_ (by omega)
   have hpa:∀ a b:Nat,10 ^ (a + b)=10 ^ a * 10 ^ b:=fun a b => Nat.pow_add 10 a b
   rw [hpa T.length,hpa T.length]
   exact Nat.mul_le_mul (Nat.le_trans (two_le_ten d) (Nat.pow_le_pow_right (by omega) hd)) (Nat.mul_le_mul_right _ hn)
theorem best_any {T:List Nd} (hT:Valid T) {p:Int} (hp:p=0 ∨ p=1) {S:List Ch} (hS:strategyE T (1 - p) S=0) {B:Nat} (hB:B=800000) :
 (∀ (k:Nat) (x:Nd),T[k]?=some x → x.kind=0 → RB B (endQ T p S k) ∧ RB B (oth T p S k * payN T k)) ∧ (∀ j s,RB B (sumsJ T p S j s)) ∧ ∀ d s,d ≤ T.length → RB B (hsL T p (sumsG T p S T.length) d s) :=
 best_RB hT hp hS (AllRB.any hT hS) (by have:=hT.len; omega)
theorem ways_one (T:List Nd) (p:Int) (i:Nat):1 ≤ (waysL T p i).length:=(List.getElem?_eq_some_iff.1 (waysL_pos T p i)).1
theorem fresh_len {T:List Nd} {p:Int} {i:Nat} {x:Nd} (hx:T[i]?=some x) (hf:freshB T p i x=true):(waysL T p (i + 1)).length=(waysL T p i).length + x.next.length:=by
 rw [waysL_succ hx,if_pos hf,List.length_append,List.length_map,List.length_range]
def Cho (T:List Nd) (p:Int) (g:Nat → Rat) (E:Nat) (f:Int → Option Value):Prop:=∀ (i:Nat) (x:Nd),T[i]?=some x → freshB T p i x=true → E ≤ (waysL T p i).length → f x.info=some (.int .i64 ((bestP T p g x.info:Nat):Int))
theorem Cho.start {T:List Nd} (hT:Valid T) (p:Int) (g:Nat → Rat) (f:Int → Option Value):Cho T p g (waysL T p T.length).length f:=fun i x hx hf hE => by
 obtain ⟨f1,f2,_⟩:=freshB_iff.1 hf
 have h1:=fresh_len hx hf
 have h2:(waysL T p (i + 1)).length ≤ (waysL T p T.length).length:=waysL_lens (Valid.lt hx)
 have:=(hT.wide1 hx f1).1
 omega
theorem Cho.all {T:List Nd} (hT:Valid T) {p:Int} {g:Nat → Rat} {E:Nat} {f:Int → Option Value} (h:Cho T p g E f) (hE:E ≤ 1) {q:Int} (hq:q ∈ infosT T p):f q=some (.int .i64 ((bestP T p g q:Nat):Int)):=by
 obtain ⟨i,x,hx,hf,rfl⟩:=fresh_of_info hT hq
 exact h i x hx hf (Nat.le_trans hE (ways_one T p i))
structure Blk (T:List Nd) (p:Int) (g:Nat → Rat) (d e:Nat) (x:Nd) (st bf:Nat):Prop where
 de:e + 1 ≤ T.length
 le:d ≤ e
 en:(waysL T p (T.length - d)).length=st + x.next.length
 n0:0 < x.next.length
 n6:x.next.length ≤ 6
 s1:1 ≤ st
 ws:(waysL T p (T.length - (e + 1))).length=st
 sq:∀ c,c < x.next.length → (seqsL T p T.length)[st + c]?=some (x.info,(c:Int),(bf:Int))
 bl:bf < st
 hs:hsL T p g (e + 1)=fun j => if j=bf then hsL T p g d j + hsL T p g d (st + maxAt (hsL T p g d) st (x.next.length - 1)) else hsL T p g d j
 best:bestP T p g x.info=maxAt (hsL T p g d) st (x.next.length - 1)
 inf:0 ≤ x.info ∧ x.info ≤ 9
 cho:∀ f,Cho T p g (waysL T p (T.length - d)).length f → Cho T p g st (fun q => if q=x.info then some (.int .i64 ((bestP T p g x.info:Nat):Int)) else f q)
theorem next_blk {T:List Nd} (hT:Valid T) {p:Int} (hr:remB T p=true) (g:Nat → Rat) {d:Nat} (hd:d ≤ T.length) (hl:1 < (waysL T p (T.length - d)).length):∃ e x st bf,Blk T p g d e x st bf:=by
 obtain ⟨e,x,k1,k2,k3,k4,k5,k6,k7,k8,k9⟩:=next_fresh hT g (T.length - d) d (Nat.le_refl _) hd hl
 obtain ⟨f1,f2,_⟩:=freshB_iff.1 k4
 have hlt:=own_in hT hr (i:=T.length - (e + 1)) (by omega)
 refine ⟨e,x,(waysL T p (T.length - (e + 1))).length,idxL (waysL T p (T.length - (e + 1))) (own T p (T.length - (e + 1))),⟨by omega,k1,by rw [← k6,k7],k8,k9,ways_one _ _ _,rfl,fun c hc => seqs_block k3 k4 hc,List.idxOf_lt_length_iff.2 hlt,?_,?_,⟨(hT.wide1 k3 f1).2.2.1,(hT.wide1 k3 f1).2.2.2.1⟩,fun f hf i y hy hfy hE => ?_⟩⟩
 · rw [hs_fresh g k3 k4,k5]
 · rw [bestP_fresh g k3 k4,show T.length - (T.length - (e + 1) + 1)=e by omega,k5]
 · dsimp only
   by_cases hq:y.info=x.info
   · rw [if_pos hq,hq]
   · rw [if_neg hq]
     refine hf i y hy hfy ?_
     have hfl:=fresh_len hy hfy
     have hpos:=(hT.wide1 hy (freshB_iff.1 hfy).1).1
     by_cases h1:i < T.length - (e + 1)
     · have:=waysL_lens (T:=T) (p:=p) (show i + 1 ≤ T.length - (e + 1) by omega)
       omega
     · by_cases h2:i=T.length - (e + 1)
       · subst h2
         rw [k3] at hy
         cases hy
         exact absurd rfl hq
       · have:=waysL_lens (T:=T) (p:=p) (show T.length - e ≤ i by omega)
         rw [k6] at this
         exact this
theorem Blk.set {T:List Nd} {p:Int} {g:Nat → Rat} {d e st bf:Nat} {x:Nd} (h:Blk T p g d e x st bf) (N:Nat) :
 ((List.range N).map (hsL T p g d)).set bf (hsL T p g d bf + hsL T p g d (st + maxAt (hsL T p g d) st (x.next.length - 1)))=(List.range N).map (hsL T p g (e + 1)) :=
 range_set (by rw [h.hs]; exact if_pos rfl) fun s hs => by rw [h.hs]; exact if_neg hs
theorem QsO.apart {w:World} {B g n:Nat} {qs:List Rat} (h:QsO w B (.slice (some ⟨g,0,none⟩) n n) qs) {b off:Nat} {z:Int} (hc:w.cell? ⟨b,off,none⟩=some (.int .i64 z)):b ≠ g:=by
 rintro rfl
 obtain ⟨ts,h1,h2,h3,h4⟩:=h
 have hcells:=h1.cells (g:=b) rfl
 rcases h1.2 with ⟨e,_⟩ | ⟨g2,cap2,cur,e,_,hgc,hcp,_,hcs,_⟩
 · simp at e
 · simp only [Value.slice.injEq,Option.some.injEq,Addr.mk.injEq,and_true] at e
   obtain ⟨rfl,e2,e3⟩:=e
   have hfl:=flatT_len ts
   have hoff:off < cur.size:=by
    have h5:=hc
    rw [cell_of_obj' hgc] at h5
    exact (Array.getElem?_eq_some_iff.1 h5).1
   have hi:off / 3 < ts.length:=by omega
   obtain ⟨t,ht⟩:∃ t,ts[off / 3]?=some t:=⟨_,List.getElem?_eq_getElem hi⟩
   obtain ⟨q,hq⟩:∃ q,qs[off / 3]?=some q:=⟨_,List.getElem?_eq_getElem (by omega)⟩
   have hv:=h4 _ t q ht hq
   obtain ⟨s,a,l,c,b2,m,d,e⟩:=hv.parts
   rw [e] at ht
   obtain ⟨p0,p1,p2⟩:=flatT_get ts _ _ ht
   rcases (show off=off / 3 * 3 ∨ off=off / 3 * 3 + 1 ∨ off=off / 3 * 3 + 2 by omega) with h | h | h
   · have:=hcells _ _ p0
     rw [Addr.add_lit,Nat.zero_add,← h,hc] at this
     simp at this
   · have:=hcells _ _ p1
     rw [Addr.add_lit,Nat.zero_add,← h,hc] at this
     simp at this
   · have:=hcells _ _ p2
     rw [Addr.add_lit,Nat.zero_add,← h,hc] at this
     simp at this
theorem QCells.keeps {w w':World} {ao:Option Addr} {qs:List Rat} (h:QCells w ao qs) (hk:Keeps w w'):QCells w' ao qs:=fun i q hq => by
 obtain ⟨g,s,a,l,c,b,m,d,e,c0,c1,c2,h1⟩:=h i q hq
 exact ⟨g,s,a,l,c,b,m,d,e,hk _ _ c0,hk _ _ c1,hk _ _ c2,h1.keeps hk⟩
structure BM (T:List Nd) (p:Int) (S:List Ch) (K4 G:Nat) (so:Option Addr) (ns cs:Nat) (ao:Option Addr) (na ca:Nat) (go:Option Addr) (W:World):Prop where
 c4:W.cell? ⟨K4,0,none⟩=some (.int .i64 p)
 g0:W.cell? ⟨G,0,none⟩=some (.slice so ns cs)
 g1:W.cell? ⟨G,1,none⟩=some (.slice ao na ca)
 at':CellsOf (Value.int .i64) W ao (atL T p)
 sq:SqOf W so (seqsL T p T.length)
 rs:QCells W go ((List.range T.length).map (oth T p S))
section
variable {T:List Nd} {p:Int} {S:List Ch} {K4 G:Nat} {so:Option Addr} {ns cs:Nat} {ao:Option Addr} {na ca:Nat} {go:Option Addr} {W0 W W':World}
theorem BM.ext (h:BM T p S K4 G so ns cs ao na ca go W) (hx:Ext W W'):BM T p S K4 G so ns cs ao na ca go W' :=
 ⟨hx.cell h.c4,hx.cell h.g0,hx.cell h.g1,h.at'.ext hx,h.sq.ext hx,h.rs.ext hx⟩
theorem BM.keeps (h:BM T p S K4 G so ns cs ao na ca go W) (hk:Keeps W W'):BM T p S K4 G so ns cs ao na ca go W' :=
 ⟨hk _ _ h.c4,hk _ _ h.g0,hk _ _ h.g1,fun j x hx => by obtain ⟨b,off,e,hc⟩:=h.at' j x hx; exact ⟨b,off,e,hk _ _ hc⟩,fun j x hx => by obtain ⟨b,off,e,hc⟩:=h.sq j x hx; exact ⟨b,off,e,hk _ _ hc⟩,h.rs.keeps hk⟩
theorem BM.kept (h0:BM T p S K4 G so ns cs ao na ca go W0) (hT:0 < T.length) (h:BM T p S K4 G so ns cs ao na ca go W) {k n c:Nat} (hk:W0.heap.size ≤ k) (hc:Clean W (.slice (some ⟨k,0,none⟩) n c)) (hg:W.grownBy W' (some k)):BM T p S K4 G so ns cs ao na ca go W':=by
 have key:∀ {b off:Nat} {v u:Value},W0.cell? ⟨b,off,none⟩=some u → W.cell? ⟨b,off,none⟩=some v → W'.cell? ⟨b,off,none⟩=some v:=fun {b off v u} h1 h2 =>
  hg.cell h2 (by have h3:=World.block_lt_of_cell? W0 _ h1; intro e; simp only [Option.some.injEq] at e; subst e; exact absurd h3 (by show ¬ b < _; omega))
 refine ⟨key h0.c4 h.c4,key h0.g0 h.g0,key h0.g1 h.g1,fun j x hx => ?_,fun j x hx => ?_,hc.keptC (v:=.slice (some ⟨k,0,none⟩) n c) hg h.rs fun b hb e => ?_⟩
 · obtain ⟨b,off,e,hcc⟩:=h.at' j x hx
   obtain ⟨b2,off2,e2,hc2⟩:=h0.at' j x hx
   rw [e] at e2
   cases e2
   exact ⟨b,off,e,key hc2 hcc⟩
 · obtain ⟨b,off,e,hcc⟩:=h.sq j x hx
   obtain ⟨b2,off2,e2,hc2⟩:=h0.sq j x hx
   rw [e] at e2
   cases e2
   exact ⟨b,off,e,key hc2 hcc⟩
 · have h3:=h0.rs.lt b hb (by intro h; have:=congrArg List.length h; rw [List.length_map,List.length_range,List.length_nil] at this; omega)
   simp only [Value.ownBlock,Option.some.injEq] at e
   omega
end
theorem range_setG {α:Type} {f g:Nat → α} {N i:Nat} {v:α} (h1:g i=v) (h2:∀ s,s ≠ i → g s=f s):((List.range N).map f).set i v=(List.range N).map g:=by
 apply List.ext_getElem?
 intro s
 by_cases hs:s < N
 · by_cases hi:s=i
   · subst hi
     rw [List.getElem?_set_self (by simpa using hs),List.getElem?_map,List.getElem?_range hs,← h1]; rfl
   · rw [List.getElem?_set_ne (fun h => hi h.symm),List.getElem?_map,List.getElem?_map,List.getElem?_range hs]
     show some (f s)=some (g s)
     rw [h2 s hi]
 · rw [List.getElem?_eq_none (by simp; omega),List.getElem?_eq_none (by simp; omega)]
def zerosTo (N i:Nat):List (Option Rat):=(List.range N).map fun s => if s < i then some 0 else none
theorem zerosTo_zero (N:Nat):zerosTo N 0=List.replicate N none:=by
 unfold zerosTo
 apply List.ext_getElem?
 intro s
 by_cases hs:s < N
 · rw [List.getElem?_map,List.getElem?_range hs,List.getElem?_replicate,if_pos hs]; rfl
 · rw [List.getElem?_eq_none (by simp; omega),List.getElem?_eq_none (by simp; omega)]
theorem zerosTo_set (N i:Nat):(zerosTo N i).set i (some 0)=zerosTo N (i + 1) :=
 range_setG (by rw [if_pos (by omega)]) fun s hs => by
  by_cases h:s < i
  · rw [if_pos h,if_pos (by omega)]
  · rw [if_neg h,if_neg (by omega)]
theorem zerosTo_all (T:List Nd) (p:Int) (S:List Ch) (N:Nat):zerosTo N N=((List.range N).map (sumsJ T p S 0)).map some:=by
 unfold zerosTo
 rw [List.map_map]
 apply List.map_congr_left
 intro s hs
 rw [if_pos (List.mem_range.1 hs)]
 rfl
theorem zerosTo_len (N i:Nat):(zerosTo N i).length=N:=by unfold zerosTo; simp
theorem maxAt_next {f:Nat → Rat} {st i:Nat} (h:st ≤ i):(if f (st + maxAt f st (i - st - 1)) < f i then i else st + maxAt f st (i - st - 1))=st + maxAt f st (i + 1 - st - 1):=by
 by_cases hi:i=st
 · subst hi
   rw [show i - i - 1=0 by omega,show i + 1 - i - 1=0 by omega,maxAt,Nat.add_zero,if_neg (Rat.lt_irrefl),]
 · obtain ⟨m,rfl⟩:∃ m,i=st + (m + 1):=⟨i - st - 1,by omega⟩
   rw [show st + (m + 1) - st - 1=m by omega,show st + (m + 1) + 1 - st - 1=m + 1 by omega,maxAt]
   split <;> rfl
theorem bx_put {w:World} {O:Nat} {x y z:Value} (h:w.ownsRow O 89 3 (.slice (some ⟨O,0,none⟩) 1 1) 1 [x,y,z]) (hd:∀ u ∈ [x,y,z],∀ d:Nat,u ≠ encD d) {s2:Bool} {xo2 yo2:Option Addr} {xl2 xc2 yl2 yc2:Nat} {r:Rat} (hr:QV w (.agg #[.bool s2,.slice xo2 xl2 xc2,.slice yo2 yl2 yc2]) r) :
 ∃ w7,(((w.setCell ⟨O,0,none⟩ (.bool s2)).setCell ⟨O,1,none⟩ (.slice xo2 xl2 xc2)).setCell ⟨O,2,none⟩ (.slice yo2 yl2 yc2))=w7 ∧ w.grownBy w7 (some O) ∧ Acc w7 O s2 xo2 xl2 xc2 yo2 yl2 yc2 r:=by
 have T:=st3 h
 have hgr:=T.by' (.bool s2) (.slice xo2 xl2 xc2) (.slice yo2 yl2 yc2)
 exact ⟨_,rfl,hgr,T.own _ _ _,(clean_full h hd).keptQ (v:=.slice (some ⟨O,0,none⟩) 1 1) hgr hr⟩
theorem bx_zero:∀ u ∈ [Value.bool false,.slice none 0 0,.slice none 0 0],∀ d:Nat,u ≠ encD d:=by
 intro u hu d
 simp at hu
 rcases hu with rfl | rfl <;> simp [encD]
theorem QsO.keeps {w w':World} {B b:Nat} {v:Value} {qs:List Rat} (h:QsO w B v qs) (hg:w.grownBy w' (some b)) (hk:Keeps w w') (hne:v.ownBlock ≠ some b):QsO w' B v qs:=by
 obtain ⟨ts,h1,h2,h3,h4⟩:=h
 refine ⟨ts,own_kept h1 hg (.inl hne),fun g hgb => ?_,h3,fun i t q a b => (h4 i t q a b).keeps hk⟩
 obtain ⟨cur,e,fr,hb,hn⟩:=h2 g hgb
 refine ⟨cur,e,fr,?_,hn⟩
 rw [hg.block g (Array.getElem?_eq_some_iff.1 hb).1 (fun e => hne (by rw [hgb]; exact e))]
 exact hb
end Go.Proofs.YtcggohkbmhdohaaGreatDoor
