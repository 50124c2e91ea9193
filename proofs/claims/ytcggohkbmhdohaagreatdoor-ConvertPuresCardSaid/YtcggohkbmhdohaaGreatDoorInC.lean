/- arguments that are read: slices by their elements -/
import Derived.Test.YtcggohkbmhdohaaGreatDoorRows
import Derived.Test.YtcggohkbmhdohaaGreatDoorLibB
import Derived.ProofKit
import Derived.OpenShut
import Derived.SizedLaws
import Derived.Deep.Slices
import Derived.Deep.Fields
import Derived.ChangeSame
namespace Go.Proofs.YtcggohkbmhdohaaGreatDoor
open Go.ChangeShapes Go.WideShapes Go.ChangeAt Go.RowKit Go.Deep
theorem prog_own:ownKnob Tryz.prog.godebug=none:=by kernel_rfl
theorem prog_laid:laidOutB Tryz.prog=true:=by kernel_rfl
def Sized {H:Type} (P:Program) (t:TypeId) (d:DataW H):Prop:=∀ m ∈ d.weights P t,m ≤ reachBytes
theorem sized_arg {H:Type} {P:Program} {ts:List TypeId} {ds:List (DataW H)} (h:(DataW.weightsEach P ts ds).all (· ≤ reachBytes)=true) {j:Nat} {t:TypeId} {d:DataW H} (ht:ts[j]?=some t) (hd:ds[j]?=some d):Sized P t d:=by
 intro m hm
 have:=List.all_eq_true.1 h _ (DataW.weights_mem_each ht hd m hm)
 simpa using this
theorem mem_weightsAll {H:Type} {P:Program} {e:TypeId}:∀ {ds:List (DataW H)} {d:DataW H},d ∈ ds → ∀ m ∈ d.weights P e,m ∈ DataW.weightsAll P e ds
 | d0 :: ds,d,hd,m,hm => by
   simp only [DataW.weightsAll,List.mem_append]
   rcases List.mem_cons.1 hd with rfl | h
   · exact .inl hm
   · exact .inr (mem_weightsAll h m hm)
 | [],_,hd,_,_ => by cases hd
theorem Sized.slice {H:Type} {P:Program} {t e:TypeId} {elems spare:List (DataW H)} (ht:P.underlying t=some (.slice e)) (h:Sized P t (.slice elems spare)) :
 (elems.length + spare.length) * P.bytesOf e ≤ reachBytes ∧ ∀ d ∈ elems,Sized P e d:=by
 unfold Sized at h
 simp only [DataW.weights,ht] at h
 refine ⟨h _ (List.mem_cons_self ..),fun d hd m hm => h m ?_⟩
 exact List.mem_cons_of_mem _ (List.mem_append_left _ (mem_weightsAll hd m hm))
theorem Sized.agg {H:Type} {P:Program} {t:TypeId} {fs:Array Field} {parts:List (DataW H)} (ht:P.underlying t=some (.struct fs)) (h:Sized P t (.agg parts)) {j:Nat} {f:Field} {d:DataW H} (hf:fs[j]?=some f) (hd:parts[j]?=some d):Sized P f.type d:=by
 unfold Sized at h
 simp only [DataW.weights,ht] at h
 intro m hm
 refine h m (DataW.weights_mem_each (j:=j) ?_ hd m hm)
 simp [List.getElem?_map,hf]
theorem Sized.string {H:Type} {P:Program} {t:TypeId} {bytes:List UInt8} (h:Sized (H:=H) P t (.lit (.string bytes))):bytes.length ≤ reachBytes :=
 h _ (by simp [DataW.weights])
theorem list_of {α:Type} (R:Nat → α → Prop):∀ n:Nat,(∀ i,i < n → ∃ x,R i x) → ∃ xs:List α,xs.length=n ∧ ∀ (i:Nat) (x:α),xs[i]?=some x → R i x
 | 0,_ => ⟨[],rfl,fun i x h => by simp at h⟩
 | n + 1,h => by
   obtain ⟨xs,hl,hx⟩:=list_of R n (fun i hi => h i (by omega))
   obtain ⟨y,hy⟩:=h n (by omega)
   refine ⟨xs ++ [y],by simp [hl],fun i x he => ?_⟩
   by_cases hi:i < n
   · rw [List.getElem?_append_left (by omega)] at he; exact hx i x he
   · rw [List.getElem?_append_right (by omega),hl] at he
     have:i - n=0:=by have:=(List.getElem?_eq_some_iff.1 he).1; simp at this; omega
     rw [this] at he
     simp at he
     have e:i=n:=by omega
     subst e; subst he; exact hy
theorem rel_map {α:Type} {enc:α → Value} {us:List Value} {xs:List α} (hl:us.length=xs.length) (h:∀ (i:Nat) (u:Value) (x:α),us[i]?=some u → xs[i]?=some x → u=enc x):us=xs.map enc:=by
 apply List.ext_getElem?
 intro i
 rw [List.getElem?_map]
 by_cases hi:i < us.length
 · have h1:=List.getElem?_eq_getElem hi
   have h2:=List.getElem?_eq_getElem (l:=xs) (show i < xs.length by omega)
   rw [h1,h2,h i _ _ h1 h2]; rfl
 · rw [List.getElem?_eq_none (by omega),List.getElem?_eq_none (by omega)]; rfl
section
variable {H:Type} {enc:TypeId × Value → H} {P:Program} {W:World}
theorem slice_in {α:Type} {t e:TypeId} {B:Nat} (ht:P.underlying t=some (.slice e)) (ce:P.cellsOf e=1) (hB:P.bytesOf e=B) (h8:8 ≤ B) {Rel:Value → α → Prop}
 (helem:∀ n u y,DataW.trod enc P W 0 (fun _ => true) true n e [u]=some y → Sized P e y.1 → ∃ x,Rel u x)
 {n:Nat} {v:Value} {y:DataW H × List MemPlace} (h:DataW.trod enc P W 0 (fun _ => true) true n t [v]=some y) (hs:Sized P t y.1) :
 ∃ (us:List Value) (xs:List α),Row W v us ∧ us.length=xs.length ∧ us.length * B ≤ reachBytes ∧ ∀ (i:Nat) (u:Value) (x:α),us[i]?=some u → xs[i]?=some x → Rel u x:=by
 rcases open_slice1 ht ce h with ⟨hcs,hx⟩ | ⟨a,len,cap,m,n,V,D,Pl,hcs,_,hl,hm,hmm,rfl,hx⟩
 · simp at hcs
   subst hcs
   exact ⟨[],[],Row.nil W,rfl,by simp,fun i u x h => by simp at h⟩
 · simp at hcs
   subst hcs
   obtain ⟨h1,h2⟩:=Sized.slice ht hs
   rw [hB] at h1
   have hlm:len ≤ m:=by rw [hmm]; simp [hl]
   simp only [List.length_map,List.length_range] at h1
   have hlen:len * B ≤ reachBytes:=Nat.le_trans (Nat.mul_le_mul_right _ (by omega)) h1
   have h44:len ≤ 17592186044416:=by
    have:len * 8 ≤ reachBytes:=Nat.le_trans (Nat.mul_le_mul_left _ h8) hlen
    unfold reachBytes at this; omega
   obtain ⟨xs,hxl,hxs⟩:=list_of (fun i x => Rel (V i) x) len (fun i hi => helem _ _ _ (hx i (by omega)).2 (h2 _ (List.mem_map.2 ⟨i,List.mem_range.2 hi,rfl⟩)))
   refine ⟨(List.range len).map V,xs,⟨some a,cap,by simp,⟨fun e => (by cases e),by simpa using hl⟩,by simpa using h44,fun _ e => (by cases e),fun i u hu => ?_⟩,by simp [hxl],by simpa using hlen,fun i u x hu hx2 => ?_⟩
   · simp only [List.getElem?_map,Option.map_eq_some_iff] at hu
     obtain ⟨j,hj,rfl⟩:=hu
     have hjl:=(List.getElem?_eq_some_iff.1 hj).1
     simp only [List.length_range] at hjl
     rw [List.getElem?_range hjl] at hj
     obtain rfl:=Option.some.inj hj
     obtain ⟨b,off,spot⟩:=a
     have hc0:=(hx i (by omega)).1
     have hspot:spot=none:=by
      have:=World.cell?_spot (hx 0 (by omega)).1
      simpa [Addr.add] using this
     subst hspot
     exact ⟨b,off,rfl,by rw [Addr.add_lit] at hc0; exact hc0⟩
   · simp only [List.getElem?_map,Option.map_eq_some_iff] at hu
     obtain ⟨j,hj,rfl⟩:=hu
     have hjl:=(List.getElem?_eq_some_iff.1 hj).1
     simp only [List.length_range] at hjl
     rw [List.getElem?_range hjl] at hj
     obtain rfl:=Option.some.inj hj
     exact hxs i x hx2
theorem trod_slice_arg {t e:TypeId} {v:Value} {d:DataW H} {p:List MemPlace} {base:Nat} (ht:P.underlying t=some (.slice e)) (hv:Value.okWide P W .any base t v) (h:DataW.Trod enc P W 0 (fun _ => true) true t v d p) :
 ∃ n,DataW.trod enc P W 0 (fun _ => true) true n t [v]=some (d,p):=by
 obtain ⟨a0,len,cap,rfl⟩:=okWide_slice ht hv
 obtain ⟨fuel,hf⟩:=h
 exact ⟨fuel,by simpa [Value.cells] using hf⟩
end
theorem ints_elem {H:Type} {enc:TypeId × Value → H} {P:Program} {W:World} {t e:TypeId} (ht:P.underlying t=some (.slice e)) (he:P.underlying e=some (.int .i64)) (ce:P.cellsOf e=1) (hB:P.bytesOf e=8)
 {n:Nat} {v:Value} {y:DataW H × List MemPlace} (h:DataW.trod enc P W 0 (fun _ => true) true n t [v]=some y) (hs:Sized P t y.1) :
 ∃ xs:List Int,Ints W v xs ∧ xs.length + 512 ≤ 17592186044416 ∧ (∀ x ∈ xs,(Lit.int .i64 x).wf=true):=by
 obtain ⟨us,xs,h1,h2,h3,h4⟩:=slice_in (Rel:=fun u x => u=.int .i64 x ∧ (Lit.int .i64 x).wf=true) ht ce hB (by omega) (fun n u y hy _ => by
  obtain ⟨x,h5,_,h6⟩:=DataW.trod_int he hy
  exact ⟨x,by simpa using h5,h6⟩) h hs
 have hu:=rel_map h2 (fun i u x a b => (h4 i u x a b).1)
 subst hu
 refine ⟨xs,h1,?_,fun x hx => ?_⟩
 · simp only [List.length_map] at h3; unfold reachBytes at h3; omega
 · obtain ⟨i,hi,rfl⟩:=List.mem_iff_getElem.1 hx
   exact (h4 i _ _ (by rw [List.getElem?_map,List.getElem?_eq_getElem hi]; rfl) (List.getElem?_eq_getElem hi)).2
end Go.Proofs.YtcggohkbmhdohaaGreatDoor
