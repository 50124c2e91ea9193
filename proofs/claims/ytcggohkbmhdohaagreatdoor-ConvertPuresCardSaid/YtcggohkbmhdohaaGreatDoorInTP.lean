/- texts merged: InT InS -/
import Derived.Test.YtcggohkbmhdohaaGreatDoorInC
import Derived.Test.YtcggohkbmhdohaaGreatDoorSlB
namespace Go.Proofs.YtcggohkbmhdohaaGreatDoor
open Go.ChangeShapes Go.WideShapes Go.ChangeAt Go.RowKit Go.Deep
theorem strs_elem {H:Type} {enc:TypeId × Value → H} {P:Program} {W:World} {t e:TypeId} (ht:P.underlying t=some (.slice e)) (he:P.underlying e=some .string) (ce:P.cellsOf e=1) (hB:P.bytesOf e=16)
 {n:Nat} {v:Value} {y:DataW H × List MemPlace} (h:DataW.trod enc P W 0 (fun _ => true) true n t [v]=some y) (hs:Sized P t y.1) :
 ∃ xs:List ByteArray,Strs W v xs ∧ xs.length ≤ 17592186044416 ∧ (∀ s ∈ xs,s.size ≤ reachBytes):=by
 obtain ⟨us,xs,h1,h2,h3,h4⟩:=slice_in (Rel:=fun u x => u=.string x ∧ x.size ≤ reachBytes) ht ce hB (by omega) (fun n u y hy hz => by
  obtain ⟨s,h5,h6,_⟩:=DataW.trod_string he hy
  refine ⟨s,by simpa using h5,?_⟩
  rw [h6] at hz
  have:=Sized.string hz
  simpa using this) h hs
 have hu:=rel_map h2 (fun i u x a b => (h4 i u x a b).1)
 subst hu
 refine ⟨xs,h1,?_,fun s hx => ?_⟩
 · simp only [List.length_map] at h3; unfold reachBytes at h3; omega
 · obtain ⟨i,hi,rfl⟩:=List.mem_iff_getElem.1 hx
   exact (h4 i _ _ (by rw [List.getElem?_map,List.getElem?_eq_getElem hi]; rfl) (List.getElem?_eq_getElem hi)).2
set_option linter.unusedVariables false
theorem structs_in {H:Type} {enc:TypeId × Value → H} {P:Program} {W:World} {α:Type} {t e:TypeId} {B:Nat} {fs:Array Field} (ht:P.underlying t=some (.slice e)) (he:P.underlying e=some (.struct fs)) (hone:oneCellFields P fs=true) (hC:P.cellsOf e=fs.size) (hF:0 < fs.size) (hB:P.bytesOf e=B) (h8:8 ≤ B) {Rel:List Value → α → Prop}
 (helem:∀ (n:Nat) (vs:List Value),vs.length=fs.size → (∀ (j:Nat) (f:Field) (v:Value),fs[j]?=some f → vs[j]?=some v → ∃ y,DataW.trod enc P W 0 (fun _ => true) true n f.type [v]=some y ∧ Sized P f.type y.1) → ∃ x,Rel vs x)
 {n:Nat} {v:Value} {y:DataW H × List MemPlace} (h:DataW.trod enc P W 0 (fun _ => true) true n t [v]=some y) (hs:Sized P t y.1) :
 ∃ (ao:Option Addr) (c:Nat) (xs:List α) (vss:List (List Value)),v=.slice ao xs.length c ∧ xs.length ≤ c ∧ (ao=none → c=0) ∧ xs.length * B ≤ reachBytes ∧ vss.length=xs.length ∧
   ∀ (i:Nat) (vs:List Value) (x:α),vss[i]?=some vs → xs[i]?=some x → Rel vs x ∧ vs.length=fs.size ∧ ∀ (j:Nat) (u:Value),vs[j]?=some u → ∃ b off,ao=some ⟨b,off,none⟩ ∧ W.cell? ⟨b,off + i * fs.size + j,none⟩=some u:=by
 rcases open_slice ht h with ⟨hcs,hx⟩ | ⟨a,len,cap,m,n,D,Pl,hcs,_,hl,hm,hmm,rfl,hx⟩
 · simp at hcs
   subst hcs
   exact ⟨none,0,[],[],rfl,Nat.le_refl _,fun _ => rfl,by simp,rfl,fun i vs x h => by simp at h⟩
 · simp at hcs
   subst hcs
   obtain ⟨h1,h2⟩:=Sized.slice ht hs
   rw [hB] at h1
   have hlm:len ≤ m:=by rw [hmm]; simp [hl]
   simp only [List.length_map,List.length_range] at h1
   have hlen:len * B ≤ reachBytes:=Nat.le_trans (Nat.mul_le_mul_right _ (by omega)) h1
   have each:∀ i,i < len → ∃ z:List Value × α,Rel z.1 z.2 ∧ z.1.length=fs.size ∧ ∀ (j:Nat) (u:Value),z.1[j]?=some u → W.cell? (a.add (i * fs.size + j))=some u:=by
    intro i hi
    obtain ⟨cs',hc,htr⟩:=hx i (by omega)
    rw [hC] at hc
    have hsz:=h2 _ (List.mem_map.2 ⟨i,List.mem_range.2 hi,rfl⟩)
    obtain ⟨ys,n',_,hy,hcl0,hyl,hf⟩:=DataW.trod_struct he htr
    obtain ⟨_,hcl,hat⟩:=World.cells?_some hc
    simp only [Prod.mk.injEq] at hy
    rw [hy.1] at hsz
    obtain ⟨x,hrel⟩:=helem n' cs' (by omega) (fun j f v hfj hv => by
     obtain ⟨ho,hk⟩:=hone_of hone j f hfj
     have hjl:j < fs.size:=(Array.getElem?_eq_some_iff.1 hfj).1
     have h1:=hf j f hfj
     rw [ho,hk] at h1
     have hv':cs'[j]'(by omega)=v:=by
      rw [List.getElem?_eq_getElem (by omega)] at hv
      exact Option.some.inj hv
     have hone':(cs'.drop j).take 1=[v]:=by
      rw [List.drop_eq_getElem_cons (by omega),hv']
      rfl
     rw [hone'] at h1
     have hys:ys[j]?=some (ys[j]'(by omega)):=List.getElem?_eq_getElem (by omega)
     rw [hys] at h1
     exact ⟨_,h1,hsz.agg he hfj (by rw [List.getElem?_map,hys]; rfl)⟩)
    refine ⟨(cs',x),hrel,by show cs'.length=_; omega,fun j u hu => ?_⟩
    have hjl:=(List.getElem?_eq_some_iff.1 hu).1
    have:=hat j (by simp only at hjl; omega)
    rw [add_add] at this
    rw [this]; exact hu
   obtain ⟨zs,hzl,hzs⟩:=list_of (fun i (z:List Value × α) => Rel z.1 z.2 ∧ z.1.length=fs.size ∧ ∀ (j:Nat) (u:Value),z.1[j]?=some u → W.cell? (a.add (i * fs.size + j))=some u) len each
   refine ⟨some a,cap,zs.map (·.2),zs.map (·.1),by simp [hzl],by simpa [hzl] using hl,fun e => (by cases e),by simpa [hzl] using hlen,by simp,fun i vs x hv hx2 => ?_⟩
   simp only [List.getElem?_map,Option.map_eq_some_iff] at hv hx2
   obtain ⟨z,hz,rfl⟩:=hv
   obtain ⟨z',hz',rfl⟩:=hx2
   rw [hz] at hz'
   obtain rfl:=Option.some.inj hz'
   obtain ⟨r1,r2,r3⟩:=hzs i z hz
   refine ⟨r1,r2,fun j u hu => ?_⟩
   have hc0:=r3 j u hu
   obtain ⟨b,off,spot⟩:=a
   have hspot:spot=none:=by
    have hi0:0 < zs.length:=by have:=(List.getElem?_eq_some_iff.1 hz).1; omega
    obtain ⟨_,q2,q3⟩:=hzs 0 zs[0] (List.getElem?_eq_getElem hi0)
    have:=World.cell?_spot (q3 0 (zs[0].1[0]'(by omega)) (List.getElem?_eq_getElem (by omega)))
    simpa [Addr.add] using this
   subst hspot
   refine ⟨b,off,rfl,?_⟩
   rw [Addr.add_lit] at hc0
   rw [← hc0]
   congr 2
   omega
end Go.Proofs.YtcggohkbmhdohaaGreatDoor
