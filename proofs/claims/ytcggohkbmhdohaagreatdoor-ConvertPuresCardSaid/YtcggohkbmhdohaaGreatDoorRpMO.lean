/- texts merged: RpM RpN Tl RpO -/
import Derived.Test.YtcggohkbmhdohaaGreatDoorRpAH
import Derived.Test.YtcggohkbmhdohaaGreatDoorRpJL
import Derived.StillTail
import Derived.Deep.RegionHeld3
import Derived.OwnWalk
namespace Go.Proofs.YtcggohkbmhdohaaGreatDoor
open Go.RowKit
set_option linter.unusedVariables false
theorem QsO.apart {w:World} {B g n:Nat} {qs:List Rat} (h:QsO w B (.slice (some ⟨g,0,none⟩) n n) qs) {b off:Nat} {z:Int} (hc:w.cell? ⟨b,off,none⟩=some (.int .i64 z)):b ≠ g:=by
 rintro rfl
 obtain ⟨ts,h1,h2,h3,h4⟩:=h
 have hcells:=h1.cells (g:=b) rfl
 rcases h1.2 with ⟨e,_⟩ | ⟨g2,cap2,cur,e,_,hgc,hcp,_,hcs,_⟩
 · simp at e
 · simp only [Value.slice.injEq,Option.some.injEq,Addr.mk.injEq,and_true] at e
   obtain ⟨rfl,e2,e3⟩:=e
   have hfl:=flatT_len ts
   have hoff:off < cur.size:=by
    have h5:=hc
    rw [cell_of_obj' hgc] at h5
    exact (Array.getElem?_eq_some_iff.1 h5).1
   have hi:off / 3 < ts.length:=by omega
   obtain ⟨t,ht⟩:∃ t,ts[off / 3]?=some t:=⟨_,List.getElem?_eq_getElem hi⟩
   obtain ⟨q,hq⟩:∃ q,qs[off / 3]?=some q:=⟨_,List.getElem?_eq_getElem (by omega)⟩
   have hv:=h4 _ t q ht hq
   obtain ⟨s,a,l,c,b2,m,d,e⟩:=hv.parts
   rw [e] at ht
   obtain ⟨p0,p1,p2⟩:=flatT_get ts _ _ ht
   rcases (show off=off / 3 * 3 ∨ off=off / 3 * 3 + 1 ∨ off=off / 3 * 3 + 2 by omega) with h | h | h
   · have:=hcells _ _ p0
     rw [Addr.add_lit,Nat.zero_add,← h,hc] at this
     simp at this
   · have:=hcells _ _ p1
     rw [Addr.add_lit,Nat.zero_add,← h,hc] at this
     simp at this
   · have:=hcells _ _ p2
     rw [Addr.add_lit,Nat.zero_add,← h,hc] at this
     simp at this
theorem QCells.keeps {w w':World} {ao:Option Addr} {qs:List Rat} (h:QCells w ao qs) (hk:Keeps w w'):QCells w' ao qs:=fun i q hq => by
 obtain ⟨g,s,a,l,c,b,m,d,e,c0,c1,c2,h1⟩:=h i q hq
 exact ⟨g,s,a,l,c,b,m,d,e,hk _ _ c0,hk _ _ c1,hk _ _ c2,h1.keeps hk⟩
section
variable {T:List Nd} {p:Int} {S:List Ch} {K4 G:Nat} {so:Option Addr} {ns cs:Nat} {ao:Option Addr} {na ca:Nat} {go:Option Addr} {W0 W W':World}
end
theorem QsO.keeps {w w':World} {B b:Nat} {v:Value} {qs:List Rat} (h:QsO w B v qs) (hg:w.grownBy w' (some b)) (hk:Keeps w w') (hne:v.ownBlock ≠ some b):QsO w' B v qs:=by
 obtain ⟨ts,h1,h2,h3,h4⟩:=h
 refine ⟨ts,own_kept h1 hg (.inl hne),fun g hgb => ?_,h3,fun i t q a b => (h4 i t q a b).keeps hk⟩
 obtain ⟨cur,e,fr,hb,hn⟩:=h2 g hgb
 refine ⟨cur,e,fr,?_,hn⟩
 rw [hg.block g (Array.getElem?_eq_some_iff.1 hb).1 (fun e => hne (by rw [hgb]; exact e))]
 exact hb
open Go
def stand (o:Oper):Oper:={ o with op:=.move (.const (.bool false)) }
set_option linter.unusedSimpArgs false
end Go.Proofs.YtcggohkbmhdohaaGreatDoor
