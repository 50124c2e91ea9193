/- arguments that are read: games as trees, strategies, mixtures -/
import Derived.Test.YtcggohkbmhdohaaGreatDoorInTP
import Derived.Test.YtcggohkbmhdohaaGreatDoorTrPl
namespace Go.Proofs.YtcggohkbmhdohaaGreatDoor
open Go.ChangeShapes Go.WideShapes Go.ChangeAt Go.RowKit Go.Deep
theorem cells_of {W:World} {ao:Option Addr} {vs:List Value} {k:Nat} {b off:Nat} (e:ao=some ⟨b,off,none⟩) (h:∀ (j:Nat) (u:Value),vs[j]?=some u → ∃ b off,ao=some ⟨b,off,none⟩ ∧ W.cell? ⟨b,off + k + j,none⟩=some u) (j:Nat) (u:Value) (hu:vs[j]?=some u):W.cell? ⟨b,off + k + j,none⟩=some u:=by
 obtain ⟨b',off',e',hc'⟩:=h j u hu
 rw [e] at e'
 simp only [Option.some.injEq,Addr.mk.injEq,and_true] at e'
 obtain ⟨rfl,rfl⟩:=e'
 exact hc'
set_option maxRecDepth 100000 in
theorem tree_in {H:Type} {enc:TypeId × Value → H} {W:World} {base:Nat} {v:Value} {d:DataW H} {p:List MemPlace} (hv:Value.okWide Tryz.prog W .any base 22 v)
 (h:DataW.Trod enc Tryz.prog W 0 (fun _ => true) true 22 v d p) (hs:Sized Tryz.prog 22 d):∃ T:List Nd,TreeIn W v T ∧ TreeSz T:=by
 obtain ⟨n,hn⟩:=trod_slice_arg Tryz.underlying22 hv h
 obtain ⟨ao,c,T,vss,rfl,h1,h2,h3,h4,h5⟩:=structs_in (B:=88) (Rel:=fun vs (x:Nd) => ∃ nv ov,vs=[.int .i64 x.kind,.int .i64 x.player,.int .i64 x.info,nv,ov,.string x.pay] ∧ Ints W nv x.next ∧ Strs W ov x.odds ∧ x.pay.size ≤ reachBytes ∧ ∀ s ∈ x.odds,s.size ≤ reachBytes)
  Tryz.underlying22 Tryz.underlying79 (by kernel_rfl) (by kernel_rfl) (by decide) (by kernel_rfl) (by omega) (fun n vs hl hf => by
   match vs,hl with
   | [v0,v1,v2,v3,v4,v5],_ =>
     obtain ⟨y0,t0,_⟩:=hf 0 _ v0 rfl rfl
     obtain ⟨y1,t1,_⟩:=hf 1 _ v1 rfl rfl
     obtain ⟨y2,t2,_⟩:=hf 2 _ v2 rfl rfl
     obtain ⟨y3,t3,z3⟩:=hf 3 _ v3 rfl rfl
     obtain ⟨y4,t4,z4⟩:=hf 4 _ v4 rfl rfl
     obtain ⟨y5,t5,z5⟩:=hf 5 _ v5 rfl rfl
     obtain ⟨x0,e0,_,_⟩:=DataW.trod_int Tryz.underlying3 t0
     obtain ⟨x1,e1,_,_⟩:=DataW.trod_int Tryz.underlying3 t1
     obtain ⟨x2,e2,_,_⟩:=DataW.trod_int Tryz.underlying3 t2
     obtain ⟨xs,i1,i2,_⟩:=ints_elem Tryz.underlying51 Tryz.underlying3 (by kernel_rfl) (by kernel_rfl) t3 z3
     obtain ⟨ss,s1,s2,s3⟩:=strs_elem Tryz.underlying32 Tryz.underlying28 (by kernel_rfl) (by kernel_rfl) t4 z4
     obtain ⟨s,e5,e6,_⟩:=DataW.trod_string Tryz.underlying28 t5
     rw [e6] at z5
     have z6:=Sized.string z5
     simp only [List.cons.injEq,and_true] at e0 e1 e2 e5
     subst e0; subst e1; subst e2; subst e5
     exact ⟨⟨x0,x1,x2,xs,ss,s⟩,v3,v4,rfl,i1,s1,by simpa using z6,s3⟩) hn hs
 have hat:∀ (i:Nat) (x:Nd),T[i]?=some x → ∃ vs,vss[i]?=some vs:=fun i x hc => ⟨vss[i]'(by have:=(List.getElem?_eq_some_iff.1 hc).1; omega),List.getElem?_eq_getElem (by have:=(List.getElem?_eq_some_iff.1 hc).1; omega)⟩
 refine ⟨T,⟨ao,c,rfl,h1,h2,by unfold reachBytes at h3; omega,fun i x hx => ?_⟩,fun x hx => ?_⟩
 · obtain ⟨vs,hvs⟩:=hat i x hx
   obtain ⟨⟨nv,ov,rfl,r1,r2,_,_⟩,_,hc⟩:=h5 i vs x hvs hx
   obtain ⟨b,off,e,c0⟩:=hc 0 _ rfl
   have g:=cells_of e hc
   exact ⟨b,off,nv,ov,e,g 0 _ rfl,g 1 _ rfl,g 2 _ rfl,g 3 _ rfl,g 4 _ rfl,g 5 _ rfl,r1,r2⟩
 · obtain ⟨i,hi,rfl⟩:=List.mem_iff_getElem.1 hx
   obtain ⟨vs,hvs⟩:=hat i _ (List.getElem?_eq_getElem hi)
   obtain ⟨⟨_,_,_,_,_,r3,r4⟩,_⟩:=h5 i vs _ hvs (List.getElem?_eq_getElem hi)
   unfold reachBytes at r3 r4
   exact ⟨by omega,fun s hs => by have:=r4 s hs; omega⟩
set_option maxRecDepth 100000 in
theorem str_in {H:Type} {enc:TypeId × Value → H} {W:World} {base:Nat} {v:Value} {d:DataW H} {p:List MemPlace} (hv:Value.okWide Tryz.prog W .any base 23 v)
 (h:DataW.Trod enc Tryz.prog W 0 (fun _ => true) true 23 v d p) (hs:Sized Tryz.prog 23 d):∃ S:List Ch,StrIn W v S ∧ StrSz S:=by
 obtain ⟨n,hn⟩:=trod_slice_arg Tryz.underlying23 hv h
 obtain ⟨ao,c,S,vss,rfl,h1,h2,h3,h4,h5⟩:=structs_in (B:=32) (Rel:=fun vs (x:Ch) => ∃ ov,vs=[.int .i64 x.1,ov] ∧ Strs W ov x.2 ∧ ∀ s ∈ x.2,s.size ≤ reachBytes)
  Tryz.underlying23 Tryz.underlying73 (by kernel_rfl) (by kernel_rfl) (by decide) (by kernel_rfl) (by omega) (fun n vs hl hf => by
   match vs,hl with
   | [v0,v1],_ =>
     obtain ⟨y0,t0,_⟩:=hf 0 _ v0 rfl rfl
     obtain ⟨y1,t1,z1⟩:=hf 1 _ v1 rfl rfl
     obtain ⟨x0,e0,_,_⟩:=DataW.trod_int Tryz.underlying3 t0
     obtain ⟨ss,s1,s2,s3⟩:=strs_elem Tryz.underlying32 Tryz.underlying28 (by kernel_rfl) (by kernel_rfl) t1 z1
     simp only [List.cons.injEq,and_true] at e0
     subst e0
     exact ⟨(x0,ss),v1,rfl,s1,s3⟩) hn hs
 have hat:∀ (i:Nat) (x:Ch),S[i]?=some x → ∃ vs,vss[i]?=some vs:=fun i x hc => ⟨vss[i]'(by have:=(List.getElem?_eq_some_iff.1 hc).1; omega),List.getElem?_eq_getElem (by have:=(List.getElem?_eq_some_iff.1 hc).1; omega)⟩
 refine ⟨S,⟨ao,c,rfl,h1,h2,by unfold reachBytes at h3; omega,fun i x hx => ?_⟩,fun x hx => ?_⟩
 · obtain ⟨vs,hvs⟩:=hat i x hx
   obtain ⟨⟨ov,rfl,r1,_⟩,_,hc⟩:=h5 i vs x hvs hx
   obtain ⟨b,off,e,c0⟩:=hc 0 _ rfl
   have g:=cells_of e hc
   exact ⟨b,off,ov,e,g 0 _ rfl,g 1 _ rfl,r1⟩
 · obtain ⟨i,hi,rfl⟩:=List.mem_iff_getElem.1 hx
   obtain ⟨vs,hvs⟩:=hat i _ (List.getElem?_eq_getElem hi)
   obtain ⟨⟨_,_,_,r4⟩,_⟩:=h5 i vs _ hvs (List.getElem?_eq_getElem hi)
   unfold reachBytes at r4
   exact fun s hs => by have:=r4 s hs; omega
set_option maxRecDepth 100000 in
theorem pln_in {H:Type} {enc:TypeId × Value → H} {W:World} {base:Nat} {v:Value} {d:DataW H} {p:List MemPlace} (hv:Value.okWide Tryz.prog W .any base 56 v)
 (h:DataW.Trod enc Tryz.prog W 0 (fun _ => true) true 56 v d p) (hs:Sized Tryz.prog 56 d):∃ L:List Pl,PlnIn W v L ∧ ∀ x ∈ L,x.2.size ≤ 9223372036854775806:=by
 obtain ⟨n,hn⟩:=trod_slice_arg Tryz.underlying56 hv h
 obtain ⟨ao,c,L,vss,rfl,h1,h2,h3,h4,h5⟩:=structs_in (B:=40) (Rel:=fun vs (x:Pl) => ∃ cv,vs=[cv,.string x.2] ∧ Ints W cv x.1 ∧ x.2.size ≤ reachBytes)
  Tryz.underlying56 Tryz.underlying62 (by kernel_rfl) (by kernel_rfl) (by decide) (by kernel_rfl) (by omega) (fun n vs hl hf => by
   match vs,hl with
   | [v0,v1],_ =>
     obtain ⟨y0,t0,z0⟩:=hf 0 _ v0 rfl rfl
     obtain ⟨y1,t1,z1⟩:=hf 1 _ v1 rfl rfl
     obtain ⟨xs,i1,i2,_⟩:=ints_elem Tryz.underlying51 Tryz.underlying3 (by kernel_rfl) (by kernel_rfl) t0 z0
     obtain ⟨s,e5,e6,_⟩:=DataW.trod_string Tryz.underlying28 t1
     rw [e6] at z1
     have z6:=Sized.string z1
     simp only [List.cons.injEq,and_true] at e5
     subst e5
     exact ⟨(xs,s),v0,rfl,i1,by simpa using z6⟩) hn hs
 have hat:∀ (i:Nat) (x:Pl),L[i]?=some x → ∃ vs,vss[i]?=some vs:=fun i x hc => ⟨vss[i]'(by have:=(List.getElem?_eq_some_iff.1 hc).1; omega),List.getElem?_eq_getElem (by have:=(List.getElem?_eq_some_iff.1 hc).1; omega)⟩
 refine ⟨L,⟨ao,c,rfl,h1,h2,by unfold reachBytes at h3; omega,fun i x hx => ?_⟩,fun x hx => ?_⟩
 · obtain ⟨vs,hvs⟩:=hat i x hx
   obtain ⟨⟨cv,rfl,r1,_⟩,_,hc⟩:=h5 i vs x hvs hx
   obtain ⟨b,off,e,c0⟩:=hc 0 _ rfl
   have g:=cells_of e hc
   exact ⟨b,off,cv,e,g 0 _ rfl,g 1 _ rfl,r1⟩
 · obtain ⟨i,hi,rfl⟩:=List.mem_iff_getElem.1 hx
   obtain ⟨vs,hvs⟩:=hat i _ (List.getElem?_eq_getElem hi)
   obtain ⟨⟨_,_,_,r4⟩,_⟩:=h5 i vs _ hvs (List.getElem?_eq_getElem hi)
   unfold reachBytes at r4
   omega
end Go.Proofs.YtcggohkbmhdohaaGreatDoor
