/- Small definitions of this claim: a slice value that reads as a list; a world that only grew; append and make on slices of the call's own. -/
import Derived.WalkKit
import Derived.WalkSpells
import Derived.WalkLawsBesides
import Derived.Lib.Hide
import Derived.Deep.Draws
import Derived.Laws.AppendOwnNone
namespace Go.Proofs.YtcggohkbmhdohaaGreatDoor
open Go.RowKit
def Ext (w w':World):Prop:=Below w.heap.size w w'
theorem Ext.refl (w:World):Ext w w:=Below.refl _ _
theorem Ext.trans {a b c:World} (h:Ext a b) (k:Ext b c):Ext a c:=Below.trans h (Below.mono k h.size)
theorem Ext.size {a b:World} (h:Ext a b):a.heap.size ≤ b.heap.size:=Below.size h
theorem Ext.drew {a b:World} (h:Ext a b):Ext a b.drew:=Below.drew h
theorem Ext.alloc {a b:World} (h:Ext a b) (o:Obj):Ext a (b.alloc o):=Below.alloc h h.size o
theorem Ext.of {a b:World} (h:Below a.heap.size a b):Ext a b:=h
theorem Ext.cell {w w':World} (h:Ext w w') {p:Addr} {v:Value} (hc:w.cell? p=some v):w'.cell? p=some v :=
 (Below.cell h (World.block_lt_of_cell? w p hc)).trans hc
theorem Ext.setCell {a w:World} (h:Ext a w) {p:Addr} (hp:a.heap.size ≤ p.block) (u:Value):Ext a (w.setCell p u):=Below.setCell h hp u
theorem Ext.drewN {a b:World} (h:Ext a b) (n:Nat):Ext a (b.drewN n):=⟨h.os,h.tape,h.output,h.size,h.block⟩
theorem Ext.grown {a w w':World} (h:Ext a w) {g:Nat} (hg:w.grownBy w' (some g)) (hb:a.heap.size ≤ g):Ext a w':=Below.grown h hg h.size (fun k e => by cases e; exact hb)
def Cells (w:World) (ao:Option Addr) (vs:List Value):Prop :=
 ∀ i v,vs[i]?=some v → ∃ b off,ao=some ⟨b,off,none⟩ ∧ w.cell? ⟨b,off + i,none⟩=some v
theorem Cells.ext {w w':World} {ao:Option Addr} {vs:List Value} (h:Cells w ao vs) (he:Ext w w'):Cells w' ao vs:=by
 intro i v hv
 obtain ⟨b,off,rfl,hc⟩:=h i v hv
 exact ⟨b,off,rfl,he.cell hc⟩
theorem Cells.nil (w:World) (ao:Option Addr):Cells w ao []:=by intro i v h; simp at h
def RowN (w:World) (v:Value) (n:Nat) (vs:List Value):Prop :=
 ∃ ao c,v=.slice ao n c ∧ ((ao=none → c=0) ∧ n ≤ c) ∧ n ≤ 17592186044416 ∧ (vs ≠ [] → ao ≠ none) ∧ Cells w ao vs
theorem RowN.ext {w w':World} {v:Value} {n:Nat} {vs:List Value} (h:RowN w v n vs) (he:Ext w w'):RowN w' v n vs:=by
 obtain ⟨ao,c,h1,h2,h3,h4,h5⟩:=h
 exact ⟨ao,c,h1,h2,h3,h4,h5.ext he⟩
def Row (w:World) (v:Value) (vs:List Value):Prop:=RowN w v vs.length vs
theorem Row.ext {w w':World} {v:Value} {vs:List Value} (h:Row w v vs) (he:Ext w w'):Row w' v vs:=RowN.ext h he
theorem Row.nil (w:World):Row w (.slice none 0 0) []:=⟨none,0,rfl,⟨fun _ => rfl,Nat.le_refl _⟩,by simp,fun h => absurd rfl h,Cells.nil _ _⟩
def RowOf {α:Type} (enc:α → Value) (w:World) (v:Value) (xs:List α):Prop:=Row w v (xs.map enc)
abbrev Ints (w:World) (v:Value) (xs:List Int):Prop:=RowOf (Value.int .i64) w v xs
abbrev Strs (w:World) (v:Value) (xs:List ByteArray):Prop:=RowOf Value.string w v xs
theorem RowOf.ext {α:Type} {enc:α → Value} {w w':World} {v:Value} {xs:List α} (h:RowOf enc w v xs) (he:Ext w w'):RowOf enc w' v xs:=Row.ext h he
def CellsOf {α:Type} (enc:α → Value) (w:World) (ao:Option Addr) (xs:List α):Prop:=Cells w ao (xs.map enc)
theorem CellsOf.ext {α:Type} {enc:α → Value} {w w':World} {ao:Option Addr} {xs:List α} (h:CellsOf enc w ao xs) (he:Ext w w'):CellsOf enc w' ao xs:=Cells.ext h he
theorem RowOf.open {α:Type} {enc:α → Value} {w:World} {v:Value} {xs:List α} (h:RowOf enc w v xs) :
 ∃ ao c,v=.slice ao xs.length c ∧ xs.length ≤ 17592186044416 ∧ CellsOf enc w ao xs:=by
 obtain ⟨ao,c,h1,_,h2,_,h3⟩:=h
 simp only [List.length_map] at h1 h2
 exact ⟨ao,c,h1,h2,h3⟩
theorem RowOf.open' {α:Type} {enc:α → Value} {w:World} {v:Value} {xs:List α} (h:RowOf enc w v xs) :
 ∃ ao c,v=.slice ao xs.length c ∧ xs.length ≤ 17592186044416 ∧ xs.length ≤ c ∧ (ao=none → c=0) ∧ CellsOf enc w ao xs:=by
 obtain ⟨ao,c,h1,h0,h2,_,h3⟩:=h
 simp only [List.length_map] at h1 h2 h0
 exact ⟨ao,c,h1,h2,h0.2,h0.1,h3⟩
theorem CellsOf.take {α:Type} {enc:α → Value} {w:World} {ao:Option Addr} {xs:List α} {c i:Nat} (h:CellsOf enc w ao xs) (h0:ao=none → c=0) (hc:xs.length ≤ c) (hl:xs.length ≤ 17592186044416) (hi:i ≤ xs.length) :
 RowOf enc w (.slice ao i c) (xs.take i):=by
 have hlen:((xs.take i).map enc).length=i:=by simp; omega
 refine ⟨ao,c,by rw [hlen],⟨h0,by rw [hlen]; omega⟩,by rw [hlen]; omega,fun hne => ?_,fun j u hu => ?_⟩
 · obtain ⟨x,l,e⟩:=List.exists_cons_of_ne_nil hne
   have:(xs.map enc)[0]?=some x:=by
    have h2:((xs.take i).map enc)[0]?=some x:=by rw [e]; rfl
    simp only [List.getElem?_map,List.getElem?_take,Option.map_eq_some_iff] at h2 ⊢
    obtain ⟨y,hy,rfl⟩:=h2
    split at hy
    · exact ⟨y,hy,rfl⟩
    · cases hy
   obtain ⟨b,off,e2,_⟩:=h 0 x this
   rw [e2]; exact fun e => by cases e
 · refine h j u ?_
   simp only [List.getElem?_map,List.getElem?_take,Option.map_eq_some_iff] at hu ⊢
   obtain ⟨y,hy,rfl⟩:=hu
   split at hy
   · exact ⟨y,hy,rfl⟩
   · cases hy
theorem CellsOf.at {α:Type} {enc:α → Value} {w:World} {ao:Option Addr} {xs:List α} (h:CellsOf enc w ao xs) {i:Nat} {x:α} (hx:Hid (xs[i]?=some x)) :
 ∃ b off,ao=some ⟨b,off,none⟩ ∧ w.cell? ⟨b,off + i,none⟩=some (enc x) :=
 h i (enc x) (by simp [hx.out])
theorem CellsOf.at' {α:Type} {enc:α → Value} {w:World} {b off:Nat} {xs:List α} (h:CellsOf enc w (some ⟨b,off,none⟩) xs) {i:Nat} {x:α} (hx:Hid (xs[i]?=some x)) :
 w.cell? ⟨b,off + i,none⟩=some (enc x):=by
 obtain ⟨b',off',h1,h2⟩:=h.at hx
 simp only [Option.some.injEq,Addr.mk.injEq,and_true] at h1
 obtain ⟨rfl,rfl⟩:=h1
 exact h2
theorem get_lt {α:Type} {xs:List α} {k:Nat} (h:k < xs.length):∃ x,Hid (xs[k]?=some x) ∧ Hid (xs.drop k=x :: xs.drop (k + 1)) ∧ Hid (xs.take (k + 1)=xs.take k ++ [x]) :=
 ⟨xs[k],List.getElem?_eq_getElem h,List.drop_eq_getElem_cons h,List.take_succ_eq_append_getElem h⟩
theorem get_ge {α:Type} {xs:List α} {k:Nat} (h:¬ k < xs.length):Hid (xs.drop k=[]) ∧ Hid (xs.take k=xs) :=
 ⟨List.drop_eq_nil_of_le (by omega),List.take_of_length_le (by omega)⟩
def RowX (r:Option Nat) (w:World) (v:Value) (vs:List Value):Prop:=Row w v vs ∧ (vs=[] ∨ v.ownBlock ≠ r)
theorem Row.kept {w w':World} {r:Option Nat} {v:Value} {vs:List Value} (h:Row w v vs) (hg:w.grownBy w' r) (hn:vs=[] ∨ v.ownBlock ≠ r):Row w' v vs:=by
 obtain ⟨ao,c,h1,h2,h3,h4,h5⟩:=h
 refine ⟨ao,c,h1,h2,h3,h4,fun i u hu => ?_⟩
 obtain ⟨b,off,rfl,hc⟩:=h5 i u hu
 refine ⟨b,off,rfl,?_⟩
 rcases hn with rfl | hn
 · simp at hu
 · exact hg.cell hc (by rw [h1] at hn; simpa [Value.ownBlock] using hn)
theorem Row.block_lt {w:World} {v:Value} {vs:List Value} (h:Row w v vs) (hne:vs ≠ []):∃ k,v.ownBlock=some k ∧ k < w.heap.size:=by
 obtain ⟨ao,c,h1,h2,h3,h4,h5⟩:=h
 obtain ⟨u,us,rfl⟩:=List.exists_cons_of_ne_nil hne
 obtain ⟨b,off,rfl,hc⟩:=h5 0 u (by simp)
 exact ⟨b,by rw [h1]; rfl,World.block_lt_of_cell? w _ hc⟩
theorem Row.away {w:World} {r:Option Nat} {v:Value} {vs:List Value} (h:Row w v vs) (hr:∀ k,r=some k → w.heap.size ≤ k):RowX r w v vs:=by
 refine ⟨h,?_⟩
 by_cases hne:vs=[]
 · exact .inl hne
 · obtain ⟨k,hk,hlt⟩:=h.block_lt hne
   exact .inr (fun e => by have:=hr k (e ▸ hk); omega)
structure EI (P:Program) (t e:TypeId) (z:Value) (sz bytes:Nat):Prop where
 und:P.underlying t=some (.slice e)
 info:∃ i,P.info? e=some i ∧ i.zero=some z ∧ i.size=sz ∧ i.bytes=bytes
 zc:z.cells.size=sz
 pos:0 < sz
structure Grew (w:World) (v:Value) (w':World) (v':Value):Prop where
 by':w.grownBy w' v.ownBlock
 blk:v'.ownBlock=v.ownBlock ∨ ∀ k,v'.ownBlock=some k → w.heap.size ≤ k
theorem Grew.row {w w':World} {v v':Value} (h:Grew w v w' v') {u:Value} {us:List Value} (hu:RowX v.ownBlock w u us):RowX v'.ownBlock w' u us:=by
 refine ⟨hu.1.kept h.by' hu.2,?_⟩
 rcases h.blk with e | hk
 · rw [e]; exact hu.2
 · exact (hu.1.away hk).2
theorem Grew.ext {w0 w w':World} {v v':Value} (h:Grew w v w' v') (he:Ext w0 w) (hb:∀ k,v.ownBlock=some k → w0.heap.size ≤ k):Ext w0 w' :=
 Below.grown he h.by' he.size hb
def Src (w:World) (u:Value) (m sz:Nat) (news:List Value):Prop :=
 ∃ ao c,u=.slice ao m c ∧ news.length=m * sz ∧ (∀ x ∈ news,x.oneCell'=true) ∧ (m ≠ 0 → ∃ b off,ao=some ⟨b,off,none⟩ ∧ ∀ j x,news[j]?=some x → w.cell? ⟨b,off + j,none⟩=some x)
theorem run_append_none {P:Program} {w:World} (t ty e:TypeId) (i:TypeInfo) (ht:P.underlying t=some (.slice e)) (hi:P.info? e=some i) (B size:Nat)
 (v:Value) (n c:Nat) (xs:List Value) (hown:w.ownsRow B e size v n xs) (ao:Option Addr) :
 (Builtin.append_ #[t,t] ty #[v,.slice ao 0 c]).run P w=.ok v w:=by
 rcases hown.2 with ⟨rfl,rfl⟩ | ⟨g,cap,cur,rfl,_,_,hnc,_⟩ <;> cases ao <;>
  simp [Builtin.append_,run_underlying ht,sizeOf,typeInfo,Builtin.lenOf,Builtin.firstCells, *,storeCells,loadCells,loadCellsFrom]
theorem run_app {P:Program} {w:World} {t ty e:TypeId} {z:Value} {sz bytes:Nat} (ei:EI P t e z sz bytes) {B:Nat} {v:Value} {n:Nat} {xs:List Value}
 (hown:w.ownsRow B e sz v n xs) {u:Value} {m:Nat} {news:List Value} (hsrc:Src w u m sz news) (hlen:n + m ≤ 17592186044416) (hby:(n + m) * bytes ≤ 140737488355328) (hB:B ≤ w.heap.size) :
 ∃ v' w',(Builtin.append_ #[t,t] ty #[v,u]).run P w=.ok v' w' ∧ w'.ownsRow B e sz v' (n + m) (xs ++ news) ∧ Grew w v w' v':=by
 obtain ⟨i,hi,hz,hs,hb⟩:=ei.info
 obtain ⟨ao,c,rfl,hl,h1,hc⟩:=hsrc
 by_cases hm:m=0
 · subst hm
   have:news=[]:=List.eq_nil_of_length_eq_zero (by simpa using hl)
   subst this
   exact ⟨v,w,run_append_none t ty e i ei.und hi B sz v n c xs hown ao,by simpa using hown,⟨⟨rfl,rfl,rfl,Nat.le_refl _,fun _ _ _ => rfl⟩,.inl rfl⟩⟩
 · obtain ⟨b,off,rfl,hcell⟩:=hc hm
   have hnews:∀ j x,news[j]?=some x → w.cell? ((⟨b,off,none⟩:Addr).add j)=some x:=by
    intro j x hx; rw [Addr.add_lit]; exact hcell j x hx
   have h63:n + m ≤ maxLen:=by unfold maxLen; omega
   obtain ⟨v',w',hr,h2,h3,_⟩:=run_append_own (P:=P) w B t ty e i z sz bytes ei.und hi hz hs hb ei.zc ei.pos v n xs hown ⟨b,off,none⟩ m c news hl hnews h1 h63 hby hB
   refine ⟨v',w',hr,h2,h3,?_⟩
   subst hs; subst hb
   rcases hown.2 with ⟨rfl,rfl⟩ | ⟨g,cap,cur,rfl,hbg,hg,hnc,hcm,hcs,htake⟩
   · have hr2:=run_append_nil (P:=P) w t ty e i z ei.und hi hz ⟨b,off,none⟩ m c news hl hnews (by omega) (by omega) (by simp only [Nat.zero_add] at hby; omega)
     rw [hr2] at hr
     simp only [Result.ok.injEq] at hr
     refine .inr ?_
     rw [← hr.1]
     intro k hk
     simp [Value.ownBlock] at hk
     omega
   · by_cases hroom:n + m ≤ cap
     · have hfit:n * i.size + news.length ≤ cur.size:=by rw [hl,hcs,← Nat.add_mul]; exact Nat.mul_le_mul_right _ hroom
       have hr2:=run_append_room (P:=P) w t ty e i ei.und hi g n cap cur hg ⟨b,off,none⟩ m c news hl hnews h1 hroom hfit
       rw [hr2] at hr
       simp only [Result.ok.injEq] at hr
       exact .inl (by rw [← hr.1]; rfl)
     · have holds:∀ j u,xs[j]?=some u → w.cell? ((⟨g,0,none⟩:Addr).add j)=some u:=hown.cells (g:=g) rfl
       have hr2:=run_append_grow (P:=P) w t ty e i z ei.und hi hz ⟨g,0,none⟩ n cap xs hown.1 holds ⟨b,off,none⟩ m c news hl hnews (by omega) (by omega) (growslice_fits (by omega) hby)
       rw [hr2] at hr
       simp only [Result.ok.injEq] at hr
       refine .inr ?_
       rw [← hr.1]
       intro k hk
       simp [Value.ownBlock] at hk
       omega
theorem own_ext {w w':World} {B:Nat} {e:TypeId} {sz:Nat} {v:Value} {n:Nat} {vs:List Value} (h:w.ownsRow B e sz v n vs) (he:Ext w w'):w'.ownsRow B e sz v n vs :=
 h.kept (row:=none) ⟨he.os,he.tape,he.output,he.size,fun k hk _ => he.block k hk⟩ (by cases v.ownBlock <;> simp)
theorem wp_app {P:Program} {rest:List Oper} {oa:Array Oper} {o:Oper} {a:Act} {Q:Exit → Act → World → Prop} {w:World} (hg:o.guard=none) {s x:Operand} {t e:TypeId} {z:Value} {sz bytes:Nat}
 (ho:o.op=.call { callee:=.builtin .append,args:=#[s,x],argTypes:=#[t,t] }) (ei:EI P t e z sz bytes) {B:Nat} {v:Value} {n:Nat} {xs:List Value} (hs:a.eval s=v)
 (hown:w.ownsRow B e sz v n xs) {u:Value} {m:Nat} {news:List Value} (hx:a.eval x=u) (hsrc:Src w u m sz news) (hlen:n + m ≤ 17592186044416) (hby:(n + m) * bytes ≤ 140737488355328) (hB:B ≤ w.heap.size)
 (h:∀ v' w',w'.ownsRow B e sz v' (n + m) (xs ++ news) → Grew w v w' v' → wpList P oa Q rest (a.put o.dst v') w'):wpList P oa Q (o :: rest) a w:=by
 refine wpList_plain hg fun K hK => ?_
 obtain ⟨v',w',hr,h2,h3⟩:=run_app (P:=P) (ty:=o.type) ei hown hsrc hlen hby hB
 unfold Oper.wp execOp
 simp only [ho,resolve,invoke,builtin,Sem.run_bind,Sem.run_pure,Result.andThen_ok,List.map_toArray,List.map_cons,List.map_nil,hs,hx,hr]
 exact hK _ _ (h v' w' h2 h3)
theorem Row.src {w:World} {v:Value} {vs:List Value} (h:Row w v vs) (h1:∀ x ∈ vs,x.oneCell'=true):Src w v vs.length 1 vs:=by
 obtain ⟨ao,c,e,_,_,h4,h5⟩:=h
 refine ⟨ao,c,e,by simp,h1,fun hm => ?_⟩
 obtain ⟨u,us,rfl⟩:=List.exists_cons_of_ne_nil (l:=vs) (by intro e; subst e; simp at hm)
 obtain ⟨b,off,rfl,_⟩:=h5 0 u (by simp)
 refine ⟨b,off,rfl,fun j x hx => ?_⟩
 obtain ⟨b',off',e',hc⟩:=h5 j x hx
 simp only [Option.some.injEq,Addr.mk.injEq,and_true] at e'
 obtain ⟨rfl,rfl⟩:=e'
 exact hc
theorem RowOf.src {α:Type} {enc:α → Value} {w:World} {v:Value} {xs:List α} (h:RowOf enc w v xs) (h1:∀ x,(enc x).oneCell'=true):Src w v xs.length 1 (xs.map enc):=by
 have:=Row.src h (fun x hx => by obtain ⟨y,_,rfl⟩:=List.mem_map.1 hx; exact h1 y)
 simpa using this
theorem src_new (w:World) (x:Value) (e:TypeId) (h1:x.oneCell'=true):Src (w.alloc (.cells #[x] e)) (.slice (some ⟨w.heap.size,0,none⟩) 1 1) 1 1 [x]:=by
 refine ⟨_,_,rfl,rfl,by simpa using h1,fun _ => ⟨_,_,rfl,fun j y hy => ?_⟩⟩
 match j,hy with
 | 0,hy => simp at hy; subst hy; simp [World.cell?_alloc_new]
theorem own_row {w:World} {B:Nat} {e:TypeId} {v:Value} {n:Nat} {vs:List Value} (h:w.ownsRow B e 1 v n vs) (hn:n ≤ 17592186044416):Row w v vs:=by
 have hl:vs.length=n:=by simpa using h.1
 subst hl
 rcases h.2 with ⟨rfl,h0⟩ | ⟨g,cap,cur,rfl,hb,hg,hc,_,hcs,ht⟩
 · have:vs=[]:=List.eq_nil_of_length_eq_zero h0
   subst this
   exact Row.nil w
 · refine ⟨_,_,rfl,⟨fun e => (by cases e),hc⟩,hn,fun _ e => (by cases e),fun i u hu => ⟨g,0,rfl,?_⟩⟩
   have:=h.cells (g:=g) rfl i u hu
   rwa [Addr.add_lit] at this
theorem own_rowOf {α:Type} {enc:α → Value} {w:World} {B:Nat} {e:TypeId} {v:Value} {n:Nat} {xs:List α} (h:w.ownsRow B e 1 v n (xs.map enc)) (hn:n ≤ 17592186044416):RowOf enc w v xs:=own_row h hn
theorem own_mono {w:World} {B B':Nat} {e:TypeId} {sz:Nat} {v:Value} {n:Nat} {vs:List Value} (h:w.ownsRow B e sz v n vs) (hB:B' ≤ B):w.ownsRow B' e sz v n vs:=by
 refine ⟨h.1,?_⟩
 rcases h.2 with h2 | ⟨g,cap,cur,r1,r2,r3⟩
 · exact .inl h2
 · exact .inr ⟨g,cap,cur,r1,by omega,r3⟩
theorem own_open {w:World} {B:Nat} {e:TypeId} {sz:Nat} {v:Value} {n:Nat} {vs:List Value} (h:w.ownsRow B e sz v n vs) (hn:0 < n) :
 ∃ g cap,v=.slice (some ⟨g,0,none⟩) n cap ∧ B ≤ g ∧ g < w.heap.size:=by
 rcases h.2 with ⟨_,h0⟩ | ⟨g,cap,cur,rfl,hb,hg,_⟩
 · omega
 · exact ⟨g,cap,rfl,hb,(Array.getElem?_eq_some_iff.1 hg).1⟩
theorem own_cell {w:World} {B:Nat} {e:TypeId} {g n cap:Nat} {vs:List Value} (h:w.ownsRow B e 1 (.slice (some ⟨g,0,none⟩) n cap) n vs) {j:Nat} {x:Value} (hx:Hid (vs[j]?=some x)) :
 w.cell? ⟨g,j,none⟩=some x:=by
 have hl:vs.length=n:=by simpa using h.1
 have hj:j < n:=by rw [← hl]; exact (List.getElem?_eq_some_iff.1 hx.out).1
 rw [h.cellAt j (by omega)]; exact hx.out
theorem own_empty (w:World) (e:TypeId):(w.alloc (.cells #[] e)).ownsRow w.heap.size e 1 (.slice (some ⟨w.heap.size,0,none⟩) 0 0) 0 [] :=
 World.ownsRow_lit w #[] 0 (Nat.le_refl _) (by unfold maxLen; omega) rfl
theorem Src.ext {w w':World} {u:Value} {m sz:Nat} {news:List Value} (h:Src w u m sz news) (he:Ext w w'):Src w' u m sz news:=by
 obtain ⟨ao,c,h1,h2,h3,h4⟩:=h
 refine ⟨ao,c,h1,h2,h3,fun hm => ?_⟩
 obtain ⟨b,off,e,hc⟩:=h4 hm
 exact ⟨b,off,e,fun j x hx => he.cell (hc j x hx)⟩
theorem Grew.extNew {w0 w w':World} {v v':Value} (h:Grew w v w' v') (he:Ext w0 w) {B:Nat} {e:TypeId} {sz n:Nat} {xs:List Value} (ho:w.ownsRow B e sz v n xs) (hB:w0.heap.size ≤ B):Ext w0 w' :=
 h.ext he (fun k hk => Nat.le_trans hB (ho.lt k hk).1)
theorem wp_app1 {P:Program} {rest:List Oper} {oa:Array Oper} {o:Oper} {a:Act} {Q:Exit → Act → World → Prop} {W:World} {y:Value} (hg:o.guard=none) {s x:Operand} {t e:TypeId} {z:Value} {bytes:Nat}
 (ho:o.op=.call { callee:=.builtin .append,args:=#[s,x],argTypes:=#[t,t] }) (ei:EI P t e z 1 bytes) {B:Nat} {v:Value} {n:Nat} {xs:List Value}
 (hown:W.ownsRow B e 1 v n xs) (hs:a.eval s=v) {k:Nat} (hx:a.eval x=.slice (some ⟨k,0,none⟩) 1 1) (hk:k=W.heap.size) (h1:y.oneCell'=true) (hlen:n + 1 ≤ 17592186044416) (hby:(n + 1) * bytes ≤ 140737488355328) (hB:B ≤ W.heap.size)
 (h:∀ v' w',w'.ownsRow B e 1 v' (n + 1) (xs ++ [y]) → Grew W v w' v' → wpList P oa Q rest (a.put o.dst v') w'):wpList P oa Q (o :: rest) a (W.alloc (.cells #[y] e)):=by
 subst hk
 refine wp_app hg ho ei hs (own_ext hown ((Ext.refl W).alloc _)) hx (src_new W y e h1) hlen hby (by simp; omega) fun v' w' h2 h3 => h v' w' h2 ⟨⟨h3.by'.os,h3.by'.tape,h3.by'.output,Nat.le_trans (by simp) h3.by'.size,fun k hk hn => ?_⟩,?_⟩
 · rw [h3.by'.block k (by simp; omega) hn]; exact Below.heap_alloc W _ k hk
 · rcases h3.blk with e | e
   · exact .inl e
   · exact .inr fun k hk => by have:=e k hk; simp at this; omega
theorem own_kept {w w':World} {r:Option Nat} {B:Nat} {e:TypeId} {sz:Nat} {v:Value} {n:Nat} {vs:List Value} (h:w.ownsRow B e sz v n vs) (hg:w.grownBy w' r) (hne:v.ownBlock ≠ r ∨ v.ownBlock=none):w'.ownsRow B e sz v n vs :=
 h.kept hg (hne.elim .inr .inl)
theorem RowX.ext {r:Option Nat} {w w':World} {v:Value} {vs:List Value} (h:RowX r w v vs) (he:Ext w w'):RowX r w' v vs:=⟨h.1.ext he,h.2⟩
def Fr (B:Nat) (v:Value) (vs:List Value):Prop:=vs=[] ∨ ∃ k,v.ownBlock=some k ∧ B ≤ k
theorem Fr.away {B:Nat} {v:Value} {vs:List Value} (h:Fr B v vs) {r:Option Nat} (hr:∀ k,r=some k → k < B):vs=[] ∨ v.ownBlock ≠ r:=by
 rcases h with h | ⟨k,h1,h2⟩
 · exact .inl h
 · exact .inr fun e => by have:=hr k (by rw [← e]; exact h1); omega
theorem Fr.mono {B B':Nat} {v:Value} {vs:List Value} (h:Fr B v vs) (hB:B' ≤ B):Fr B' v vs:=h.imp id fun ⟨k,h1,h2⟩ => ⟨k,h1,Nat.le_trans hB h2⟩
theorem Row.at {w:World} {ao:Option Addr} {n c:Nat} {vs:List Value} (h:Row w (.slice ao n c) vs) {j:Nat} {p:Value} (hp:Hid (vs[j]?=some p)):∃ b off,ao=some ⟨b,off,none⟩ ∧ w.cell? ⟨b,off + j,none⟩=some p:=by
 obtain ⟨ao',c',h1,_,_,_,h2⟩:=h
 simp only [Value.slice.injEq] at h1
 obtain ⟨rfl,_,_⟩:=h1
 exact h2 j p hp.out
theorem own_lit1 (w:World) (y:Value) (e:TypeId):(w.alloc (.cells #[y] e)).ownsRow w.heap.size e 1 (.slice (some ⟨w.heap.size,0,none⟩) 1 1) 1 [y] :=
 World.ownsRow_lit w #[y] 1 (Nat.le_refl _) (by unfold maxLen; omega) rfl
def Rows {α:Type} (enc:α → Value) (w:World) (v:Value) (xss:List (List α)):Prop :=
 ∃ us,Row w v us ∧ us.length=xss.length ∧ ∀ (i:Nat) (u:Value) (xs:List α),us[i]?=some u → xss[i]?=some xs → RowOf enc w u xs
theorem Rows.ext {α:Type} {enc:α → Value} {w w':World} {v:Value} {xss:List (List α)} (h:Rows enc w v xss) (he:Ext w w'):Rows enc w' v xss:=by
 obtain ⟨us,h1,h2,h3⟩:=h
 exact ⟨us,h1.ext he,h2,fun i u xs a b => (h3 i u xs a b).ext he⟩
theorem ret_int {k:IntKind} {a b:Int} (h:a=b):Ending.returned (.int k a)=.returned (.int k b):=by rw [h]
theorem ret_bool {a b:Bool} (h:a=b):Ending.returned (.bool a)=.returned (.bool b):=by rw [h]
end Go.Proofs.YtcggohkbmhdohaaGreatDoor
