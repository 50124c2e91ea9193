/- texts merged: MpA Pr -/
import Derived.Test.YtcggohkbmhdohaaGreatDoorLibB
import Derived.Maps.OwnSet
import Derived.Maps.OwnOps
import Derived.Maps.Views
import Derived.Test.YtcggohkbmhdohaaGreatDoorSlB
import Derived.OwnWalk
namespace Go.Proofs.YtcggohkbmhdohaaGreatDoor
open Go.RowKit Go.Maps
set_option linter.unusedVariables false
def RH (v:Value):Option (DataW Value × List MemPlace):=some (.held v,[])
structure KeyE {ι:Type} (P:Program) (k:TypeId) (enc:ι → Value) (dom:ι → Prop):Prop where
 keyed:Keyed P k
 key:∀ i,dom i → ∃ kl,keyOf P k (enc i)=some kl
 inj:∀ i j,dom i → dom j → enc i=enc j → i=j
def MapG {ι:Type} (P:Program) (k:TypeId) (enc:ι → Value) (dom:ι → Prop) (w:World) (b n:Nat) (f:ι → Option Value):Prop :=
 ∃ D:DataW Value,w.ownsMap P k RH b n D ∧ ∀ i kl,dom i → keyOf P k (enc i)=some kl → (f i=none → Maps.has D kl=false) ∧ ∀ u,f i=some u → Maps.has D kl=true ∧ ∀ z,D.atKey kl z=.held u
section
set_option linter.unusedSectionVars false
variable {ι:Type} [DecidableEq ι] {P:Program} {k:TypeId} {enc:ι → Value} {dom:ι → Prop} {w w':World} {b n:Nat} {f:ι → Option Value}
theorem MapG.made (w:World):MapG P k enc dom (w.alloc (.map #[] 0)) w.heap.size 0 (fun _ => none) :=
 ⟨_,World.ownsMap_made _ _ _ _,fun i kl _ _ => ⟨fun _ => rfl,fun u h => by cases h⟩⟩
theorem MapG.lt (h:MapG P k enc dom w b n f):b < w.heap.size:=let ⟨_,h1,_⟩:=h; h1.lt
theorem MapG.mono (h:MapG P k enc dom w b n f) {m:Nat} (hm:n ≤ m):MapG P k enc dom w b m f:=let ⟨D,h1,h2⟩:=h; ⟨D,h1.mono hm,h2⟩
theorem MapG.kept {row:Option Nat} (h:MapG P k enc dom w b n f) (hg:w.grownBy w' row) (hne:some b ≠ row):MapG P k enc dom w' b n f:=let ⟨D,h1,h2⟩:=h; ⟨D,h1.kept hg hne,h2⟩
theorem MapG.ext (h:MapG P k enc dom w b n f) (hx:Ext w w'):MapG P k enc dom w' b n f :=
 h.kept (row:=none) ⟨hx.os,hx.tape,hx.output,hx.size,fun k hk _ => hx.block k hk⟩ (by simp)
theorem MapG.set (K:KeyE P k enc dom) (h:MapG P k enc dom w b n f) {t e:TypeId} (ht:P.underlying t=some (.map k e)) (hn:n < maxLen) {i:ι} (hi:dom i) (u:Value) :
 ∃ w',(Instr.mapUpdate t (.map (some b)) (enc i) u).run P w=.ok () w' ∧ MapG P k enc dom w' b (n + 1) (fun j => if j=i then some u else f j) ∧ w.grownBy w' (some b):=by
 obtain ⟨D,h1,h2⟩:=h
 obtain ⟨kl,hk⟩:=K.key i hi
 obtain ⟨w',r1,r2,r3⟩:=h1.update K.keyed ht hn hk (val:=u) (d:=.held u) (ps:=[]) rfl
 have hM:=h1.isMap
 have hL:=K.keyed.key hk
 refine ⟨w',r1,⟨_,r2,fun j kj hj hkj => ?_⟩,r3⟩
 by_cases e:j=i
 · subst e
   have e2:kj=kl:=Option.some.inj (hkj.symm.trans hk)
   subst e2
   dsimp only
   rw [if_pos rfl]
   refine ⟨fun h => (by cases h),fun v hv => ?_⟩
   obtain rfl:=Option.some.inj hv
   exact ⟨has_put_same hM hL _,fun z => atKey_put_same hM hL _ z⟩
 · have hne:kj ≠ kl:=fun e2 => e (K.inj _ _ hj hi (K.keyed.inj (e2 ▸ hkj) hk))
   dsimp only
   rw [if_neg e,has_put_other hne]
   obtain ⟨a1,a2⟩:=h2 j kj hj hkj
   exact ⟨a1,fun v hv => ⟨(a2 v hv).1,fun z => by rw [atKey_put_other hne]; exact (a2 v hv).2 z⟩⟩
theorem MapG.look (K:KeyE P k enc dom) (h:MapG P k enc dom w b n f) {t e:TypeId} (ht:P.underlying t=some (.map k e)) {z:Value} (hz:(zeroValue e).run P w=.ok z w) {i:ι} (hi:dom i) {o:Option Value} (ho:f i=o) :
 (Instr.lookup t (.map (some b)) (enc i) true).run P w=.ok (.tuple #[o.getD z,.bool o.isSome]) w:=by
 obtain ⟨D,h1,h2⟩:=h
 obtain ⟨kl,hk⟩:=K.key i hi
 obtain ⟨v,ps,r1,r2⟩:=h1.look_ok K.keyed ht hz (zd:=.held z) (zp:=[]) rfl hk
 obtain ⟨a1,a2⟩:=h2 i kl hi hk
 rw [r1]
 have e1:DataW.held v=D.atKey kl (.held z):=congrArg Prod.fst (Option.some.inj r2)
 cases o with
 | none =>
   have hh:=a1 ho
   rw [atKey_of_not_has hh] at e1
   rw [hh]
   cases e1
   rfl
 | some u =>
   obtain ⟨b1,b2⟩:=a2 u ho
   rw [b2] at e1
   rw [b1]
   cases e1
   rfl
theorem MapG.look1 (K:KeyE P k enc dom) (h:MapG P k enc dom w b n f) {t e:TypeId} (ht:P.underlying t=some (.map k e)) {z:Value} (hz:(zeroValue e).run P w=.ok z w) {i:ι} (hi:dom i) {o:Option Value} (ho:f i=o) :
 (Instr.lookup t (.map (some b)) (enc i) false).run P w=.ok (o.getD z) w:=by
 obtain ⟨D,h1,h2⟩:=h
 obtain ⟨kl,hk⟩:=K.key i hi
 obtain ⟨v,ps,r1,r2⟩:=h1.lookup K.keyed ht hz (zd:=.held z) (zp:=[]) rfl hk
 obtain ⟨a1,a2⟩:=h2 i kl hi hk
 rw [r1]
 have e1:DataW.held v=D.atKey kl (.held z):=congrArg Prod.fst (Option.some.inj r2)
 cases o with
 | none =>
   have hh:=a1 ho
   rw [atKey_of_not_has hh] at e1
   cases e1
   rfl
 | some u =>
   obtain ⟨b1,b2⟩:=a2 u ho
   rw [b2] at e1
   cases e1
   rfl
end
theorem wp_put {ι:Type} [DecidableEq ι] {P:Program} {k:TypeId} {enc:ι → Value} {dom:ι → Prop} {w:World} {b n:Nat} {f:ι → Option Value} {ops:Array Oper} {rest:List Oper} {o:Oper} {a:Act} {Q:Exit → Act → World → Prop}
 (hg:o.guard=none) {m x v:Operand} {t e:TypeId} (hop:o.op=Op.mapUpdate t m x v) (K:KeyE P k enc dom) (ht:P.underlying t=some (.map k e)) (hm:a.eval m=.map (some b)) (h:MapG P k enc dom w b n f) (hn:n < maxLen)
 {i:ι} (hx:a.eval x=enc i) (hi:dom i) {u:Value} (hv:a.eval v=u)
 (hK:∀ w',MapG P k enc dom w' b (n + 1) (fun j => if j=i then some u else f j) → w.grownBy w' (some b) → wpList P ops Q rest (a.put o.dst undef) w'):wpList P ops Q (o :: rest) a w:=by
 refine wpList_plain hg fun K' hK' => ?_
 obtain ⟨w',hrun,r1,r2⟩:=h.set K ht hn hi u
 unfold Oper.wp
 simp [execOp,hop,hm,hx,hv,hrun,Result.andThen]
 exact hK' _ _ (hK w' r1 r2)
theorem wp_look {ι:Type} [DecidableEq ι] {P:Program} {k:TypeId} {enc:ι → Value} {dom:ι → Prop} {w:World} {b n:Nat} {f:ι → Option Value} {ops:Array Oper} {rest:List Oper} {o:Oper} {a:Act} {Q:Exit → Act → World → Prop}
 (hg:o.guard=none) {m x:Operand} {t e:TypeId} (hop:o.op=Op.lookup t m x true) (K:KeyE P k enc dom) (ht:P.underlying t=some (.map k e)) {z:Value} (hz:(zeroValue e).run P w=.ok z w) (hm:a.eval m=.map (some b)) (h:MapG P k enc dom w b n f)
 {i:ι} (hx:a.eval x=enc i) (hi:dom i) {r:Option Value} (hr:f i=r)
 (hK:wpList P ops Q rest (a.put o.dst (.tuple #[r.getD z,.bool r.isSome])) w):wpList P ops Q (o :: rest) a w:=by
 refine wpList_plain hg fun K' hK' => ?_
 have hrun:=h.look K ht hz hi hr
 unfold Oper.wp
 simp [execOp,hop,hm,hx,hrun,Result.andThen]
 exact hK' _ _ hK
theorem keyE_int {P:Program} {k:TypeId} (hk:P.underlying k=some (.int .i64)):KeyE P k (Value.int .i64) (fun i:Int => (Lit.int .i64 i).wf=true) :=
 ⟨int_keyed hk,fun i hi => ⟨_,keyOf_int_mk hk hi⟩,fun i j _ _ e => by injection e⟩
open Go.RowKit
def flat2:List (Int × Int) → List Value
 | [] => []
 | p :: t => .int .i64 p.1 :: .int .i64 p.2 :: flat2 t
theorem flat2_len:∀ ps,(flat2 ps).length=ps.length * 2
 | [] => rfl
 | p :: t => by simp only [flat2,List.length_cons,flat2_len t]; omega
theorem flat2_app:∀ (ps qs:List (Int × Int)),flat2 (ps ++ qs)=flat2 ps ++ flat2 qs
 | [],qs => rfl
 | a :: t,qs => by simp only [List.cons_append,flat2,flat2_app t qs]
theorem flat2_get:∀ (ps:List (Int × Int)) (i:Nat) (p:Int × Int),ps[i]?=some p → (flat2 ps)[i * 2]?=some (.int .i64 p.1) ∧ (flat2 ps)[i * 2 + 1]?=some (.int .i64 p.2)
 | [],i,p,h => by simp at h
 | a :: t,0,p,h => by
   simp only [List.getElem?_cons_zero,Option.some.injEq] at h
   subst h
   exact ⟨rfl,rfl⟩
 | a :: t,i + 1,p,h => by
   have:=flat2_get t i p (by simpa using h)
   rw [show (i + 1) * 2=i * 2 + 2 by omega]
   exact this
theorem flat2_one:∀ ps,∀ x ∈ flat2 ps,x.oneCell'=true
 | [],x,h => by cases h
 | p :: t,x,h => by
   rw [flat2] at h
   rcases List.mem_cons.1 h with rfl | h
   · rfl
   · rcases List.mem_cons.1 h with rfl | h
     · rfl
     · exact flat2_one t x h
def P2Of (w:World) (ao:Option Addr) (ps:List (Int × Int)):Prop:=∀ (j:Nat) (u:Value),(flat2 ps)[j]?=some u → ∃ b off,ao=some ⟨b,off,none⟩ ∧ w.cell? ⟨b,off + j,none⟩=some u
def P2In (w:World) (v:Value) (ps:List (Int × Int)):Prop:=∃ ao c,v=.slice ao ps.length c ∧ ps.length ≤ c ∧ (ao=none → c=0) ∧ ps.length ≤ 17592186044416 ∧ P2Of w ao ps
theorem P2Of.ext {w w':World} {ao:Option Addr} {ps:List (Int × Int)} (h:P2Of w ao ps) (hx:Ext w w'):P2Of w' ao ps:=fun j u hu => by
 obtain ⟨b,off,e,hc⟩:=h j u hu
 exact ⟨b,off,e,hx.cell hc⟩
theorem P2In.ext {w w':World} {v:Value} {ps:List (Int × Int)} (h:P2In w v ps) (hx:Ext w w'):P2In w' v ps:=by
 obtain ⟨ao,c,h1,h2,h3,h4,h5⟩:=h
 exact ⟨ao,c,h1,h2,h3,h4,h5.ext hx⟩
theorem P2In.nil (w:World):P2In w (.slice none 0 0) []:=⟨none,0,rfl,Nat.le_refl _,fun _ => rfl,by simp,fun j u h => by simp [flat2] at h⟩
theorem P2In.open {w:World} {v:Value} {ps:List (Int × Int)} (h:P2In w v ps):∃ ao c,v=.slice ao ps.length c ∧ ps.length ≤ 17592186044416 ∧ P2Of w ao ps:=by
 obtain ⟨ao,c,h1,h2,h3,h4,h5⟩:=h
 exact ⟨ao,c,h1,h4,h5⟩
theorem P2Of.at {w:World} {ao:Option Addr} {ps:List (Int × Int)} (h:P2Of w ao ps) {i:Nat} {p:Int × Int} (hp:Hid (ps[i]?=some p)):∃ b off,ao=some ⟨b,off,none⟩ ∧ w.cell? ⟨b,off + i * 2,none⟩=some (.int .i64 p.1) ∧ w.cell? ⟨b,off + i * 2 + 1,none⟩=some (.int .i64 p.2):=by
 obtain ⟨g0,g1⟩:=flat2_get ps i p hp.out
 obtain ⟨b,off,e,c0⟩:=h _ _ g0
 obtain ⟨b',off',e',c1⟩:=h _ _ g1
 rw [e] at e'
 simp only [Option.some.injEq,Addr.mk.injEq,and_true] at e'
 obtain ⟨rfl,rfl⟩:=e'
 exact ⟨b,off,e,c0,c1⟩
theorem P2In.src {w:World} {v:Value} {ps:List (Int × Int)} (h:P2In w v ps):Src w v ps.length 2 (flat2 ps):=by
 obtain ⟨ao,c,e,_,_,_,h5⟩:=h
 refine ⟨ao,c,e,flat2_len ps,flat2_one ps,fun hm => ?_⟩
 obtain ⟨p,t,rfl⟩:=List.exists_cons_of_ne_nil (l:=ps) (by intro e; subst e; simp at hm)
 obtain ⟨b,off,rfl,_⟩:=h5 0 _ rfl
 refine ⟨b,off,rfl,fun j x hx => ?_⟩
 obtain ⟨b',off',e',hc⟩:=h5 j x hx
 simp only [Option.some.injEq,Addr.mk.injEq,and_true] at e'
 obtain ⟨rfl,rfl⟩:=e'
 exact hc
def P2O (w:World) (B:Nat) (v:Value) (ps:List (Int × Int)):Prop:=w.ownsRow B 101 2 v ps.length (flat2 ps)
theorem P2O.nil (w:World) (B:Nat):P2O w B (.slice none 0 0) []:=World.ownsRow_nil _ _ _ _
theorem P2O.ext {w w':World} {B:Nat} {v:Value} {ps:List (Int × Int)} (h:P2O w B v ps) (hx:Ext w w'):P2O w' B v ps:=own_ext h hx
theorem P2O.toIn {w:World} {B:Nat} {v:Value} {ps:List (Int × Int)} (h:P2O w B v ps) (hl:ps.length ≤ 17592186044416):P2In w v ps:=by
 rcases h.2 with ⟨rfl,h0⟩ | ⟨g,cap,cur,rfl,hb,hg,hc,_⟩
 · have:ps=[]:=List.eq_nil_of_length_eq_zero h0
   subst this
   exact P2In.nil w
 · refine ⟨_,_,rfl,hc,fun e => (by cases e),hl,fun j u hu => ⟨g,0,rfl,?_⟩⟩
   have:=h.cells (g:=g) rfl j u hu
   rwa [Addr.add_lit] at this
theorem info_p2:(Tryz.prog.info? 101).map (fun i => (i.zero,i.size,i.bytes))=some (some (.agg #[.int .i64 0,.int .i64 0]),2,16):=by kernel_rfl
theorem ei_p2:EI Tryz.prog 94 101 (.agg #[.int .i64 0,.int .i64 0]) 2 16:=⟨Tryz.underlying94,info_parts info_p2,by decide,by decide⟩
theorem src_new2 (w:World) (x y:Value) (e:TypeId) (h1:x.oneCell'=true) (h2:y.oneCell'=true):Src (w.alloc (.cells #[x,y] e)) (.slice (some ⟨w.heap.size,0,none⟩) 1 1) 1 2 [x,y]:=by
 refine ⟨_,_,rfl,rfl,?_,fun _ => ⟨_,_,rfl,fun j u hu => ?_⟩⟩
 · intro u hu
   rcases List.mem_cons.1 hu with rfl | hu
   · exact h1
   · rw [List.mem_singleton] at hu; subst hu; exact h2
 · match j,hu with
   | 0,hu => simp at hu; subst hu; simp [World.cell?_alloc_new]
   | 1,hu => simp at hu; subst hu; simp [World.cell?_alloc_new]
theorem wp_app2 {P:Program} {rest:List Oper} {oa:Array Oper} {o:Oper} {a:Act} {Q:Exit → Act → World → Prop} {W:World} {x1 x2:Value} (hg:o.guard=none) {s x:Operand} {t e:TypeId} {z:Value} {bytes:Nat}
 (ho:o.op=.call { callee:=.builtin .append,args:=#[s,x],argTypes:=#[t,t] }) (ei:EI P t e z 2 bytes) {B:Nat} {v:Value} {n:Nat} {xs:List Value}
 (hown:W.ownsRow B e 2 v n xs) (hs:a.eval s=v) {k:Nat} (hx:a.eval x=.slice (some ⟨k,0,none⟩) 1 1) (hk:k=W.heap.size) (h1:x1.oneCell'=true) (h2:x2.oneCell'=true) (hlen:n + 1 ≤ 17592186044416) (hby:(n + 1) * bytes ≤ 140737488355328) (hB:B ≤ W.heap.size)
 (h:∀ v' w',w'.ownsRow B e 2 v' (n + 1) (xs ++ [x1,x2]) → Grew W v w' v' → wpList P oa Q rest (a.put o.dst v') w'):wpList P oa Q (o :: rest) a (W.alloc (.cells #[x1,x2] e)):=by
 subst hk
 refine wp_app hg ho ei hs (own_ext hown ((Ext.refl W).alloc _)) hx (src_new2 W x1 x2 e h1 h2) hlen hby (by simp; omega) fun v' w' g2 g3 => h v' w' g2 ⟨⟨g3.by'.os,g3.by'.tape,g3.by'.output,Nat.le_trans (by simp) g3.by'.size,fun k hk hn => ?_⟩,?_⟩
 · rw [g3.by'.block k (by simp; omega) hn]; exact Below.heap_alloc W _ k hk
 · rcases g3.blk with e | e
   · exact .inl e
   · exact .inr fun k hk => by have:=e k hk; simp at this; omega
end Go.Proofs.YtcggohkbmhdohaaGreatDoor
