/- texts merged: MtA MtB MtC MtD MtE RgA RgC RgD RgE RgF RgG RgH RgI RgJ RgK RgL RgM RgN -/
import Derived.Test.YtcggohkbmhdohaaGreatDoorRtJ
import Derived.Test.YtcggohkbmhdohaaGreatDoorRtGI
import Derived.Test.YtcggohkbmhdohaaGreatDoorInC
import Derived.Test.YtcggohkbmhdohaaGreatDoorSlB
import Derived.Test.YtcggohkbmhdohaaGreatDoorRatAL
import Derived.OwnWalk
import Derived.Test.YtcggohkbmhdohaaGreatDoorTwS
namespace Go.Proofs.YtcggohkbmhdohaaGreatDoor
open Go.RowKit
set_option linter.unusedVariables false
def QCells (w:World) (ao:Option Addr) (qs:List Rat):Prop:=∀ (i:Nat) (q:Rat),qs[i]?=some q → ∃ g s a l c b m d,ao=some ⟨g,0,none⟩ ∧
 w.cell? ⟨g,i * 3,none⟩=some (.bool s) ∧ w.cell? ⟨g,i * 3 + 1,none⟩=some (.slice a l c) ∧ w.cell? ⟨g,i * 3 + 2,none⟩=some (.slice b m d) ∧ QV w (.agg #[.bool s,.slice a l c,.slice b m d]) q
theorem QCells.ext {w w':World} {ao:Option Addr} {qs:List Rat} (h:QCells w ao qs) (hx:Ext w w'):QCells w' ao qs:=fun i q hq => by
 obtain ⟨g,s,a,l,c,b,m,d,e,c0,c1,c2,h1⟩:=h i q hq
 exact ⟨g,s,a,l,c,b,m,d,e,hx.cell c0,hx.cell c1,hx.cell c2,h1.ext hx⟩
theorem QV.parts {w:World} {t:TV} {q:Rat} (h:QV w t.v q):∃ s a l c b m d,t=(.bool s,.slice a l c,.slice b m d):=by
 obtain ⟨a1,a2,a3⟩:=t
 obtain ⟨s5,ao5,l5,c5,bo5,m5,c6,hv5,_,_,_⟩:=h.opn
 simp only [TV.v,Value.agg.injEq,Array.mk.injEq,List.cons.injEq,and_true] at hv5
 obtain ⟨rfl,rfl,rfl⟩:=hv5
 exact ⟨_,_,_,_,_,_,_,rfl⟩
theorem QsV.opn {w:World} {v:Value} {qs:List Rat} (h:QsV w v qs):∃ ao c,v=.slice ao qs.length c ∧ qs.length ≤ 17592186044416 ∧ QCells w ao qs:=by
 obtain ⟨ao,c,ts,h1,h2,h3,h4,h5⟩:=h
 refine ⟨ao,c,h1,h2,fun i q hq => ?_⟩
 have hi:=(List.getElem?_eq_some_iff.1 hq).1
 have ht:ts[i]?=some (ts[i]'(by omega)):=List.getElem?_eq_getElem (by omega)
 obtain ⟨b,e,c0,c1,c2⟩:=h4 i _ ht
 have hv:=h5 i _ q ht hq
 generalize ts[i]'(by omega)=t at *
 obtain ⟨s,a,l,c',b',m,d,rfl⟩:=hv.parts
 exact ⟨b,s,a,l,c',b',m,d,e,c0,c1,c2,hv⟩
theorem QsV.of {w:World} {ao:Option Addr} {c:Nat} {qs:List Rat} (hl:qs.length ≤ 17592186044416) (h:QCells w ao qs):QsV w (.slice ao qs.length c) qs:=by
 obtain ⟨ts,h1,h2⟩:=list_of (fun i (t:TV) => ∀ q,qs[i]?=some q → (∃ b,ao=some ⟨b,0,none⟩ ∧ w.cell? ⟨b,i * 3,none⟩=some t.1 ∧ w.cell? ⟨b,i * 3 + 1,none⟩=some t.2.1 ∧ w.cell? ⟨b,i * 3 + 2,none⟩=some t.2.2) ∧ QV w t.v q) qs.length (fun i hi => by
  obtain ⟨g,s,a,l,c,b,m,d,e,c0,c1,c2,hv⟩:=h i _ (List.getElem?_eq_getElem hi)
  refine ⟨(.bool s,.slice a l c,.slice b m d),fun q hq => ?_⟩
  rw [List.getElem?_eq_getElem hi] at hq
  cases hq
  exact ⟨⟨g,e,c0,c1,c2⟩,hv⟩)
 refine ⟨ao,c,ts,rfl,hl,h1,fun i t ht => ?_,fun i t q ht hq => (h2 i t ht q hq).2⟩
 have hi:=(List.getElem?_eq_some_iff.1 ht).1
 exact (h2 i t ht _ (List.getElem?_eq_getElem (show i < qs.length by omega))).1
def QsO (w:World) (B:Nat) (v:Value) (qs:List Rat):Prop:=∃ ts:List TV,w.ownsRow B 89 3 v qs.length (flatT ts) ∧ Clean w v ∧ ts.length=qs.length ∧ ∀ (i:Nat) t q,ts[i]?=some t → qs[i]?=some q → QV w t.v q
theorem QsO.nil (w:World) (B:Nat):QsO w B (.slice none 0 0) []:=⟨[],World.ownsRow_nil _ _ _ _,Clean.nil _,rfl,fun i t q h => by simp at h⟩
theorem QsO.ext {w w':World} {B:Nat} {v:Value} {qs:List Rat} (h:QsO w B v qs) (hx:Ext w w'):QsO w' B v qs:=by
 obtain ⟨ts,h1,h2,h3,h4⟩:=h
 exact ⟨ts,own_ext h1 hx,h2.ext hx,h3,fun i t q a b => (h4 i t q a b).ext hx⟩
theorem QsO.mono {w:World} {B C:Nat} {v:Value} {qs:List Rat} (h:QsO w B v qs) (hc:C ≤ B):QsO w C v qs:=by
 obtain ⟨ts,h1,h2,h3,h4⟩:=h
 exact ⟨ts,own_mono h1 hc,h2,h3,h4⟩
theorem QsO.toV {w:World} {B:Nat} {v:Value} {qs:List Rat} (h:QsO w B v qs) (hl:qs.length ≤ 17592186044416):QsV w v qs:=by
 obtain ⟨ts,h1,h2,h3,h4⟩:=h
 exact QsV.own h1 hl rfl h3 h4
theorem QsO.lt {w:World} {B:Nat} {v:Value} {qs:List Rat} (h:QsO w B v qs):∀ k,v.ownBlock=some k → B ≤ k ∧ k < w.heap.size:=by
 obtain ⟨ts,h1,h2,h3,h4⟩:=h
 exact fun k hk => h1.lt k hk
theorem QsO.clean {w:World} {B:Nat} {v:Value} {qs:List Rat} (h:QsO w B v qs):Clean w v:=by
 obtain ⟨ts,h1,h2,h3,h4⟩:=h
 exact h2
theorem Clean.keptC {w w':World} {v:Value} {ao:Option Addr} {qs:List Rat} (hc:Clean w v) (hg:w.grownBy w' v.ownBlock) (h:QCells w ao qs) (hne:∀ b,ao=some ⟨b,0,none⟩ → v.ownBlock ≠ some b):QCells w' ao qs:=fun i q hq => by
 obtain ⟨g,s,a,l,c,b,m,d,e,c0,c1,c2,h1⟩:=h i q hq
 have hn:=hne g e
 exact ⟨g,s,a,l,c,b,m,d,e,hg.cell c0 (fun e => hn e.symm),hg.cell c1 (fun e => hn e.symm),hg.cell c2 (fun e => hn e.symm),hc.keptQ hg h1⟩
theorem QsO.kept {w w':World} {B:Nat} {v u:Value} {qs:List Rat} (hc:Clean w v) (hg:w.grownBy w' v.ownBlock) (h:QsO w B u qs) (hne:u.ownBlock=none ∨ u.ownBlock ≠ v.ownBlock):QsO w' B u qs:=by
 obtain ⟨ts,h1,h2,h3,h4⟩:=h
 refine ⟨ts,own_kept h1 hg (hne.elim .inr .inl),fun g hgb => ?_,h3,fun i t q a b => hc.keptQ hg (h4 i t q a b)⟩
 obtain ⟨cur,e,fr,hb,hn⟩:=h2 g hgb
 refine ⟨cur,e,fr,?_,hn⟩
 rw [hg.block g (Array.getElem?_eq_some_iff.1 hb).1 (fun e => ?_)]
 · exact hb
 · rcases hne with h | h
   · rw [h] at hgb; cases hgb
   · exact h (by rw [hgb,e])
theorem wp_appQ {rest:List Oper} {oa:Array Oper} {o:Oper} {a:Act} {Q:Exit → Act → World → Prop} {W:World} {s:Bool} {xo yo:Option Addr} {xl xc yl yc:Nat} (hg:o.guard=none) {sl x:Operand}
 (ho:o.op=.call { callee:=.builtin .append,args:=#[sl,x],argTypes:=#[92,92] }) {B:Nat} {v:Value} {qs:List Rat} {q:Rat} (hO:QsO W B v qs) (hq:QV W (.agg #[.bool s,.slice xo xl xc,.slice yo yl yc]) q)
 (hs:a.eval sl=v) {k:Nat} (hx:a.eval x=.slice (some ⟨k,0,none⟩) 1 1) (hk:k=W.heap.size) (hlen:qs.length ≤ 1000000) (hB:B ≤ W.heap.size)
 (h:∀ v' w',QsO w' B v' (qs ++ [q]) → Grew W v w' v' → Clean W v → wpList Tryz.prog oa Q rest (a.put o.dst v') w'):wpList Tryz.prog oa Q (o :: rest) a (W.alloc (.cells #[.bool s,.slice xo xl xc,.slice yo yl yc] 89)):=by
 obtain ⟨ts,h1,h2,h3,h4⟩:=hO
 refine wp_app3 hg ho ei_q zc_q h1 h2 hs hx hk rfl rfl rfl (by intro y hy d; simp at hy; rcases hy with rfl | rfl | rfl <;> simp [encD]) (by omega) (by omega) hB ?_
 intro v' w' hown hgrew hclean
 refine h v' w' ⟨ts ++ [(.bool s,.slice xo xl xc,.slice yo yl yc)],?_,hclean,by simp [h3],fun i t q2 hi hq2 => ?_⟩ hgrew h2
 · rw [flatT_app,List.length_append]; exact hown
 · rcases Nat.lt_or_ge i qs.length with hlt | hge
   · rw [List.getElem?_append_left (by omega)] at hi hq2
     exact h2.keptQ hgrew.by' (h4 i t q2 hi hq2)
   · rw [List.getElem?_append_right (by omega)] at hi hq2
     have e1:i - ts.length=0:=by have:=(List.getElem?_eq_some_iff.1 hi).1; simp at this; omega
     have e2:i - qs.length=0:=by omega
     rw [e1] at hi
     rw [e2] at hq2
     simp only [List.getElem?_cons_zero,Option.some.injEq] at hi hq2
     subst hi
     subst hq2
     exact h2.keptQ hgrew.by' hq
theorem QsO.grew {w0 w w':World} {B:Nat} {v v':Value} {qs:List Rat} (h:QsO w B v qs) (hg:Grew w v w' v') (he:Ext w0 w) (hB:w0.heap.size ≤ B):Ext w0 w' :=
 hg.ext he (fun k hk => Nat.le_trans hB (h.lt k hk).1)
structure StI (w:World) (g i:Nat) (x y z:Value):Prop where
 f0:w.frozen? ⟨g,i * 3,none⟩=false
 c0:w.cell? ⟨g,i * 3,none⟩=some x
 f1:∀ a,(w.setCell ⟨g,i * 3,none⟩ a).frozen? ⟨g,i * 3 + 1,none⟩=false
 c1:∀ a,(w.setCell ⟨g,i * 3,none⟩ a).cell? ⟨g,i * 3 + 1,none⟩=some y
 f2:∀ a b,((w.setCell ⟨g,i * 3,none⟩ a).setCell ⟨g,i * 3 + 1,none⟩ b).frozen? ⟨g,i * 3 + 2,none⟩=false
 c2:∀ a b,((w.setCell ⟨g,i * 3,none⟩ a).setCell ⟨g,i * 3 + 1,none⟩ b).cell? ⟨g,i * 3 + 2,none⟩=some z
theorem flatT_set:∀ (ts:List TV) (i:Nat) (a b c:Value),i < ts.length → flatT (ts.set i (a,b,c))=(((flatT ts).set (i * 3) a).set (i * 3 + 1) b).set (i * 3 + 2) c
 | t :: ts,0,a,b,c,_ => rfl
 | t :: ts,i + 1,a,b,c,h => by
   have:=flatT_set ts i a b c (by simpa using h)
   have e:(i + 1) * 3=i * 3 + 3:=by omega
   rw [e,List.set_cons_succ,flatT,this]
   rfl
theorem QsO.stored {w:World} {B g n cap:Nat} {qs:List Rat} (h:QsO w B (.slice (some ⟨g,0,none⟩) n cap) qs) {i:Nat} (hi:i < qs.length):∃ x y z,StI w g i x y z ∧
 ∀ s a l c b m d q,QV w (.agg #[.bool s,.slice a l c,.slice b m d]) q → ∃ w',(((w.setCell ⟨g,i * 3,none⟩ (.bool s)).setCell ⟨g,i * 3 + 1,none⟩ (.slice a l c)).setCell ⟨g,i * 3 + 2,none⟩ (.slice b m d))=w' ∧ w.grownBy w' (some g) ∧ QsO w' B (.slice (some ⟨g,0,none⟩) n cap) (qs.set i q):=by
 obtain ⟨ts,h1,h2,h3,h4⟩:=h
 have hn:n=qs.length:=by
  rcases h1.2 with ⟨e,_⟩ | ⟨g2,cap2,cur,e,_⟩
  · simp at e
  · simp only [Value.slice.injEq] at e; exact e.2.1
 subst hn
 have s1:=fun a => h1.stored (i * 3) a
 have s2:=fun a b => (s1 a).1.stored (i * 3 + 1) b
 have s3:=fun a b c => (s2 a b).1.stored (i * 3 + 2) c
 have hti:ts[i]?=some (ts[i]'(by omega)):=List.getElem?_eq_getElem (by omega)
 obtain ⟨p0,p1,p2⟩:=flatT_get ts i _ hti
 have hfl:=flatT_len ts
 have cc:∀ {w1:World} {xs:List Value} (_:w1.ownsRow B 89 3 (.slice (some ⟨g,0,none⟩) qs.length cap) qs.length xs) {j:Nat} {u:Value},xs[j]?=some u → w1.cell? ⟨g,j,none⟩=some u:=by
  intro w1 xs hh j u hj
  have:=hh.cells (g:=g) rfl j u hj
  rwa [Addr.add_lit,Nat.zero_add] at this
 refine ⟨_,_,_,⟨h1.frozenAt (i * 3),cc h1 p0,fun a => (s1 a).1.frozenAt (i * 3 + 1),fun a => cc (s1 a).1 (by rw [List.getElem?_set_ne (by omega)]; exact p1),fun a b => (s2 a b).1.frozenAt (i * 3 + 2),fun a b => cc (s2 a b).1 (by rw [List.getElem?_set_ne (by omega),List.getElem?_set_ne (by omega)]; exact p2)⟩,?_⟩
 intro s a l c b m d q hq
 have hgr:=Lib.grownBy_trans (Lib.grownBy_trans (s1 (.bool s)).2 (s2 (.bool s) (.slice a l c)).2) (s3 (.bool s) (.slice a l c) (.slice b m d)).2
 have hrow:=(s3 (.bool s) (.slice a l c) (.slice b m d)).1
 refine ⟨_,rfl,hgr,ts.set i (.bool s,.slice a l c,.slice b m d),?_,?_,by simp [h3],fun j t q2 hj hq2 => ?_⟩
 · rw [flatT_set _ _ _ _ _ (by omega),List.length_set]; exact hrow
 · intro k hk
   simp only [Value.ownBlock,Option.some.injEq] at hk
   subst hk
   rcases hrow.2 with ⟨e,_⟩ | ⟨g2,cap2,cur,e,_,hgc,_,hcm,hcs,htk⟩
   · simp at e
   · simp only [Value.slice.injEq,Option.some.injEq,Addr.mk.injEq,and_true,true_and] at e
     obtain ⟨rfl,rfl⟩:=e
     refine ⟨cur,_,_,hgc,?_⟩
     obtain ⟨cur0,e0,fr0,hb0,hn0⟩:=h2 g rfl
     intro j d2 hj
     have hcell:(((w.setCell ⟨g,i * 3,none⟩ (.bool s)).setCell ⟨g,i * 3 + 1,none⟩ (.slice a l c)).setCell ⟨g,i * 3 + 2,none⟩ (.slice b m d)).cell? ⟨g,j,none⟩=some (encD d2):=by rw [cell_of_obj' hgc]; exact hj
     by_cases j2:j=i * 3 + 2
     · have:=cc hrow (j:=j) (u:=.slice b m d) (by rw [j2,List.getElem?_set_self (by rw [List.length_set,List.length_set]; omega)])
       rw [hcell] at this
       simp [encD] at this
     · by_cases j1:j=i * 3 + 1
       · have:=cc hrow (j:=j) (u:=.slice a l c) (by rw [List.getElem?_set_ne (by omega),j1,List.getElem?_set_self (by rw [List.length_set]; omega)])
         rw [hcell] at this
         simp [encD] at this
       · by_cases j0:j=i * 3
         · have:=cc hrow (j:=j) (u:=.bool s) (by rw [List.getElem?_set_ne (by omega),List.getElem?_set_ne (by omega),j0,List.getElem?_set_self (by omega)])
           rw [hcell] at this
           simp [encD] at this
         · have hold:w.cell? ⟨g,j,none⟩=some (encD d2):=by
            rw [← hcell]
            rw [World.cell?_setCell_other,World.cell?_setCell_other,World.cell?_setCell_other]
            all_goals (intro e; simp at e <;> omega)
           rw [cell_of_obj' hb0] at hold
           exact hn0 j d2 hold
 · by_cases hji:j=i
   · subst hji
     rw [List.getElem?_set_self (by omega)] at hj
     rw [List.getElem?_set_self hi] at hq2
     cases hj
     cases hq2
     exact h2.keptQ (v:=.slice (some ⟨g,0,none⟩) qs.length cap) hgr hq
   · rw [List.getElem?_set_ne (by omega)] at hj hq2
     exact h2.keptQ (v:=.slice (some ⟨g,0,none⟩) qs.length cap) hgr (h4 j t q2 hj hq2)
theorem info_qs:(Tryz.prog.info? 92).map (fun i => (i.zero,i.size,i.bytes))=some (some (.slice none 0 0),1,24):=by kernel_rfl
theorem ei_qs:EI Tryz.prog 125 92 (.slice none 0 0) 1 24:=⟨Tryz.underlying125,info_parts info_qs,by decide,by decide⟩
theorem zc_qs:∀ x ∈ (Value.slice none 0 0).cells.toList,∀ d:Nat,x ≠ encD d:=by
 intro x hx d
 simp [Value.cells] at hx
 subst hx
 simp [encD]
theorem wp_app1c {P:Program} {rest:List Oper} {oa:Array Oper} {o:Oper} {a:Act} {Q:Exit → Act → World → Prop} {W:World} {x1:Value} (hg:o.guard=none) {s x:Operand} {t e:TypeId} {z:Value} {bytes:Nat}
 (ho:o.op=.call { callee:=.builtin .append,args:=#[s,x],argTypes:=#[t,t] }) (ei:EI P t e z 1 bytes) (hzc:∀ x ∈ z.cells.toList,∀ d:Nat,x ≠ encD d) {B:Nat} {v:Value} {n:Nat} {xs:List Value}
 (hown:W.ownsRow B e 1 v n xs) (hcl:Clean W v) (hs:a.eval s=v) {k:Nat} (hx:a.eval x=.slice (some ⟨k,0,none⟩) 1 1) (hk:k=W.heap.size)
 (h1:x1.oneCell'=true) (hd:∀ d:Nat,x1 ≠ encD d) (hlen:n + 1 ≤ 17592186044416) (hby:(n + 1) * bytes ≤ 140737488355328) (hB:B ≤ W.heap.size)
 (h:∀ v' w',w'.ownsRow B e 1 v' (n + 1) (xs ++ [x1]) → Grew W v w' v' → Clean w' v' → wpList P oa Q rest (a.put o.dst v') w'):wpList P oa Q (o :: rest) a (W.alloc (.cells #[x1] e)):=by
 subst hk
 have hsrc:Src (W.alloc (.cells #[x1] e)) (.slice (some ⟨W.heap.size,0,none⟩) 1 1) 1 1 [x1]:=src_new W x1 e h1
 refine wpList_plain hg fun K hK => ?_
 have ho2:=own_ext hown ((Ext.refl W).alloc (.cells #[x1] e))
 obtain ⟨v',w',hr,g2,g3⟩:=run_app (P:=P) (ty:=o.type) ei ho2 hsrc hlen hby (by simp; omega)
 obtain ⟨i,i1,i2,i3,i4⟩:=ei.info
 subst i4
 have hcl2:Clean w' v':=append_clean (B:=B) ei.und i1 i2 (by rw [i3]; exact ei.zc) (by rw [i3]; omega) (by rw [i3]; exact ho2) (hcl.alloc _) hzc (m:=1) (by rw [i3]; rfl) (by omega) (a:=⟨W.heap.size,0,none⟩) (c:=1) (news:=[x1]) (by
  intro j u hu
  match j,hu with
  | 0,hy => simp at hy; subst hy; simp [Addr.add,World.cell?_alloc_new]) (by intro y hy; rw [List.mem_singleton] at hy; subst hy; exact h1) (by intro y hy; rw [List.mem_singleton] at hy; subst hy; exact hd) (by unfold maxLen; omega) hby hr
 unfold Oper.wp execOp
 simp only [ho,resolve,invoke,builtin,Sem.run_bind,Sem.run_pure,Result.andThen_ok,List.map_toArray,List.map_cons,List.map_nil,hs,hx,hr]
 refine hK _ _ (h v' w' g2 ⟨⟨g3.by'.os,g3.by'.tape,g3.by'.output,Nat.le_trans (by simp) g3.by'.size,fun k hk hn => ?_⟩,?_⟩ hcl2)
 · rw [g3.by'.block k (by simp; omega) hn]; exact Below.heap_alloc W _ k hk
 · rcases g3.blk with e | e
   · exact .inl e
   · exact .inr fun k hk => by have:=e k hk; simp at this; omega
def Away (w:World) (u v:Value):Prop:=∀ k,u.ownBlock=some k → k < w.heap.size ∧ v.ownBlock ≠ some k
theorem Away.ext {w w':World} {u v:Value} (h:Away w u v) (hx:Ext w w'):Away w' u v:=fun k hk => ⟨Nat.lt_of_lt_of_le (h k hk).1 hx.size,(h k hk).2⟩
theorem Away.grew {w w':World} {u v v':Value} (h:Away w u v) (hg:Grew w v w' v'):Away w' u v':=fun k hk => by
 obtain ⟨h1,h2⟩:=h k hk
 refine ⟨Nat.lt_of_lt_of_le h1 hg.by'.size,?_⟩
 rcases hg.blk with e | e
 · rw [e]; exact h2
 · intro e2
   have:=e k e2
   omega
theorem Away.ne {w:World} {u v:Value} (h:Away w u v):u.ownBlock=none ∨ u.ownBlock ≠ v.ownBlock:=by
 cases hu:u.ownBlock with
 | none => exact .inl rfl
 | some k => exact .inr fun e => (h k hu).2 e.symm
theorem RB_QB {k:Nat} {q:Rat} (h:RB k q) (hk:k ≤ 100000000):QB q:=⟨dig_le10 h.1 hk,dig_le10 h.2 hk⟩
theorem QCells.lt {w:World} {ao:Option Addr} {qs:List Rat} (h:QCells w ao qs):∀ b,ao=some ⟨b,0,none⟩ → qs ≠ [] → b < w.heap.size:=by
 intro b hb hn
 cases qs with
 | nil => exact absurd rfl hn
 | cons q t =>
   obtain ⟨g,s,a,l,c,b2,m,d,e,c0,c1,c2,h1⟩:=h 0 q rfl
   rw [hb] at e
   simp only [Option.some.injEq,Addr.mk.injEq,and_true] at e
   subst e
   exact World.block_lt_of_cell? w _ c0
theorem Clean.keptD {w w':World} {v:Value} {ao:Option Addr} {qs:List Rat} (hc:Clean w v) (hg:w.grownBy w' v.ownBlock) (h:QCells w ao qs) (hne:∀ b,ao=some ⟨b,0,none⟩ → qs ≠ [] → v.ownBlock ≠ some b):QCells w' ao qs:=by
 by_cases hn:qs=[]
 · subst hn; exact fun i q hq => by simp at hq
 · exact hc.keptC hg h fun b hb => hne b hb hn
structure Acc (w:World) (O:Nat) (s:Bool) (xo:Option Addr) (xl xc:Nat) (yo:Option Addr) (yl yc:Nat) (q:Rat):Prop where
 row:w.ownsRow O 89 3 (.slice (some ⟨O,0,none⟩) 1 1) 1 [.bool s,.slice xo xl xc,.slice yo yl yc]
 val:QV w (.agg #[.bool s,.slice xo xl xc,.slice yo yl yc]) q
theorem Acc.ext {w w':World} {O:Nat} {s:Bool} {xo yo:Option Addr} {xl xc yl yc:Nat} {q:Rat} (h:Acc w O s xo xl xc yo yl yc q) (hx:Ext w w'):Acc w' O s xo xl xc yo yl yc q:=⟨own_ext h.row hx,h.val.ext hx⟩
theorem Acc.new {w:World} {s:Bool} {xo yo:Option Addr} {xl xc yl yc:Nat} {q:Rat} (h:QV w (.agg #[.bool s,.slice xo xl xc,.slice yo yl yc]) q) {O:Nat} (hO:w.heap.size=O):Acc (w.alloc (.cells #[.bool s,.slice xo xl xc,.slice yo yl yc] 89)) O s xo xl xc yo yl yc q:=by
 subst hO
 exact ⟨World.ownsRow_lit (base:=w.heap.size) (e:=89) (size:=3) w #[.bool s,.slice xo xl xc,.slice yo yl yc] 1 (Nat.le_refl _) (by unfold maxLen; omega) (by simp),h.ext ((Ext.refl w).alloc _)⟩
theorem Acc.c0 {w:World} {O:Nat} {s:Bool} {xo yo:Option Addr} {xl xc yl yc:Nat} {q:Rat} (h:Acc w O s xo xl xc yo yl yc q):w.cell? ⟨O,0,none⟩=some (.bool s):=cell3 h.row (j:=0) rfl
theorem Acc.c1 {w:World} {O:Nat} {s:Bool} {xo yo:Option Addr} {xl xc yl yc:Nat} {q:Rat} (h:Acc w O s xo xl xc yo yl yc q):w.cell? ⟨O,1,none⟩=some (.slice xo xl xc):=cell3 h.row (j:=1) rfl
theorem Acc.c2 {w:World} {O:Nat} {s:Bool} {xo yo:Option Addr} {xl xc yl yc:Nat} {q:Rat} (h:Acc w O s xo xl xc yo yl yc q):w.cell? ⟨O,2,none⟩=some (.slice yo yl yc):=cell3 h.row (j:=2) rfl
theorem Acc.clean {w:World} {O:Nat} {s:Bool} {xo yo:Option Addr} {xl xc yl yc:Nat} {q:Rat} (h:Acc w O s xo xl xc yo yl yc q):Clean w (.slice (some ⟨O,0,none⟩) 1 1):=clean_full h.row (by intro y hy d; simp at hy; rcases hy with rfl | rfl | rfl <;> simp [encD])
theorem Acc.put {w:World} {O:Nat} {s:Bool} {xo yo:Option Addr} {xl xc yl yc:Nat} {q:Rat} (h:Acc w O s xo xl xc yo yl yc q) {s2:Bool} {xo2 yo2:Option Addr} {xl2 xc2 yl2 yc2:Nat} {r:Rat} (hr:QV w (.agg #[.bool s2,.slice xo2 xl2 xc2,.slice yo2 yl2 yc2]) r) :
 ∃ w7,(((w.setCell ⟨O,0,none⟩ (.bool s2)).setCell ⟨O,1,none⟩ (.slice xo2 xl2 xc2)).setCell ⟨O,2,none⟩ (.slice yo2 yl2 yc2))=w7 ∧ w.grownBy w7 (some O) ∧ Acc w7 O s2 xo2 xl2 xc2 yo2 yl2 yc2 r:=by
 have T:=st3 h.row
 have hgr:=T.by' (.bool s2) (.slice xo2 xl2 xc2) (.slice yo2 yl2 yc2)
 exact ⟨_,rfl,hgr,T.own _ _ _,h.clean.keptQ (v:=.slice (some ⟨O,0,none⟩) 1 1) hgr hr⟩
theorem ratOf_RBk {s:ByteArray} (k:Nat) (h:RatOk s) (hk:2000 ≤ k):RB k (ratOf s):=by
 obtain ⟨p1,p2⟩:=ratOf_parts h
 have hn:numB (numT s) < 10 ^ k:=Nat.lt_of_lt_of_le (decF_lt (natB_iff.1 h.n1).1) (Nat.pow_le_pow_right (by omega) (by rw [bsz]; exact Nat.le_trans h.n2 hk))
 refine ⟨by rw [p1,sg_abs]; exact hn,?_⟩
 rw [p2]
 unfold denN
 split
 · rename_i hd
   exact Nat.lt_of_lt_of_le (decF_lt (natB_iff.1 (h.d1 hd)).1) (Nat.pow_le_pow_right (by omega) (by rw [bsz]; exact Nat.le_trans (h.d2 hd) hk))
 · exact Nat.one_lt_pow (by omega) (by omega)
theorem ratOf_RB2k {s:ByteArray} (h:RatOk s):RB 2000 (ratOf s):=ratOf_RBk 2000 h (Nat.le_refl _)
theorem QsO.head {w:World} {B:Nat} {v:Value} {qs:List Rat} (h:QsO w B v qs) (hn:0 < qs.length):∃ g cap,v=.slice (some ⟨g,0,none⟩) qs.length cap ∧ B ≤ g ∧ g < w.heap.size:=by
 obtain ⟨ts,h1,h2,h3,h4⟩:=h
 rcases h1.2 with ⟨_,e⟩ | ⟨g,cap,cur,rfl,hb,hg,_⟩
 · omega
 · exact ⟨g,cap,rfl,hb,(Array.getElem?_eq_some_iff.1 hg).1⟩
theorem QsO.cells {w:World} {B g n cap:Nat} {qs:List Rat} (h:QsO w B (.slice (some ⟨g,0,none⟩) n cap) qs) (hl:qs.length ≤ 17592186044416):QCells w (some ⟨g,0,none⟩) qs:=by
 obtain ⟨ao,c,e,_,hc⟩:=(h.toV hl).opn
 simp only [Value.slice.injEq] at e
 rw [e.1]
 exact hc
theorem Acc.kept {w w':World} {O:Nat} {s:Bool} {xo:Option Addr} {xl xc:Nat} {yo:Option Addr} {yl yc:Nat} {q:Rat} {v:Value} {g:Nat} (h:Acc w O s xo xl xc yo yl yc q) (hc:Clean w v) (hv:v.ownBlock=some g) (hg:w.grownBy w' (some g)) (hne:O ≠ g):Acc w' O s xo xl xc yo yl yc q :=
 ⟨own_kept h.row hg (.inl (by simp [Value.ownBlock]; exact hne)),hc.keptQ (by rw [hv]; exact hg) h.val⟩
set_option maxHeartbeats 1600000 in
set_option maxRecDepth 100000 in
theorem ratInO_any (v:Value) (l:List ByteArray) (w:World) (hv:Strs w v l) (hok:∀ s ∈ l,RatOk s ∧ s.size ≤ 9223372036854775806) (hl:l.length ≤ 1000000) :
 Calls Tryz.prog 85 #[v] w fun e w' => ∃ u,e=.returned u ∧ QsO w' w.heap.size u (l.map ratOf) ∧ Ext w w':=by
 obtain ⟨wo,rfl⟩:∃ wo:World,wo=w:=⟨_,rfl⟩
 obtain ⟨ao,c,rfl,hlen,hc⟩:=hv.open
 have HC:=Lib.hid hc
 have HOK:=Lib.hid hok
 have HYL:Hid ((l.map ratOf).length=l.length):=List.length_map ..
 have HYG:Hid (∀ (i:Nat) s,l[i]?=some s → (l.map ratOf)[i]?=some (ratOf s)):=fun i s h => by rw [List.getElem?_map,h]; rfl
 generalize l.map ratOf=ys at *
 clear hc hok hv
 go_enter Tryz.func85,Tryz.ntmps85
 go_wp2_with fail
 go_loopw [3,8] (fun ov iv wr => ∃ (i:Nat),i ≤ l.length ∧ iv=.int .i64 i ∧ Hid (QsO wr wo.heap.size ov (ys.take i)) ∧ Ext wo wr) (fun _ iv _ => l.length - (intOf iv).toNat)
 case atStart => exact ⟨0,Nat.zero_le _,rfl,QsO.nil _ _,Ext.refl _⟩
 case round =>
  obtain ⟨i,hi,rfl,HO,X⟩:=hrel
  by_cases hlt:i < l.length
  · obtain ⟨s,d1,d2,d3⟩:=get_lt hlt
    obtain ⟨b,off,rfl,hc0⟩:=(HC.out.ext X).at d1
    have hcell:wr.cell? ⟨b,off + i,none⟩=some (.string s):=hc0
    have hki:(i:Int) < (l.length:Int):=by omega
    obtain ⟨ho1,ho2⟩:=HOK.out s (List.mem_of_getElem? d1.out)
    have HP:=Lib.hid (fun W => parse_any s W ho1 ho2)
    have HTJ:Hid (ys.take (i + 1)=ys.take i ++ [ratOf s]):=by
     show _=_
     obtain ⟨h2,h3⟩:=List.getElem?_eq_some_iff.1 (HYG.out i s d1.out)
     rw [List.take_succ_eq_append_getElem h2,h3]
    have HTL:Hid ((ys.take i).length ≤ 1000000):=by show _ ≤ _; rw [List.length_take]; omega
    generalize ys.take i=Y1 at *
    generalize ratOf s=q at *
    clear hc0 ho1 ho2 hlt
    go_wp2_with fail
    refine (HP.out _).mono ?_
    rintro e w4 ⟨u4,rfl,h4,X4⟩
    obtain ⟨s5,ao5,l5,c5,bo5,m5,c6,rfl,_,_,_⟩:=h4.opn
    have HO4:=HO.out.ext X4
    have XA:=X.trans X4
    have hsz:=XA.size
    clear HO
    go_wp2_with (at_builtin; refine wp_appQ (sl:=.tmp 12) (x:=.tmp 15) rfl rfl HO4 h4 rfl rfl rfl HTL.out hsz ?_; intro v' w' hown hgrew hclean)
    have HE:=Lib.hid (QsO.grew HO4 hgrew XA (Nat.le_refl _))
    rw [← HTJ.out] at hown
    have HOW:=Lib.hid hown
    go_roundw
    case rel => exact ⟨i + 1,by omega,by go_num,HOW,HE.out⟩
    case measure => simp [intOf] <;> omega
  · have hil:l.length=i:=by omega
    have hmm:ys.take i=ys:=by rw [← hil,← HYL.out]; exact List.take_length
    have HR0:=HO.out
    rw [hmm] at HR0
    have HR:=Lib.hid HR0
    clear hmm HO HR0
    go_wp2_with fail
    go_ret
    exact ⟨_,rfl,HR.out,X⟩
def QsG (w:World) (B:Nat) (v:Value) (qs:List (Option Rat)):Prop:=∃ ts:List TV,w.ownsRow B 89 3 v qs.length (flatT ts) ∧ Clean w v ∧ ts.length=qs.length ∧ ∀ (i:Nat) t q,ts[i]?=some t → qs[i]?=some (some q) → QV w t.v q
theorem QsG.ext {w w':World} {B:Nat} {v:Value} {qs:List (Option Rat)} (h:QsG w B v qs) (hx:Ext w w'):QsG w' B v qs:=by
 obtain ⟨ts,h1,h2,h3,h4⟩:=h
 exact ⟨ts,own_ext h1 hx,h2.ext hx,h3,fun i t q a b => (h4 i t q a b).ext hx⟩
theorem QsG.full {w:World} {B:Nat} {v:Value} {qs:List Rat} (h:QsG w B v (qs.map some)):QsO w B v qs:=by
 obtain ⟨ts,h1,h2,h3,h4⟩:=h
 rw [List.length_map] at h1 h3
 exact ⟨ts,h1,h2,h3,fun i t q a b => h4 i t q a (by rw [List.getElem?_map,b]; rfl)⟩
theorem QsG.clean {w:World} {B:Nat} {v:Value} {qs:List (Option Rat)} (h:QsG w B v qs):Clean w v:=by
 obtain ⟨ts,h1,h2,h3,h4⟩:=h
 exact h2
theorem QsG.kept {w w':World} {B:Nat} {v u:Value} {qs:List (Option Rat)} (hc:Clean w v) (hg:w.grownBy w' v.ownBlock) (h:QsG w B u qs) (hne:u.ownBlock=none ∨ u.ownBlock ≠ v.ownBlock):QsG w' B u qs:=by
 obtain ⟨ts,h1,h2,h3,h4⟩:=h
 refine ⟨ts,own_kept h1 hg (hne.elim .inr .inl),fun g hgb => ?_,h3,fun i t q a b => hc.keptQ hg (h4 i t q a b)⟩
 obtain ⟨cur,e,fr,hb,hn⟩:=h2 g hgb
 refine ⟨cur,e,fr,?_,hn⟩
 rw [hg.block g (Array.getElem?_eq_some_iff.1 hb).1 (fun e => ?_)]
 · exact hb
 · rcases hne with h | h
   · rw [h] at hgb; cases hgb
   · exact h (by rw [hgb,e])
theorem flatT_repl:∀ n,flatT (List.replicate n ((.bool false,.slice none 0 0,.slice none 0 0):TV))=(madeCells #[.bool false,.slice none 0 0,.slice none 0 0] (n * 3)).toList
 | n => by
   apply List.ext_getElem?
   intro i
   have hl:(flatT (List.replicate n ((.bool false,.slice none 0 0,.slice none 0 0):TV))).length=n * 3:=by rw [flatT_len,List.length_replicate]
   by_cases hi:i < n * 3
   · have hk:i / 3 < n:=by omega
     have ht:(List.replicate n ((.bool false,.slice none 0 0,.slice none 0 0):TV))[i / 3]?=some (.bool false,.slice none 0 0,.slice none 0 0):=by rw [List.getElem?_replicate,if_pos hk]
     obtain ⟨g0,g1,g2⟩:=flatT_get _ _ _ ht
     have hm:(madeCells #[.bool false,.slice none 0 0,.slice none 0 0] (n * 3)).toList[i]?=some (#[Value.bool false,.slice none 0 0,.slice none 0 0][i % 3]!):=by
      rw [List.getElem?_eq_getElem (by simp [madeCells]; exact hi)]
      simp [madeCells]
     rw [hm]
     rcases (show i % 3=0 ∨ i % 3=1 ∨ i % 3=2 by omega) with h | h | h
     · rw [show i=i / 3 * 3 by omega,g0]; rw [show i / 3 * 3 % 3=0 by omega]; rfl
     · rw [show i=i / 3 * 3 + 1 by omega]; rw [show (i / 3 * 3 + 1) % 3=1 by omega]; rw [g1]; rfl
     · rw [show i=i / 3 * 3 + 2 by omega]; rw [show (i / 3 * 3 + 2) % 3=2 by omega]; rw [g2]; rfl
   · rw [List.getElem?_eq_none (by rw [hl]; omega),List.getElem?_eq_none (by simp [madeCells]; omega)]
theorem QsG.made {w:World} {B g n:Nat} (h:w.ownsRow B 89 3 (.slice (some ⟨g,0,none⟩) n n) n (madeCells #[.bool false,.slice none 0 0,.slice none 0 0] (n * 3)).toList):QsG w B (.slice (some ⟨g,0,none⟩) n n) (List.replicate n none):=by
 rw [← flatT_repl] at h
 have hc:=clean_full h fun x hx d => by
  obtain ⟨i,hi⟩:=List.mem_iff_getElem?.1 hx
  have hl:=flatT_len (List.replicate n ((.bool false,.slice none 0 0,.slice none 0 0):TV))
  rw [List.length_replicate] at hl
  have hlt:=(List.getElem?_eq_some_iff.1 hi).1
  have ht:(List.replicate n ((.bool false,.slice none 0 0,.slice none 0 0):TV))[i / 3]?=some (.bool false,.slice none 0 0,.slice none 0 0):=by rw [List.getElem?_replicate,if_pos (by omega)]
  obtain ⟨g0,g1,g2⟩:=flatT_get _ _ _ ht
  rcases (show i % 3=0 ∨ i % 3=1 ∨ i % 3=2 by omega) with h | h | h
  · rw [show i=i / 3 * 3 by omega,g0] at hi; cases hi; simp [encD]
  · rw [show i=i / 3 * 3 + 1 by omega,g1] at hi; cases hi; simp [encD]
  · rw [show i=i / 3 * 3 + 2 by omega,g2] at hi; cases hi; simp [encD]
 refine ⟨_,by rw [List.length_replicate]; exact h,hc,by rw [List.length_replicate,List.length_replicate],fun i t q a b => ?_⟩
 rw [List.getElem?_replicate] at b
 split at b <;> simp at b
theorem QsG.stored {w:World} {B g n cap:Nat} {qs:List (Option Rat)} (h:QsG w B (.slice (some ⟨g,0,none⟩) n cap) qs) {i:Nat} (hi:i < qs.length):∃ x y z,StI w g i x y z ∧
 ∀ s a l c b m d q,QV w (.agg #[.bool s,.slice a l c,.slice b m d]) q → ∃ w',(((w.setCell ⟨g,i * 3,none⟩ (.bool s)).setCell ⟨g,i * 3 + 1,none⟩ (.slice a l c)).setCell ⟨g,i * 3 + 2,none⟩ (.slice b m d))=w' ∧ w.grownBy w' (some g) ∧ QsG w' B (.slice (some ⟨g,0,none⟩) n cap) (qs.set i (some q)):=by
 obtain ⟨ts,h1,h2,h3,h4⟩:=h
 have hn:n=qs.length:=by
  rcases h1.2 with ⟨e,_⟩ | ⟨g2,cap2,cur,e,_⟩
  · simp at e
  · simp only [Value.slice.injEq] at e; exact e.2.1
 subst hn
 have s1:=fun a => h1.stored (i * 3) a
 have s2:=fun a b => (s1 a).1.stored (i * 3 + 1) b
 have s3:=fun a b c => (s2 a b).1.stored (i * 3 + 2) c
 have hti:ts[i]?=some (ts[i]'(by omega)):=List.getElem?_eq_getElem (by omega)
 obtain ⟨p0,p1,p2⟩:=flatT_get ts i _ hti
 have hfl:=flatT_len ts
 have cc:∀ {w1:World} {xs:List Value} (_:w1.ownsRow B 89 3 (.slice (some ⟨g,0,none⟩) qs.length cap) qs.length xs) {j:Nat} {u:Value},xs[j]?=some u → w1.cell? ⟨g,j,none⟩=some u:=by
  intro w1 xs hh j u hj
  have:=hh.cells (g:=g) rfl j u hj
  rwa [Addr.add_lit,Nat.zero_add] at this
 refine ⟨_,_,_,⟨h1.frozenAt (i * 3),cc h1 p0,fun a => (s1 a).1.frozenAt (i * 3 + 1),fun a => cc (s1 a).1 (by rw [List.getElem?_set_ne (by omega)]; exact p1),fun a b => (s2 a b).1.frozenAt (i * 3 + 2),fun a b => cc (s2 a b).1 (by rw [List.getElem?_set_ne (by omega),List.getElem?_set_ne (by omega)]; exact p2)⟩,?_⟩
 intro s a l c b m d q hq
 have hgr:=Lib.grownBy_trans (Lib.grownBy_trans (s1 (.bool s)).2 (s2 (.bool s) (.slice a l c)).2) (s3 (.bool s) (.slice a l c) (.slice b m d)).2
 have hrow:=(s3 (.bool s) (.slice a l c) (.slice b m d)).1
 refine ⟨_,rfl,hgr,ts.set i (.bool s,.slice a l c,.slice b m d),?_,?_,by simp [h3],fun j t q2 hj hq2 => ?_⟩
 · rw [flatT_set _ _ _ _ _ (by omega),List.length_set]; exact hrow
 · intro k hk
   simp only [Value.ownBlock,Option.some.injEq] at hk
   subst hk
   rcases hrow.2 with ⟨e,_⟩ | ⟨g2,cap2,cur,e,_,hgc,_,hcm,hcs,htk⟩
   · simp at e
   · simp only [Value.slice.injEq,Option.some.injEq,Addr.mk.injEq,and_true,true_and] at e
     obtain ⟨rfl,rfl⟩:=e
     refine ⟨cur,_,_,hgc,?_⟩
     obtain ⟨cur0,e0,fr0,hb0,hn0⟩:=h2 g rfl
     intro j d2 hj
     have hcell:(((w.setCell ⟨g,i * 3,none⟩ (.bool s)).setCell ⟨g,i * 3 + 1,none⟩ (.slice a l c)).setCell ⟨g,i * 3 + 2,none⟩ (.slice b m d)).cell? ⟨g,j,none⟩=some (encD d2):=by rw [cell_of_obj' hgc]; exact hj
     by_cases j2:j=i * 3 + 2
     · have:=cc hrow (j:=j) (u:=.slice b m d) (by rw [j2,List.getElem?_set_self (by rw [List.length_set,List.length_set]; omega)])
       rw [hcell] at this
       simp [encD] at this
     · by_cases j1:j=i * 3 + 1
       · have:=cc hrow (j:=j) (u:=.slice a l c) (by rw [List.getElem?_set_ne (by omega),j1,List.getElem?_set_self (by rw [List.length_set]; omega)])
         rw [hcell] at this
         simp [encD] at this
       · by_cases j0:j=i * 3
         · have:=cc hrow (j:=j) (u:=.bool s) (by rw [List.getElem?_set_ne (by omega),List.getElem?_set_ne (by omega),j0,List.getElem?_set_self (by omega)])
           rw [hcell] at this
           simp [encD] at this
         · have hold:w.cell? ⟨g,j,none⟩=some (encD d2):=by
            rw [← hcell]
            rw [World.cell?_setCell_other,World.cell?_setCell_other,World.cell?_setCell_other]
            all_goals (intro e; simp at e <;> omega)
           rw [cell_of_obj' hb0] at hold
           exact hn0 j d2 hold
 · by_cases hji:j=i
   · subst hji
     rw [List.getElem?_set_self (by omega)] at hj
     rw [List.getElem?_set_self hi] at hq2
     cases hj
     cases hq2
     exact h2.keptQ (v:=.slice (some ⟨g,0,none⟩) qs.length cap) hgr hq
   · rw [List.getElem?_set_ne (by omega)] at hj hq2
     exact h2.keptQ (v:=.slice (some ⟨g,0,none⟩) qs.length cap) hgr (h4 j t q2 hj hq2)
@[go_sem] theorem eq_pair (a b c d:Int) (w:World):(Op.equalIn 10000 101 (.agg #[.int .i64 a,.int .i64 b]) (.agg #[.int .i64 c,.int .i64 d])).run Tryz.prog w=.ok (a == c && b == d) w:=by
  have u3:=Tryz.underlying3
  have a3:=Tryz.isAgg3
  have z3:=Tryz.sizeOf3
  rw [show (10000:Nat)=9999 + 1 from rfl,Op.equalIn]
  simp only [Sem.run_bind,run_underlying Tryz.underlying101,Result.andThen_ok]
  simp only [Std.Legacy.Range.forIn_eq_forIn_range',Std.Legacy.Range.size,Nat.sub_zero,Nat.add_sub_cancel,Nat.div_one,List.range'_succ,List.range'_zero,List.forIn_cons,List.forIn_nil]
  go_simp
  by_cases h1:a=c <;> by_cases h2:b=d <;> simp [h1,h2]
end Go.Proofs.YtcggohkbmhdohaaGreatDoor
