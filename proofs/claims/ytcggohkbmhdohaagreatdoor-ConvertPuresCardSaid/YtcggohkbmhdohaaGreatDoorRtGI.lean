/- texts merged: RatP RatQ RatR RatS RatT RatU RatV RatW RatX RatY -/
import Derived.Test.YtcggohkbmhdohaaGreatDoorRtDF
import Derived.Test.YtcggohkbmhdohaaGreatDoorRtB
namespace Go.Proofs.YtcggohkbmhdohaaGreatDoor
open Go.RowKit
set_option linter.unusedVariables false
def NoDig (cs:Array Value):Prop:=∀ (i d:Nat),cs[i]? ≠ some (encD d)
def Clean (w:World) (v:Value):Prop:=∀ g,v.ownBlock=some g → ∃ cur e fr,w.heap[g]?=some (.cells cur e fr) ∧ NoDig cur
theorem cell_of_obj' {w:World} {g:Nat} {cs:Array Value} {t:TypeId} {fr:Nat × Nat} (h:w.heap[g]?=some (.cells cs t fr)) (i:Nat):w.cell? ⟨g,i,none⟩=cs[i]?:=by
 simp [World.cell?,h]
theorem Clean.kept {w w':World} {v u:Value} {n:Nat} (hc:Clean w v) (hg:w.grownBy w' v.ownBlock) (h:NatV w u n):NatV w' u n:=by
 refine h.kept hg ?_
 obtain ⟨ao,c,rfl,_,hcs⟩:=h.open
 by_cases h0:dig n=[]
 · exact .inl (by rw [h0]; rfl)
 · refine .inr ?_
   intro e
   obtain ⟨d,t2,ht⟩:=List.exists_cons_of_ne_nil h0
   obtain ⟨b,off,rfl,hcell⟩:=hcs 0 (encD d) (by rw [ht]; rfl)
   obtain ⟨cur,ty,fr,hb,hn⟩:=hc b (by rw [← e]; rfl)
   rw [cell_of_obj' hb] at hcell
   exact hn _ _ hcell
theorem Clean.keptQ {w w':World} {v u:Value} {q:Rat} (hc:Clean w v) (hg:w.grownBy w' v.ownBlock) (h:QV w u q):QV w' u q:=by
 obtain ⟨s,ao,l,c,ao2,l2,c2,h1,⟨qq,ao',l',c',g1,g2,g3,g4⟩,h3,h4⟩:=h
 exact ⟨s,ao,l,c,ao2,l2,c2,h1,⟨qq,ao',l',c',g1,g2,g3,hc.kept hg g4⟩,h3,hc.kept hg h4⟩
theorem Clean.alloc {w:World} {v:Value} (h:Clean w v) (o:Obj):Clean (w.alloc o) v:=fun g hg => by
 obtain ⟨cur,e,fr,h1,h2⟩:=h g hg
 exact ⟨cur,e,fr,by rw [heap_alloc_old w o (Array.getElem?_eq_some_iff.1 h1).1]; exact h1,h2⟩
theorem Clean.ext {w w':World} {v:Value} (h:Clean w v) (hx:Ext w w'):Clean w' v:=fun g hg => by
 obtain ⟨cur,e,fr,h1,h2⟩:=h g hg
 exact ⟨cur,e,fr,by rw [hx.block g (Array.getElem?_eq_some_iff.1 h1).1]; exact h1,h2⟩
theorem Clean.nil (w:World):Clean w (.slice none 0 0):=fun g hg => by simp [Value.ownBlock] at hg
theorem noDig_list {l:List Value} (h:∀ x ∈ l,∀ d:Nat,x ≠ encD d):NoDig l.toArray:=fun i d e => by
 rw [List.getElem?_toArray] at e
 exact h _ (List.mem_of_getElem? e) d rfl
theorem NoDig.mem {cs:Array Value} (h:NoDig cs) {x:Value} (hx:x ∈ cs.toList) (d:Nat):x ≠ encD d:=by
 intro e
 obtain ⟨i,hi⟩:=List.mem_iff_getElem?.1 hx
 exact h i d (by rw [← Array.getElem?_toList,hi,e])
theorem append_clean {P:Program} {w:World} {t ty e:TypeId} {i:TypeInfo} {z:Value} (ht:P.underlying t=some (.slice e)) (hi:P.info? e=some i) (hz:i.zero=some z) (hzs:z.cells.size=i.size) (hsz:0 < i.size)
 {B:Nat} {v:Value} {n:Nat} {xs:List Value} (hown:w.ownsRow B e i.size v n xs) (hc:Clean w v) (hzc:∀ x ∈ z.cells.toList,∀ d:Nat,x ≠ encD d)
 {a:Addr} {m c:Nat} {news:List Value} (hl:news.length=m * i.size) (hm:0 < m) (hnews:∀ j u,news[j]?=some u → w.cell? (a.add j)=some u) (h1:∀ u ∈ news,u.oneCell'=true) (hnd:∀ x ∈ news,∀ d:Nat,x ≠ encD d)
 (h63:n + m ≤ maxLen) (hbytes:(n + m) * i.bytes ≤ 140737488355328) {v':Value} {w':World}
 (hr:(Builtin.append_ #[t,t] ty #[v,.slice (some a) m c]).run P w=.ok v' w'):Clean w' v':=by
 have hsmall:n + m ≤ 9223372036854775807:=by simp only [maxLen] at h63; omega
 have hzero:∀ k,∀ x ∈ (Builtin.zeroCells z.cells k).toList,∀ d:Nat,x ≠ encD d:=by
  intro k x hx d
  unfold Builtin.zeroCells at hx
  simp at hx
  obtain ⟨j,_,rfl⟩:=hx
  have hj:j % z.cells.size < z.cells.size:=Nat.mod_lt _ (by omega)
  rw [getElem!_pos z.cells _ hj]
  exact hzc _ (by rw [← Array.mem_def]; exact Array.getElem_mem hj) d
 have happ:∀ (l:List Value) (k:Nat),(∀ x ∈ l,∀ d:Nat,x ≠ encD d) → NoDig (l.toArray ++ Builtin.zeroCells z.cells k):=by
  intro l k hl2 j d e2
  rw [← Array.getElem?_toList,Array.toList_append] at e2
  rcases List.mem_append.1 (List.mem_of_getElem? e2) with h | h
  · exact hl2 _ (by simpa using h) d rfl
  · exact hzero k _ h d rfl
 rcases hown.2 with ⟨rfl,rfl⟩ | ⟨g,cap,cur,rfl,hbg,hg,hnc,hcm,hcs,htake⟩
 · have h2:=run_append_nil (P:=P) w t ty e i z ht hi hz a m c news hl hnews hm (by omega) (by have hb:=hbytes; simp only [Nat.zero_add] at hb; omega)
   rw [hr] at h2
   simp only [Result.ok.injEq] at h2
   obtain ⟨rfl,rfl⟩:=h2
   intro g hg
   simp only [Value.ownBlock,Option.some.injEq] at hg
   subst hg
   exact ⟨_,_,_,heap_alloc_new w.drew _,happ _ _ hnd⟩
 · obtain ⟨cur2,e2,fr2,hb2,hn2⟩:=hc g rfl
   rw [hg] at hb2
   simp only [Option.some.injEq,Obj.cells.injEq] at hb2
   obtain ⟨rfl,rfl,rfl⟩:=hb2
   have hxs:∀ x ∈ xs,∀ d:Nat,x ≠ encD d:=fun x hx d => hn2.mem (List.mem_of_mem_take (by rw [htake]; exact hx)) d
   by_cases hroom:n + m ≤ cap
   · have hfit:n * i.size + news.length ≤ cur.size:=by rw [hl,hcs,← Nat.add_mul]; exact Nat.mul_le_mul_right _ hroom
     have h2:=run_append_room (P:=P) w t ty e i ht hi g n cap cur hg a m c news hl hnews h1 hroom hfit
     rw [hr] at h2
     simp only [Result.ok.injEq] at h2
     obtain ⟨rfl,rfl⟩:=h2
     intro g' hg'
     simp only [Value.ownBlock,Option.some.injEq] at hg'
     subst hg'
     refine ⟨_,e,_,setRow_heap w g cur _ e _ hg,noDig_list ?_⟩
     intro x hx
     rcases List.mem_append.1 hx with hx | hx
     · rcases List.mem_append.1 hx with hx | hx
       · exact hn2.mem (List.mem_of_mem_take hx)
       · exact hnd x hx
     · exact hn2.mem (List.mem_of_mem_drop hx)
   · have holds:∀ j u,xs[j]?=some u → w.cell? ((⟨g,0,none⟩:Addr).add j)=some u:=hown.cells (g:=g) rfl
     have h2:=run_append_grow (P:=P) w t ty e i z ht hi hz ⟨g,0,none⟩ n cap xs hown.1 holds a m c news hl hnews (by omega) (by omega) (growslice_fits (by omega) hbytes)
     rw [hr] at h2
     simp only [Result.ok.injEq] at h2
     obtain ⟨rfl,rfl⟩:=h2
     intro g' hg'
     simp only [Value.ownBlock,Option.some.injEq] at hg'
     subst hg'
     refine ⟨_,_,_,heap_alloc_new w.drew _,?_⟩
     have:=happ (xs ++ news) (grownCap w (n + m) cap e - (n + m)) (fun x hx => (List.mem_append.1 hx).elim (hxs x) (hnd x))
     simpa using this
theorem wp_app3 {P:Program} {rest:List Oper} {oa:Array Oper} {o:Oper} {a:Act} {Q:Exit → Act → World → Prop} {W:World} {x1 x2 x3:Value} (hg:o.guard=none) {s x:Operand} {t e:TypeId} {z:Value} {bytes:Nat}
 (ho:o.op=.call { callee:=.builtin .append,args:=#[s,x],argTypes:=#[t,t] }) (ei:EI P t e z 3 bytes) (hzc:∀ x ∈ z.cells.toList,∀ d:Nat,x ≠ encD d) {B:Nat} {v:Value} {n:Nat} {xs:List Value}
 (hown:W.ownsRow B e 3 v n xs) (hcl:Clean W v) (hs:a.eval s=v) {k:Nat} (hx:a.eval x=.slice (some ⟨k,0,none⟩) 1 1) (hk:k=W.heap.size)
 (h1:x1.oneCell'=true) (h2:x2.oneCell'=true) (h3:x3.oneCell'=true) (hd:∀ y ∈ [x1,x2,x3],∀ d:Nat,y ≠ encD d) (hlen:n + 1 ≤ 17592186044416) (hby:(n + 1) * bytes ≤ 140737488355328) (hB:B ≤ W.heap.size)
 (h:∀ v' w',w'.ownsRow B e 3 v' (n + 1) (xs ++ [x1,x2,x3]) → Grew W v w' v' → Clean w' v' → wpList P oa Q rest (a.put o.dst v') w'):wpList P oa Q (o :: rest) a (W.alloc (.cells #[x1,x2,x3] e)):=by
 subst hk
 have hsrc:Src (W.alloc (.cells #[x1,x2,x3] e)) (.slice (some ⟨W.heap.size,0,none⟩) 1 1) 1 3 [x1,x2,x3]:=by
  refine ⟨_,_,rfl,rfl,?_,fun _ => ⟨_,_,rfl,fun j y hy => ?_⟩⟩
  · intro y hy
    rcases List.mem_cons.1 hy with rfl | hy
    · exact h1
    · rcases List.mem_cons.1 hy with rfl | hy
      · exact h2
      · rw [List.mem_singleton] at hy; subst hy; exact h3
  · match j,hy with
    | 0,hy => simp at hy; subst hy; simp [World.cell?_alloc_new]
    | 1,hy => simp at hy; subst hy; simp [World.cell?_alloc_new]
    | 2,hy => simp at hy; subst hy; simp [World.cell?_alloc_new]
 refine wpList_plain hg fun K hK => ?_
 have ho2:=own_ext hown ((Ext.refl W).alloc (.cells #[x1,x2,x3] e))
 obtain ⟨v',w',hr,g2,g3⟩:=run_app (P:=P) (ty:=o.type) ei ho2 hsrc hlen hby (by simp; omega)
 obtain ⟨i,i1,i2,i3,i4⟩:=ei.info
 subst i4
 obtain ⟨ao,c,e1,e2,e3,e4⟩:=hsrc
 have hcl2:Clean w' v':=append_clean (B:=B) ei.und i1 i2 (by rw [i3]; exact ei.zc) (by rw [i3]; omega) (by rw [i3]; exact ho2) (hcl.alloc _) hzc (m:=1) (by rw [i3]; rfl) (by omega) (a:=⟨W.heap.size,0,none⟩) (c:=1) (news:=[x1,x2,x3]) (by
  intro j u hu
  match j,hu with
  | 0,hy => simp at hy; subst hy; simp [Addr.add,World.cell?_alloc_new]
  | 1,hy => simp at hy; subst hy; simp [Addr.add,World.cell?_alloc_new]
  | 2,hy => simp at hy; subst hy; simp [Addr.add,World.cell?_alloc_new]) e3 hd (by unfold maxLen; omega) hby hr
 unfold Oper.wp execOp
 simp only [ho,resolve,invoke,builtin,Sem.run_bind,Sem.run_pure,Result.andThen_ok,List.map_toArray,List.map_cons,List.map_nil,hs,hx,hr]
 refine hK _ _ (h v' w' g2 ⟨⟨g3.by'.os,g3.by'.tape,g3.by'.output,Nat.le_trans (by simp) g3.by'.size,fun k hk hn => ?_⟩,?_⟩ hcl2)
 · rw [g3.by'.block k (by simp; omega) hn]; exact Below.heap_alloc W _ k hk
 · rcases g3.blk with e | e
   · exact .inl e
   · exact .inr fun k hk => by have:=e k hk; simp at this; omega
theorem info_q:(Tryz.prog.info? 89).map (fun i => (i.zero,i.size,i.bytes))=some (some (.agg #[.bool false,.slice none 0 0,.slice none 0 0]),3,56):=by kernel_rfl
theorem ei_q:EI Tryz.prog 92 89 (.agg #[.bool false,.slice none 0 0,.slice none 0 0]) 3 56:=⟨Tryz.underlying92,info_parts info_q,by decide,by decide⟩
theorem zc_q:∀ x ∈ (Value.agg #[.bool false,.slice none 0 0,.slice none 0 0]).cells.toList,∀ d:Nat,x ≠ encD d:=by
 intro x hx d
 simp [Value.cells] at hx
 rcases hx with rfl | rfl <;> simp [encD]
abbrev TV:=Value × Value × Value
def TV.v (t:TV):Value:=.agg #[t.1,t.2.1,t.2.2]
def flatT:List TV → List Value
 | [] => []
 | t :: ts => t.1 :: t.2.1 :: t.2.2 :: flatT ts
theorem flatT_len:∀ ts:List TV,(flatT ts).length=ts.length * 3
 | [] => rfl
 | t :: ts => by simp only [flatT,List.length_cons,flatT_len ts]; omega
theorem flatT_app:∀ (ts:List TV) (t:TV),flatT (ts ++ [t])=flatT ts ++ [t.1,t.2.1,t.2.2]
 | [],t => rfl
 | a :: ts,t => by simp only [List.cons_append,flatT,flatT_app ts t]
theorem flatT_get:∀ (ts:List TV) (i:Nat) (t:TV),ts[i]?=some t → (flatT ts)[i * 3]?=some t.1 ∧ (flatT ts)[i * 3 + 1]?=some t.2.1 ∧ (flatT ts)[i * 3 + 2]?=some t.2.2
 | [],i,t,h => by simp at h
 | a :: ts,0,t,h => by
   simp only [List.getElem?_cons_zero,Option.some.injEq] at h
   subst h
   exact ⟨rfl,rfl,rfl⟩
 | a :: ts,i + 1,t,h => by
   have:=flatT_get ts i t (by simpa using h)
   have e:(i + 1) * 3=i * 3 + 3:=by omega
   rw [e]
   exact this
def QsV (w:World) (v:Value) (qs:List Rat):Prop:=∃ (ao:Option Addr) (c:Nat) (ts:List TV),v=.slice ao qs.length c ∧ qs.length ≤ 17592186044416 ∧ ts.length=qs.length ∧
 (∀ i t,ts[i]?=some t → ∃ b,ao=some ⟨b,0,none⟩ ∧ w.cell? ⟨b,i * 3,none⟩=some t.1 ∧ w.cell? ⟨b,i * 3 + 1,none⟩=some t.2.1 ∧ w.cell? ⟨b,i * 3 + 2,none⟩=some t.2.2) ∧
 (∀ (i:Nat) t q,ts[i]?=some t → qs[i]?=some q → QV w t.v q)
theorem QsV.ext {w w':World} {v:Value} {qs:List Rat} (h:QsV w v qs) (hx:Ext w w'):QsV w' v qs:=by
 obtain ⟨ao,c,ts,h1,h2,h3,h4,h5⟩:=h
 refine ⟨ao,c,ts,h1,h2,h3,fun i t ht => ?_,fun i t q ht hq => (h5 i t q ht hq).ext hx⟩
 obtain ⟨b,e,c1,c2,c3⟩:=h4 i t ht
 exact ⟨b,e,hx.cell c1,hx.cell c2,hx.cell c3⟩
theorem QsV.own {w:World} {B:Nat} {e:TypeId} {v:Value} {n:Nat} {ts:List TV} {qs:List Rat} (h:w.ownsRow B e 3 v n (flatT ts)) (hn:n ≤ 17592186044416) (hl:qs.length=n) (ht:ts.length=n) (hq:∀ (i:Nat) t q,ts[i]?=some t → qs[i]?=some q → QV w t.v q):QsV w v qs:=by
 rcases h.2 with ⟨rfl,h0⟩ | ⟨g,cap,cur,rfl,hb,hg,hc,_,hcs,htk⟩
 · subst h0
   exact ⟨none,0,ts,by rw [hl],by omega,by omega,fun i t hi => by rw [List.eq_nil_of_length_eq_zero ht] at hi; simp at hi,hq⟩
 · refine ⟨_,_,ts,by rw [hl],by omega,by omega,fun i t hi => ?_,hq⟩
   obtain ⟨g1,g2,g3⟩:=flatT_get ts i t hi
   have c1:=h.cells (g:=g) rfl _ _ g1
   have c2:=h.cells (g:=g) rfl _ _ g2
   have c3:=h.cells (g:=g) rfl _ _ g3
   rw [Addr.add_lit,Nat.zero_add] at c1 c2 c3
   exact ⟨g,rfl,c1,c2,c3⟩
set_option maxHeartbeats 1600000 in
set_option maxRecDepth 100000 in
theorem ratIn_any (v:Value) (l:List ByteArray) (w:World) (hv:Strs w v l) (hok:∀ s ∈ l,RatOk s ∧ s.size ≤ 9223372036854775806) (hl:l.length ≤ 1000000) :
 Calls Tryz.prog 85 #[v] w fun e w' => ∃ u,e=.returned u ∧ QsV w' u (l.map ratOf) ∧ (∀ k,u.ownBlock=some k → w.heap.size ≤ k) ∧ Ext w w':=by
 obtain ⟨wo,rfl⟩:∃ wo:World,wo=w:=⟨_,rfl⟩
 obtain ⟨ao,c,rfl,hlen,hc⟩:=hv.open
 have HC:=Lib.hid hc
 have HOK:=Lib.hid hok
 clear hc hok hv
 go_enter Tryz.func85,Tryz.ntmps85
 go_wp2_with fail
 go_loopw [3,8] (fun ov iv wr => ∃ (i:Nat) (ts:List TV),i ≤ l.length ∧ iv=.int .i64 i ∧ wr.ownsRow wo.heap.size 89 3 ov i (flatT ts) ∧ Clean wr ov ∧ Hid (ts.length=i) ∧ Hid (∀ (j:Nat) t q,ts[j]?=some t → (l.map ratOf)[j]?=some q → QV wr t.v q) ∧ Ext wo wr) (fun _ iv _ => l.length - (intOf iv).toNat)
 case atStart => exact ⟨0,[],Nat.zero_le _,rfl,World.ownsRow_nil _ _ _ _,Clean.nil _,rfl,fun j t q h => by simp at h,Ext.refl _⟩
 case round =>
  obtain ⟨i,ts,hi,rfl,HO,HCL,HTL,HQ,X⟩:=hrel
  by_cases hlt:i < l.length
  · obtain ⟨s,d1,d2,d3⟩:=get_lt hlt
    obtain ⟨b,off,rfl,hc0⟩:=(HC.out.ext X).at d1
    have hcell:wr.cell? ⟨b,off + i,none⟩=some (.string s):=hc0
    have hki:(i:Int) < (l.length:Int):=by omega
    obtain ⟨ho1,ho2⟩:=HOK.out s (List.mem_of_getElem? d1.out)
    have HP:=Lib.hid (fun W => parse_any s W ho1 ho2)
    have HEL:Hid ((l.map ratOf)[i]?=some (ratOf s)):=by show _=_; rw [List.getElem?_map,d1.out]; rfl
    generalize ratOf s=q at *
    clear hc0 ho1 ho2 hlt
    go_wp2_with fail
    refine (HP.out _).mono ?_
    rintro e w4 ⟨u4,rfl,h4,X4⟩
    obtain ⟨s5,ao5,l5,c5,bo5,m5,c6,rfl,_,_,_⟩:=h4.opn
    have HO4:=own_ext HO X4
    have HC4:=HCL.ext X4
    have HQ4:=Lib.hid h4
    have XA:=X.trans X4
    have hsz:=XA.size
    clear h4 HO HCL
    go_wp2_with (at_builtin; refine wp_app3 (s:=.tmp 12) (x:=.tmp 15) rfl rfl ei_q zc_q HO4 HC4 rfl rfl rfl rfl rfl rfl (by intro y hy d; simp at hy; rcases hy with rfl | rfl | rfl <;> simp [encD]) (by omega) (by omega) (by omega) ?_; intro v' w' hown hgrew hclean)
    have HQ6:Hid (∀ (j:Nat) t q,(ts ++ [((.bool s5,.slice ao5 l5 c5,.slice bo5 m5 c6):TV)])[j]?=some t → (l.map ratOf)[j]?=some q → QV w' t.v q):=by
     intro j t q2 hj hq2
     rcases Nat.lt_or_ge j i with hji | hji
     · rw [List.getElem?_append_left (by rw [HTL.out]; exact hji)] at hj
       exact HC4.keptQ hgrew.by' ((HQ.out j t q2 hj hq2).ext X4)
     · rw [List.getElem?_append_right (by rw [HTL.out]; exact hji),HTL.out] at hj
       have hj0:j - i=0:=by
        have:=(List.getElem?_eq_some_iff.1 hj).1
        simp at this
        omega
       rw [hj0] at hj
       simp only [List.getElem?_cons_zero,Option.some.injEq] at hj
       subst hj
       have:j=i:=by omega
       subst this
       rw [HEL.out] at hq2
       cases hq2
       exact HC4.keptQ hgrew.by' HQ4.out
    go_roundw
    case rel => exact ⟨i + 1,ts ++ [(.bool s5,.slice ao5 l5 c5,.slice bo5 m5 c6)],by omega,by go_num,own_cast hown (by rw [flatT_app]) rfl,hclean,by show _=_; rw [List.length_append,HTL.out]; rfl,HQ6,hgrew.extNew XA HO4 (Nat.le_refl _)⟩
    case measure => simp [intOf]; omega
  · have hil:l.length=i:=by omega
    have HFR:=Lib.hid (fun k hk => (HO.lt k hk).1)
    have HR:=Lib.hid (QsV.own (qs:=l.map ratOf) HO (by omega) (by rw [List.length_map]; exact hil) HTL.out HQ.out)
    clear hlt HCL HO
    go_wp2_with fail
    go_ret
    exact ⟨_,rfl,HR.out,HFR.out,X⟩
theorem clean_full {w:World} {B g n:Nat} {e:TypeId} {xs:List Value} (h:w.ownsRow B e 3 (.slice (some ⟨g,0,none⟩) n n) n xs) (hx:∀ x ∈ xs,∀ d:Nat,x ≠ encD d):Clean w (.slice (some ⟨g,0,none⟩) n n):=by
 intro k hk
 simp only [Value.ownBlock,Option.some.injEq] at hk
 subst hk
 rcases h.2 with ⟨e1,_⟩ | ⟨g2,cap,cur,e1,_,hg,_,_,hcs,htk⟩
 · simp at e1
 · simp only [Value.slice.injEq,Option.some.injEq,Addr.mk.injEq,and_true,true_and] at e1
   obtain ⟨rfl,rfl⟩:=e1
   refine ⟨cur,e,_,hg,?_⟩
   intro i d hi
   rw [← Array.getElem?_toList] at hi
   have hm:=List.mem_of_getElem? hi
   have:cur.toList=xs:=by rw [← htk,List.take_of_length_le (by rw [Array.length_toList]; omega)]
   rw [this] at hm
   exact hx _ hm d rfl
structure St3 (w:World) (B g:Nat) (ty:TypeId) (x y z:Value):Prop where
 f0:w.frozen? ⟨g,0,none⟩=false
 c0:w.cell? ⟨g,0,none⟩=some x
 f1:∀ a,(w.setCell ⟨g,0,none⟩ a).frozen? ⟨g,1,none⟩=false
 c1:∀ a,(w.setCell ⟨g,0,none⟩ a).cell? ⟨g,1,none⟩=some y
 f2:∀ a b,((w.setCell ⟨g,0,none⟩ a).setCell ⟨g,1,none⟩ b).frozen? ⟨g,2,none⟩=false
 c2:∀ a b,((w.setCell ⟨g,0,none⟩ a).setCell ⟨g,1,none⟩ b).cell? ⟨g,2,none⟩=some z
 own:∀ a b c,(((w.setCell ⟨g,0,none⟩ a).setCell ⟨g,1,none⟩ b).setCell ⟨g,2,none⟩ c).ownsRow B ty 3 (.slice (some ⟨g,0,none⟩) 1 1) 1 [a,b,c]
 by':∀ a b c,w.grownBy (((w.setCell ⟨g,0,none⟩ a).setCell ⟨g,1,none⟩ b).setCell ⟨g,2,none⟩ c) (some g)
 k0:w.cell? ⟨g,0,none⟩=some x
 k1:w.cell? ⟨g,1,none⟩=some y
 k2:w.cell? ⟨g,2,none⟩=some z
theorem cell3 {w:World} {B g:Nat} {ty:TypeId} {x y z:Value} (h:w.ownsRow B ty 3 (.slice (some ⟨g,0,none⟩) 1 1) 1 [x,y,z]) {j:Nat} {u:Value} (hj:[x,y,z][j]?=some u):w.cell? ⟨g,j,none⟩=some u:=by
 have:=h.cells (g:=g) rfl j u hj
 rwa [Addr.add_lit,Nat.zero_add] at this
theorem st3 {w:World} {B g:Nat} {ty:TypeId} {x y z:Value} (h:w.ownsRow B ty 3 (.slice (some ⟨g,0,none⟩) 1 1) 1 [x,y,z]):St3 w B g ty x y z:=by
 have s1:=fun a => h.stored 0 a
 have s2:=fun a b => (s1 a).1.stored 1 b
 have s3:=fun a b c => (s2 a b).1.stored 2 c
 exact {
  f0:=h.frozenAt 0
  c0:=cell3 h (j:=0) rfl
  f1:=fun a => (s1 a).1.frozenAt 1
  c1:=fun a => cell3 (s1 a).1 (j:=1) rfl
  f2:=fun a b => (s2 a b).1.frozenAt 2
  c2:=fun a b => cell3 (s2 a b).1 (j:=2) rfl
  own:=fun a b c => (s3 a b c).1
  by':=fun a b c => Lib.grownBy_trans (Lib.grownBy_trans (s1 a).2 (s2 a b).2) (s3 a b c).2
  k0:=cell3 h (j:=0) rfl
  k1:=cell3 h (j:=1) rfl
  k2:=cell3 h (j:=2) rfl }
def sumG (acc:Rat):List Rat → Rat × Int
 | [] => (acc,0)
 | q :: t => if fitsB (acc + q)=true then sumG (acc + q) t else (acc + q,2)
def errsL (l:List ByteArray):Int:=firstF (l.map ratErr)
def sumL (l:List ByteArray):Rat × Int:=if 256 < l.length then (0,2) else if errsL l ≠ 0 then (0,errsL l) else sumG 0 (l.map ratOf)
theorem errsL_zero {l:List ByteArray} (h:errsL l=0):∀ s ∈ l,ratErr s=0:=by
 unfold errsL at h
 induction l with
 | nil => intro s hs; cases hs
 | cons a t ih =>
   rw [List.map_cons,firstF] at h
   by_cases h1:ratErr a=0
   · rw [if_neg (by simpa using h1)] at h
     intro s hs
     rcases List.mem_cons.1 hs with rfl | hs
     · exact h1
     · exact ih h s hs
   · rw [if_pos h1] at h
     exact absurd h h1
theorem fits_QB {a:Rat} (hf:fitsB a=true):QB a:=by
 unfold fitsB at hf
 rw [Bool.and_eq_true,decide_eq_true_eq,decide_eq_true_eq,decT_size,decT_size] at hf
 refine ⟨?_,?_⟩
 · rcases Nat.lt_or_ge 224 (dig a.num.natAbs).length with h | h
   · have:=dd_gt_of_dig h; omega
   · omega
 · rcases Nat.lt_or_ge 224 (dig a.den).length with h | h
   · have:=dd_gt_of_dig h; omega
   · omega
theorem zero_QB:QB 0:=by
 refine ⟨?_,?_⟩
 · show (dig 0).length ≤ _
   rw [dig_zero]; simp
 · show (dig 1).length ≤ _
   rw [← one_len]; omega
set_option maxHeartbeats 3200000 in
set_option maxRecDepth 100000 in
theorem sum_large (v:Value) (l:List ByteArray) (w:World) (htab:TabPow w) (hv:Strs w v l) (hs:∀ s ∈ l,s.size ≤ 9223372036854775806) (hl:256 < l.length) :
 Calls Tryz.prog 159 #[v] w fun e w' => ∃ u,e=.returned (.tuple #[u,.int .i64 2]) ∧ QV w' u 0 ∧ Ext w w':=by
 obtain ⟨ao,c,rfl,hlen,hc⟩:=hv.open
 have HO0:=Lib.hid (fun W => qOf_any 0 W (by omega) (by omega))
 have hli:(256:Int) < (l.length:Int):=by omega
 clear hc hv hl htab
 go_enter Tryz.func159,Tryz.ntmps159
 go_wp2_with fail
 refine (HO0.out _).mono ?_
 rintro e w2 ⟨u2,rfl,h2,X2⟩
 obtain ⟨s2,ao2,l2,c2,bo2,m2,d2,rfl,_,_,_⟩:=h2.opn
 have XO:=X2.alloc (.cells #[.bool s2,.slice ao2 l2 c2,.slice bo2 m2 d2] 89)
 have R:=res3 (w:=w) (g:=w.heap.size) rfl (Ext.refl w) XO
 have f0:=R.f0
 have c0:=R.c0
 have f1:=R.f1
 have c1:=R.c1
 have f2:=R.f2
 have e2:=R.c2
 have R:=Lib.hid R
 have HQ:=Lib.hid (h2.ext ((Ext.refl w2).alloc (.cells #[.bool s2,.slice ao2 l2 c2,.slice bo2 m2 d2] 89)))
 clear h2
 go_wp2_with fail
 refine bodyPost_ret (v:=.tuple #[.agg #[.bool s2,.slice ao2 l2 c2,.slice bo2 m2 d2],.int .i64 2]) (by simp [results,Tryz.results159,go_sem,R.out.d0,R.out.d1,R.out.d2]) rfl ?_
 exact ⟨_,rfl,R.out.q _ _ _ HQ.out,R.out.ext _ _ _⟩
set_option maxHeartbeats 3200000 in
set_option maxRecDepth 100000 in
theorem sum_err (v:Value) (l:List ByteArray) (w:World) (htab:TabPow w) (hv:Strs w v l) (hs:∀ s ∈ l,s.size ≤ 9223372036854775806) (hl:l.length ≤ 256) (he:errsL l ≠ 0) :
 Calls Tryz.prog 159 #[v] w fun e w' => ∃ u,e=.returned (.tuple #[u,.int .i64 (errsL l)]) ∧ QV w' u 0 ∧ Ext w w':=by
 have HCK:=Lib.hid (fun W (hx:Ext w W) => checkAll_any v l W (hv.ext hx) hs (errsL l) rfl)
 generalize errsL l=p at *
 have hpb:(p != 0)=true:=by simp [he]
 obtain ⟨ao,c,rfl,hlen,hc⟩:=hv.open
 have HO0:=Lib.hid (fun W => qOf_any 0 W (by omega) (by omega))
 have hli:(l.length:Int) ≤ 256:=by omega
 clear hc hv hl htab he
 go_enter Tryz.func159,Tryz.ntmps159
 go_wp2_with fail
 refine (HO0.out _).mono ?_
 rintro e w2 ⟨u2,rfl,h2,X2⟩
 obtain ⟨s2,ao2,l2,c2,bo2,m2,d2,rfl,_,_,_⟩:=h2.opn
 have hown:=World.ownsRow_lit (base:=w2.heap.size) (e:=89) (size:=3) w2 #[.bool s2,.slice ao2 l2 c2,.slice bo2 m2 d2] 1 (Nat.le_refl _) (by unfold maxLen; omega) (by simp)
 have XO:=X2.alloc (.cells #[.bool s2,.slice ao2 l2 c2,.slice bo2 m2 d2] 89)
 have hX:Ext w (w2.alloc (.cells #[.bool s2,.slice ao2 l2 c2,.slice bo2 m2 d2] 89)):=((Ext.refl w).alloc _).trans XO
 go_wp2_with fail
 refine (HCK.out _ hX).mono ?_
 rintro e w3 ⟨rfl,X3⟩
 have hown3:=own_ext hown X3
 have k0:=cell3 hown3 (j:=0) rfl
 have k1:=cell3 hown3 (j:=1) rfl
 have k2:=cell3 hown3 (j:=2) rfl
 have R:=res3 (w:=w) (g:=w.heap.size) rfl (Ext.refl w) (XO.trans X3)
 have f0:=R.f0
 have c0:=R.c0
 have f1:=R.f1
 have c1:=R.c1
 have f2:=R.f2
 have e2:=R.c2
 have R:=Lib.hid R
 have HQ:=Lib.hid ((h2.ext ((Ext.refl w2).alloc (.cells #[.bool s2,.slice ao2 l2 c2,.slice bo2 m2 d2] 89))).ext X3)
 clear h2 hown hown3
 go_wp2_with fail
 refine bodyPost_ret (v:=.tuple #[.agg #[.bool s2,.slice ao2 l2 c2,.slice bo2 m2 d2],.int .i64 p]) (by simp [results,Tryz.results159,go_sem,R.out.d0,R.out.d1,R.out.d2]) rfl ?_
 exact ⟨_,rfl,R.out.q _ _ _ HQ.out,R.out.ext _ _ _⟩
set_option maxHeartbeats 3200000 in
set_option maxRecDepth 100000 in
theorem sum_go (v:Value) (l:List ByteArray) (w:World) (htab:TabPow w) (hv:Strs w v l) (hs:∀ s ∈ l,s.size ≤ 9223372036854775806) (hl:l.length ≤ 256) (he:errsL l=0) :
 Calls Tryz.prog 159 #[v] w fun e w' => ∃ u,e=.returned (.tuple #[u,.int .i64 (sumG 0 (l.map ratOf)).2]) ∧ QV w' u (sumG 0 (l.map ratOf)).1 ∧ Ext w w':=by
 have HCK:=Lib.hid (fun W (hx:Ext w W) => checkAll_any v l W (hv.ext hx) hs 0 he)
 have hok:=errsL_zero he
 have HIN:=Lib.hid (fun W (hx:Ext w W) => ratIn_any v l W (hv.ext hx) (fun s hs2 => ⟨ratErr_ok (hok s hs2),hs s hs2⟩) (by omega))
 have HQB:Hid (∀ q ∈ l.map ratOf,QB q):=fun q hq => by
  obtain ⟨s,hs2,rfl⟩:=List.mem_map.1 hq
  exact ratOf_QB (ratErr_ok (hok s hs2))
 obtain ⟨F,hF⟩:∃ F,sumG 0 (l.map ratOf)=F:=⟨_,rfl⟩
 rw [hF]
 obtain ⟨ao,c,rfl,hlen,hc⟩:=hv.open
 have hll:(l.map ratOf).length=l.length:=List.length_map ..
 generalize l.map ratOf=qs at *
 have HO0:=Lib.hid (fun W => qOf_any 0 W (by omega) (by omega))
 have hli:(l.length:Int) ≤ 256:=by omega
 have hqi:(qs.length:Int) ≤ 256:=by omega
 have HF:=Lib.hid hF
 have HT:=Lib.hid htab
 clear hc hv htab he hok hF hs
 go_enter Tryz.func159,Tryz.ntmps159
 go_wp2_with fail
 refine (HO0.out _).mono ?_
 rintro e w2 ⟨u2,rfl,h2,X2⟩
 obtain ⟨s2,ao2,l2,c2,bo2,m2,d2,rfl,_,_,_⟩:=h2.opn
 have hown:=World.ownsRow_lit (base:=w2.heap.size) (e:=89) (size:=3) w2 #[.bool s2,.slice ao2 l2 c2,.slice bo2 m2 d2] 1 (Nat.le_refl _) (by unfold maxLen; omega) (by simp)
 have XO:=X2.alloc (.cells #[.bool s2,.slice ao2 l2 c2,.slice bo2 m2 d2] 89)
 have hX:Ext w (w2.alloc (.cells #[.bool s2,.slice ao2 l2 c2,.slice bo2 m2 d2] 89)):=((Ext.refl w).alloc _).trans XO
 have hszO:w2.heap.size < (w2.alloc (.cells #[.bool s2,.slice ao2 l2 c2,.slice bo2 m2 d2] 89)).heap.size:=by simp
 go_wp2_with fail
 refine (HCK.out _ hX).mono ?_
 rintro e w3 ⟨rfl,X3⟩
 go_wp2_with fail
 refine (HIN.out _ (hX.trans X3)).mono ?_
 rintro e w4 ⟨u4,rfl,h4,hfr,X4⟩
 obtain ⟨ao4,c4,ts,rfl,hql,htl,hcells,hqv⟩:=h4
 have hown4:=own_ext (own_ext hown X3) X4
 have X24:=XO.trans (X3.trans X4)
 have H0:=Lib.hid (h2.ext (((Ext.refl w2).alloc (.cells #[.bool s2,.slice ao2 l2 c2,.slice bo2 m2 d2] 89)).trans (X3.trans X4)))
 obtain ⟨O,hO⟩:∃ O,w2.heap.size=O:=⟨_,rfl⟩
 have hO1:(w.alloc (.cells #[.bool false,.slice none 0 0,.slice none 0 0] 89)).heap.size ≤ O:=by rw [← hO]; exact X2.size
 have hne4:∀ b,ao4=some ⟨b,0,none⟩ → b ≠ O:=fun b hb e => by
  have h1:=hfr b (by rw [hb]; rfl)
  have h5:=X3.size
  omega
 have HNE:=Lib.hid hne4
 rw [hO] at hown4
 have HC4:=Lib.hid hcells
 have HV4:=Lib.hid hqv
 have HTL:=Lib.hid htl
 clear h2 hown hfr hcells hqv htl hszO hne4
 rw [hO]
 clear hO
 go_wp2_with fail
 go_loopw [22] (fun iv wr => ∃ (i:Nat) (acc:Rat) (s:Bool) (xo:Option Addr) (xl xc:Nat) (yo:Option Addr) (yl yc:Nat),i ≤ qs.length ∧ iv=.int .i64 i ∧ wr.ownsRow O 89 3 (.slice (some ⟨O,0,none⟩) 1 1) 1 [.bool s,.slice xo xl xc,.slice yo yl yc] ∧ Hid (QV wr (.agg #[.bool s,.slice xo xl xc,.slice yo yl yc]) acc) ∧ Hid (QB acc) ∧ Ext (w.alloc (.cells #[.bool false,.slice none 0 0,.slice none 0 0] 89)) wr ∧
  Hid (∀ j t,ts[j]?=some t → ∃ b,ao4=some ⟨b,0,none⟩ ∧ wr.cell? ⟨b,j * 3,none⟩=some t.1 ∧ wr.cell? ⟨b,j * 3 + 1,none⟩=some t.2.1 ∧ wr.cell? ⟨b,j * 3 + 2,none⟩=some t.2.2) ∧ Hid (∀ (j:Nat) t q,ts[j]?=some t → qs[j]?=some q → QV wr t.v q) ∧ Hid (sumG acc (qs.drop i)=F)) (fun iv _ => qs.length - (intOf iv).toNat)
 case atStart => exact ⟨0,0,s2,ao2,l2,c2,bo2,m2,d2,Nat.zero_le _,rfl,hown4,H0,zero_QB,X24,HC4.out,HV4.out,by show _=_; rw [List.drop_zero]; exact HF.out⟩
 case round =>
  obtain ⟨i,acc,s,xo,xl,xc,yo,yl,yc,hi,rfl,hrow,HA,HAB,X,HCE,HQV,HI⟩:=hrel
  by_cases hlt:i < qs.length
  · obtain ⟨tt,t1,_,_⟩:=get_lt (xs:=ts) (k:=i) (by rw [HTL.out]; exact hlt)
    obtain ⟨qq,q1,q2,_⟩:=get_lt hlt
    obtain ⟨b,rfl,e0,e1,e2⟩:=HCE.out i tt t1.out
    have hb:=HNE.out b rfl
    have hqq:=HQV.out i tt qq t1.out q1.out
    have hqb:=HQB.out qq (List.mem_of_getElem? q1.out)
    obtain ⟨a1,a2,a3⟩:=tt
    obtain ⟨s5,ao5,l5,c5,bo5,m5,c6,hv5,_,_,_⟩:=hqq.opn
    simp only [TV.v,Value.agg.injEq,Array.mk.injEq,List.cons.injEq,and_true] at hv5
    obtain ⟨rfl,rfl,rfl⟩:=hv5
    dsimp only at e0 e1 e2
    have HQQ:=Lib.hid (show QV wr (.agg #[.bool s5,.slice ao5 l5 c5,.slice bo5 m5 c6]) qq from hqq)
    have HADD:=Lib.hid (fun (u v:Value) W hu hv => qAdd_any u v acc qq W hu hv HAB.out hqb)
    have HFIT:=Lib.hid (fun (u:Value) W (hx:Ext w W) hu => qFits_any u (acc + qq) W hu (tabPow_ext HT.out hx))
    have hi2:=HI.out
    rw [q2.out,sumG] at hi2
    have hki:(i:Int) < (qs.length:Int):=by omega
    have XL:=(Ext.refl wr).alloc (.cells #[.bool s5,.slice ao5 l5 c5,.slice bo5 m5 c6] 89)
    have k0:=XL.cell (cell3 hrow (j:=0) rfl)
    have k1:=XL.cell (cell3 hrow (j:=1) rfl)
    have k2:=XL.cell (cell3 hrow (j:=2) rfl)
    have XA:=X.trans XL
    have hwX:Ext w (w.alloc (.cells #[.bool false,.slice none 0 0,.slice none 0 0] 89)):=(Ext.refl w).alloc _
    clear hqq hqb hlt
    go_wp2_with fail
    refine (HADD.out _ _ _ (HA.out.ext XL) (HQQ.out.ext XL)).mono ?_
    rintro e w6 ⟨u6,rfl,h6,X6⟩
    obtain ⟨s6,ao6,l6,d6,bo6,m6,n6,rfl,_,_,_⟩:=h6.opn
    have hrow6:=own_ext (own_ext hrow XL) X6
    have XB:=XA.trans X6
    have HCL:=clean_full hrow6 (by intro y hy d; simp at hy; rcases hy with rfl | rfl | rfl <;> simp [encD])
    have T:=st3 hrow6
    have hgr:=T.by' (.bool s6) (.slice ao6 l6 d6) (.slice bo6 m6 n6)
    have hrow7:=T.own (.bool s6) (.slice ao6 l6 d6) (.slice bo6 m6 n6)
    have HQ7:=Lib.hid (HCL.keptQ hgr h6)
    have XC:=XB.grown hgr hO1
    have HCE7:Hid (∀ j t,ts[j]?=some t → ∃ b2,(some ⟨b,0,none⟩:Option Addr)=some ⟨b2,0,none⟩ ∧ (((w6.setCell ⟨O,0,none⟩ (.bool s6)).setCell ⟨O,1,none⟩ (.slice ao6 l6 d6)).setCell ⟨O,2,none⟩ (.slice bo6 m6 n6)).cell? ⟨b2,j * 3,none⟩=some t.1 ∧ (((w6.setCell ⟨O,0,none⟩ (.bool s6)).setCell ⟨O,1,none⟩ (.slice ao6 l6 d6)).setCell ⟨O,2,none⟩ (.slice bo6 m6 n6)).cell? ⟨b2,j * 3 + 1,none⟩=some t.2.1 ∧ (((w6.setCell ⟨O,0,none⟩ (.bool s6)).setCell ⟨O,1,none⟩ (.slice ao6 l6 d6)).setCell ⟨O,2,none⟩ (.slice bo6 m6 n6)).cell? ⟨b2,j * 3 + 2,none⟩=some t.2.2):=by
     intro j t ht
     obtain ⟨b2,hb2,g0,g1,g2⟩:=HCE.out j t ht
     have hbb:b2 ≠ O:=HNE.out b2 hb2
     have XX:=XL.trans X6
     exact ⟨b2,hb2,hgr.cell (XX.cell g0) (fun e => hbb (Option.some.inj e)),hgr.cell (XX.cell g1) (fun e => hbb (Option.some.inj e)),hgr.cell (XX.cell g2) (fun e => hbb (Option.some.inj e))⟩
    have HQV7:Hid (∀ (j:Nat) t q,ts[j]?=some t → qs[j]?=some q → QV (((w6.setCell ⟨O,0,none⟩ (.bool s6)).setCell ⟨O,1,none⟩ (.slice ao6 l6 d6)).setCell ⟨O,2,none⟩ (.slice bo6 m6 n6)) t.v q):=fun j t q ht hq => HCL.keptQ hgr ((HQV.out j t q ht hq).ext (XL.trans X6))
    have f0:=T.f0
    have c0:=T.c0
    have f1:=T.f1
    have c1:=T.c1
    have f2:=T.f2
    have c2:=T.c2
    have n0:=cell3 hrow7 (j:=0) rfl
    have n1:=cell3 hrow7 (j:=1) rfl
    have n2:=cell3 hrow7 (j:=2) rfl
    have HROW7:=Lib.hid hrow7
    have XC2:=hwX.trans XC
    clear T hgr hrow6 hrow7 HCL h6 k0 k1 k2 e0 e1 e2 hrow
    go_wp2_with fail
    refine (HFIT.out _ _ XC2 HQ7.out).mono ?_
    rintro e w8 ⟨rfl,X8⟩
    have HROW8:=own_ext HROW7.out X8
    have r0:=cell3 HROW8 (j:=0) rfl
    have r1:=cell3 HROW8 (j:=1) rfl
    have r2:=cell3 HROW8 (j:=2) rfl
    have HQ8:=Lib.hid (HQ7.out.ext X8)
    have XD:=XC.trans X8
    cases hf:fitsB (acc + qq)
    · rw [hf,if_neg (by simp)] at hi2
      have HI2:=Lib.hid hi2
      have R:=res3 (w:=w) (g:=w.heap.size) rfl (Ext.refl w) XD
      clear f0 c0 f1 c1 f2 c2 n0 n1 n2 hi2 hf HROW8
      have f0:=R.f0
      have c0:=R.c0
      have f1:=R.f1
      have c1:=R.c1
      have f2:=R.f2
      have e2:=R.c2
      have R:=Lib.hid R
      go_wp2_with fail
      refine bodyPost_ret (v:=.tuple #[.agg #[.bool s6,.slice ao6 l6 d6,.slice bo6 m6 n6],.int .i64 2]) (by simp [results,Tryz.results159,go_sem,R.out.d0,R.out.d1,R.out.d2]) rfl ?_
      exact ⟨_,by rw [← HI2.out],R.out.q _ _ _ (by rw [← HI2.out]; exact HQ8.out),R.out.ext _ _ _⟩
    · rw [hf,if_pos rfl] at hi2
      have HI2:=Lib.hid hi2
      have HB2:=Lib.hid (fits_QB hf)
      have HROW9:=Lib.hid HROW8
      clear f0 c0 f1 c1 f2 c2 n0 n1 n2 hi2 hf HROW8
      go_wp2_with fail
      go_roundw
      case rel => exact ⟨i + 1,acc + qq,s6,ao6,l6,d6,bo6,m6,n6,by omega,by go_num,HROW9.out,HQ8,HB2,XD,fun j t ht => by
       obtain ⟨b2,hb2,g0,g1,g2⟩:=HCE7.out j t ht
       exact ⟨b2,hb2,X8.cell g0,X8.cell g1,X8.cell g2⟩,fun j t q ht hq => (HQV7.out j t q ht hq).ext X8,HI2⟩
      case measure => simp [intOf]; omega
  · have hil:qs.length=i:=by omega
    have k0:=cell3 hrow (j:=0) rfl
    have k1:=cell3 hrow (j:=1) rfl
    have k2:=cell3 hrow (j:=2) rfl
    have R:=res3 (w:=w) (g:=w.heap.size) rfl (Ext.refl w) X
    have f0:=R.f0
    have c0:=R.c0
    have f1:=R.f1
    have c1:=R.c1
    have f2:=R.f2
    have e2:=R.c2
    have R:=Lib.hid R
    have hi2:=HI.out
    rw [← hil,List.drop_length,sumG] at hi2
    have HI2:=Lib.hid hi2
    clear hi2 hlt hrow
    go_wp2_with fail
    refine bodyPost_ret (v:=.tuple #[.agg #[.bool s,.slice xo xl xc,.slice yo yl yc],.int .i64 0]) (by simp [results,Tryz.results159,go_sem,R.out.d0,R.out.d1,R.out.d2]) rfl ?_
    exact ⟨_,by rw [← HI2.out],R.out.q _ _ _ (by rw [← HI2.out]; exact HA.out),R.out.ext _ _ _⟩
theorem sum_any (v:Value) (l:List ByteArray) (w:World) (htab:TabPow w) (hv:Strs w v l) (hs:∀ s ∈ l,s.size ≤ 9223372036854775806) :
 Calls Tryz.prog 159 #[v] w fun e w' => ∃ u,e=.returned (.tuple #[u,.int .i64 (sumL l).2]) ∧ QV w' u (sumL l).1 ∧ Ext w w':=by
 unfold sumL
 by_cases h:256 < l.length
 · rw [if_pos h]; exact sum_large v l w htab hv hs h
 · rw [if_neg h]
   by_cases he:errsL l=0
   · rw [if_neg (by simpa using he)]; exact sum_go v l w htab hv hs (by omega) he
   · rw [if_pos he]; exact sum_err v l w htab hv hs (by omega) he
set_option maxHeartbeats 400000 in
set_option maxRecDepth 100000 in
theorem indexFunc_rats (v:Value) (us:List Value) (ps:List Bool) (g:Nat) (caps:Array Value) (w:World) (hv:Row w v us) (hl:ps.length=us.length)
 (eg:∀ args w,(callFunc g args).run Tryz.prog w=.ok (.enter g args) w)
 (hp:∀ (i:Nat) (u:Value) (q:Bool) (W:World),us[i]?=some u → ps[i]?=some q → Ext w W → Calls Tryz.prog g (#[u] ++ caps) W fun e W' => e=.returned (.bool q) ∧ Ext W W') :
 Calls Tryz.prog 89 #[v,.func (.func g) #[] caps] w fun e w' => e=.returned (.int .i64 (idxF id ps 0)) ∧ Ext w w':=by
 obtain ⟨ao,c,rfl,_,hlen,_,hc⟩:=hv
 have HP:=Lib.hid hp; have HL:=Lib.hid hl; have HC:=Lib.hid hc
 clear hp hl hc
 go_enter Tryz.func89,Tryz.ntmps89
 go_wp2_with fail
 go_loopw [8] (fun i wr => ∃ k:Nat,k ≤ us.length ∧ i=.int .i64 k ∧ Ext w wr ∧ Hid (idxF id (ps.drop k) k=idxF id ps 0)) (fun i _ => us.length - (intOf i).toNat)
 case atStart => exact ⟨0,Nat.zero_le _,rfl,Ext.refl _,rfl⟩
 case round =>
  obtain ⟨k,hk,rfl,HX,HI⟩:=hrel
  by_cases hlt:k < us.length
  · obtain ⟨x,h1,_,_⟩:=get_lt hlt
    obtain ⟨q,hq1,hq2,_⟩:=get_lt (xs:=ps) (k:=k) (by rw [HL.out]; exact hlt)
    obtain ⟨b,off,rfl,hc0⟩:=HC.out k x h1.out
    have hcell:=HX.cell hc0
    have hcall:=HP.out k x q wr h1.out hq1.out HX
    clear hc0
    have HH:=Lib.hid hcall; clear hcall
    cases q
    all_goals
     go_wp2_with fail
     refine HH.out.mono ?_
     rintro e w' ⟨rfl,HB⟩
     go_wp2_with fail
    · go_roundw
      case rel => exact ⟨k + 1,by omega,by go_num,HX.trans HB,by rw [← HI.out,hq2.out]; simp [Hid,idxF]⟩
      case measure => simp [intOf]; omega
    · go_ret
      exact ⟨ret_int (by rw [← HI.out,hq2.out]; simp [idxF]),HX.trans HB⟩
  · obtain ⟨h1,_⟩:=get_ge (xs:=ps) (k:=k) (by rw [HL.out]; exact hlt)
    go_wp2_with fail
    go_ret
    exact ⟨ret_int (by rw [← HI.out,h1.out]; rfl),HX⟩
set_option maxHeartbeats 400000 in
set_option maxRecDepth 100000 in
theorem containsFunc_rats (v:Value) (us:List Value) (ps:List Bool) (g:Nat) (caps:Array Value) (w:World) (hv:Row w v us) (hl:ps.length=us.length)
 (eg:∀ args w,(callFunc g args).run Tryz.prog w=.ok (.enter g args) w)
 (hp:∀ (i:Nat) (u:Value) (q:Bool) (W:World),us[i]?=some u → ps[i]?=some q → Ext w W → Calls Tryz.prog g (#[u] ++ caps) W fun e W' => e=.returned (.bool q) ∧ Ext W W')
 (q:Bool) (hq:Hid (ps.any id=q)) :
 Calls Tryz.prog 46 #[v,.func (.func g) #[] caps] w fun e w' => e=.returned (.bool q) ∧ Ext w w':=by
 obtain ⟨i,hi⟩:∃ i,Hid (idxF id ps 0=i):=⟨_,rfl⟩
 have hge:=idxF_ge id ps 0 (Int.le_refl _)
 rw [hi.out,hq.out] at hge
 have HC:=indexFunc_rats v us ps g caps w hv hl eg hp
 rw [hi.out] at HC
 have hge2:=Lib.hid hge; clear hge
 have HD:=Lib.hid HC; clear HC hp hl
 go_enter Tryz.func46,Tryz.ntmps46
 go_wp2_with fail
 refine HD.out.mono ?_
 rintro e w' ⟨rfl,hx⟩
 go_wp2_with fail
 go_ret
 exact ⟨ret_bool (by have:=hge2.out; cases q <;> simp at this <;> simp <;> omega),hx⟩
def anyNeg (l:List ByteArray):Bool:=l.any negB
def posL (l:List ByteArray):Rat × Int:=((sumL l).1,if (sumL l).2=0 ∧ anyNeg l=true then 4 else (sumL l).2)
set_option maxHeartbeats 3200000 in
set_option maxRecDepth 100000 in
theorem posClo_any (s:ByteArray) (w:World) :
 Calls Tryz.prog 160 #[.string s] w fun e w' => e=.returned (.bool (negB s)) ∧ Ext w w':=by
 have HP:Hid (∀ W,Calls Tryz.prog 161 #[.string s,.string ⟨#[45]⟩] W fun e w' => e=.returned (.bool (negB s)) ∧ w'=W):=fun W => Tryz.strings_HasPrefix s ⟨#[45]⟩ W
 generalize negB s=n at *
 go_enter Tryz.func160,Tryz.ntmps160
 go_wp2_with fail
 refine (HP.out _).mono ?_
 rintro e w2 ⟨rfl,rfl⟩
 go_wp2_with fail
 go_ret
 exact ⟨rfl,Ext.refl _⟩
set_option maxHeartbeats 3200000 in
set_option maxRecDepth 100000 in
theorem positive_any (v:Value) (l:List ByteArray) (w:World) (htab:TabPow w) (hv:Strs w v l) (hs:∀ s ∈ l,s.size ≤ 9223372036854775806) :
 Calls Tryz.prog 128 #[v] w fun e w' => ∃ u,e=.returned (.tuple #[u,.int .i64 (posL l).2]) ∧ QV w' u (posL l).1 ∧ Ext w w':=by
 have HS:=Lib.hid (fun W (hx:Ext w W) => sum_any v l W (tabPow_ext htab hx) (hv.ext hx) hs)
 have HCF:=Lib.hid (fun (W:World) (hW:Ext w W) =>
  containsFunc_rats v (l.map Value.string) (l.map negB) 160 #[] W (hv.ext hW) (by rw [List.length_map,List.length_map]) (fun _ _ => by kernel_rfl)
  (fun i u' q' W2 g1 g2 hW2 => by
    simp only [List.getElem?_map,Option.map_eq_some_iff] at g1 g2
    obtain ⟨y,hy,rfl⟩:=g1
    obtain ⟨z,hz,rfl⟩:=g2
    rw [hy] at hz
    cases hz
    exact posClo_any y W2)
  (anyNeg l) (by show _=_; simp [anyNeg,List.any_map,Function.comp_def]))
 have hpl:posL l=((sumL l).1,if (sumL l).2=0 ∧ anyNeg l=true then 4 else (sumL l).2):=rfl
 rw [hpl]
 obtain ⟨ao,c,rfl,hlen,hc⟩:=hv.open
 generalize sumL l=S at *
 generalize anyNeg l=an at *
 obtain ⟨q,p⟩:=S
 dsimp only at HS ⊢
 clear hc hv htab hs hpl
 by_cases hp:p=0
 · subst hp
   cases an
   · simp only [Bool.false_eq_true,and_false,if_false]
     go_enter Tryz.func128,Tryz.ntmps128
     go_wp2_with fail
     refine (HS.out _ ((Ext.refl w).alloc _)).mono ?_
     rintro e w2 ⟨u2,rfl,h2,X2⟩
     obtain ⟨s2,ao2,l2,c2,bo2,m2,d2,rfl,_,_,_⟩:=h2.opn
     have hown:=World.ownsRow_lit (base:=w2.heap.size) (e:=89) (size:=3) w2 #[.bool s2,.slice ao2 l2 c2,.slice bo2 m2 d2] 1 (Nat.le_refl _) (by unfold maxLen; omega) (by simp)
     have XL:=(Ext.refl w2).alloc (.cells #[.bool s2,.slice ao2 l2 c2,.slice bo2 m2 d2] 89)
     have HQ:=Lib.hid (h2.ext XL)
     have k0:=cell3 hown (j:=0) rfl
     have k1:=cell3 hown (j:=1) rfl
     have k2:=cell3 hown (j:=2) rfl
     have XA:=((Ext.refl w).alloc (.cells #[.bool false,.slice none 0 0,.slice none 0 0] 89)).trans (X2.trans XL)
     clear h2
     go_wp2_with fail
     refine (HCF.out _ XA).mono ?_
     rintro e w3 ⟨rfl,X3⟩
     have HQ3:=Lib.hid (HQ.out.ext X3)
     have hown3:=own_ext hown X3
     have j0:=cell3 hown3 (j:=0) rfl
     have j1:=cell3 hown3 (j:=1) rfl
     have j2:=cell3 hown3 (j:=2) rfl
     have R:=res3 (w:=w) (g:=w.heap.size) rfl (Ext.refl w) ((X2.trans XL).trans X3)
     have f0:=R.f0
     have c0:=R.c0
     have f1:=R.f1
     have c1:=R.c1
     have f2:=R.f2
     have e2:=R.c2
     have R:=Lib.hid R
     clear k0 k1 k2 hown hown3
     go_wp2_with fail
     refine bodyPost_ret (v:=.tuple #[.agg #[.bool s2,.slice ao2 l2 c2,.slice bo2 m2 d2],.int .i64 0]) (by simp [results,Tryz.results128,go_sem,R.out.d0,R.out.d1,R.out.d2]) rfl ?_
     exact ⟨_,rfl,R.out.q _ _ _ HQ3.out,R.out.ext _ _ _⟩
   · simp only [and_true,if_true]
     go_enter Tryz.func128,Tryz.ntmps128
     go_wp2_with fail
     refine (HS.out _ ((Ext.refl w).alloc _)).mono ?_
     rintro e w2 ⟨u2,rfl,h2,X2⟩
     obtain ⟨s2,ao2,l2,c2,bo2,m2,d2,rfl,_,_,_⟩:=h2.opn
     have hown:=World.ownsRow_lit (base:=w2.heap.size) (e:=89) (size:=3) w2 #[.bool s2,.slice ao2 l2 c2,.slice bo2 m2 d2] 1 (Nat.le_refl _) (by unfold maxLen; omega) (by simp)
     have XL:=(Ext.refl w2).alloc (.cells #[.bool s2,.slice ao2 l2 c2,.slice bo2 m2 d2] 89)
     have HQ:=Lib.hid (h2.ext XL)
     have k0:=cell3 hown (j:=0) rfl
     have k1:=cell3 hown (j:=1) rfl
     have k2:=cell3 hown (j:=2) rfl
     have XA:=((Ext.refl w).alloc (.cells #[.bool false,.slice none 0 0,.slice none 0 0] 89)).trans (X2.trans XL)
     clear h2
     go_wp2_with fail
     refine (HCF.out _ XA).mono ?_
     rintro e w3 ⟨rfl,X3⟩
     have HQ3:=Lib.hid (HQ.out.ext X3)
     have hown3:=own_ext hown X3
     have j0:=cell3 hown3 (j:=0) rfl
     have j1:=cell3 hown3 (j:=1) rfl
     have j2:=cell3 hown3 (j:=2) rfl
     have R:=res3 (w:=w) (g:=w.heap.size) rfl (Ext.refl w) ((X2.trans XL).trans X3)
     have f0:=R.f0
     have c0:=R.c0
     have f1:=R.f1
     have c1:=R.c1
     have f2:=R.f2
     have e2:=R.c2
     have R:=Lib.hid R
     clear k0 k1 k2 hown hown3
     go_wp2_with fail
     refine bodyPost_ret (v:=.tuple #[.agg #[.bool s2,.slice ao2 l2 c2,.slice bo2 m2 d2],.int .i64 4]) (by simp [results,Tryz.results128,go_sem,R.out.d0,R.out.d1,R.out.d2]) rfl ?_
     exact ⟨_,rfl,R.out.q _ _ _ HQ3.out,R.out.ext _ _ _⟩
 · have hpb:(p == 0)=false:=by simp [hp]
   rw [if_neg (fun h => hp h.1)]
   clear hp HCF
   go_enter Tryz.func128,Tryz.ntmps128
   go_wp2_with fail
   refine (HS.out _ ((Ext.refl w).alloc _)).mono ?_
   rintro e w2 ⟨u2,rfl,h2,X2⟩
   obtain ⟨s2,ao2,l2,c2,bo2,m2,d2,rfl,_,_,_⟩:=h2.opn
   have hown:=World.ownsRow_lit (base:=w2.heap.size) (e:=89) (size:=3) w2 #[.bool s2,.slice ao2 l2 c2,.slice bo2 m2 d2] 1 (Nat.le_refl _) (by unfold maxLen; omega) (by simp)
   have XL:=(Ext.refl w2).alloc (.cells #[.bool s2,.slice ao2 l2 c2,.slice bo2 m2 d2] 89)
   have HQ:=Lib.hid (h2.ext XL)
   have k0:=cell3 hown (j:=0) rfl
   have k1:=cell3 hown (j:=1) rfl
   have k2:=cell3 hown (j:=2) rfl
   have R:=res3 (w:=w) (g:=w.heap.size) rfl (Ext.refl w) (X2.trans XL)
   have f0:=R.f0
   have c0:=R.c0
   have f1:=R.f1
   have c1:=R.c1
   have f2:=R.f2
   have e2:=R.c2
   have R:=Lib.hid R
   clear h2 hown
   go_wp2_with fail
   refine bodyPost_ret (v:=.tuple #[.agg #[.bool s2,.slice ao2 l2 c2,.slice bo2 m2 d2],.int .i64 p]) (by simp [results,Tryz.results128,go_sem,R.out.d0,R.out.d1,R.out.d2]) rfl ?_
   exact ⟨_,rfl,R.out.q _ _ _ HQ.out,R.out.ext _ _ _⟩
theorem sumG_QB:∀ (qs:List Rat) (acc:Rat),QB acc → (sumG acc qs).2=0 → QB (sumG acc qs).1
 | [],acc,h,_ => h
 | q :: t,acc,h,h2 => by
   rw [sumG] at h2 ⊢
   by_cases hf:fitsB (acc + q)=true
   · rw [if_pos hf] at h2 ⊢
     exact sumG_QB t _ (fits_QB hf) h2
   · rw [if_neg hf] at h2
     cases h2
theorem posL_QB {l:List ByteArray} (h:(posL l).2=0):QB (posL l).1:=by
 have h1:(sumL l).2=0:=by
  unfold posL at h
  dsimp only at h
  by_cases hc:(sumL l).2=0 ∧ anyNeg l=true
  · exact hc.1
  · rw [if_neg hc] at h; exact h
 show QB (sumL l).1
 unfold sumL at h1 ⊢
 by_cases ha:256 < l.length
 · rw [if_pos ha] at h1; cases h1
 · rw [if_neg ha] at h1 ⊢
   by_cases he:errsL l=0
   · rw [if_neg (by simpa using he)] at h1 ⊢
     exact sumG_QB _ _ zero_QB h1
   · rw [if_pos he] at h1; exact absurd h1 he
theorem one_QB:QB ((1:Int):Rat):=by
 refine ⟨?_,?_⟩
 · rw [Rat.num_intCast]
   show (dig 1).length ≤ _
   rw [← one_len]; omega
 · rw [Rat.den_intCast,← one_len]; omega
def oddsE (l:List ByteArray):Int:=if (posL l).2 ≠ 0 then (posL l).2 else if cmpQ (posL l).1 ((1:Int):Rat) ≠ 0 then 3 else 0
set_option maxHeartbeats 3200000 in
set_option maxRecDepth 100000 in
theorem odds_any (v:Value) (l:List ByteArray) (w:World) (htab:TabPow w) (hv:Strs w v l) (hs:∀ s ∈ l,s.size ≤ 9223372036854775806) :
 Calls Tryz.prog 78 #[v] w fun e w' => e=.returned (.int .i64 (oddsE l)) ∧ Ext w w':=by
 have HS:=Lib.hid (positive_any v l w htab hv hs)
 have hqb:=posL_QB (l:=l)
 have hod:oddsE l=if (posL l).2 ≠ 0 then (posL l).2 else if cmpQ (posL l).1 ((1:Int):Rat) ≠ 0 then 3 else 0:=rfl
 rw [hod]
 obtain ⟨ao,c,rfl,hlen,hc⟩:=hv.open
 generalize posL l=S at *
 obtain ⟨q,p⟩:=S
 dsimp only at HS hqb ⊢
 clear hc hv htab hs hod
 by_cases hp:p=0
 · subst hp
   rw [if_neg (by simp)]
   have HQB:=Lib.hid (hqb rfl)
   have HOF:=Lib.hid (fun W => qOf_any 1 W (by omega) (by omega))
   have HCM:=Lib.hid (fun (x y:Value) W hx hy => qCmp_any x y q ((1:Int):Rat) W hx hy HQB.out one_QB)
   rw [show (q.num * ((((1:Int):Rat)).den:Int) - ((((1:Int):Rat)).num) * (q.den:Int)).sign=cmpQ q ((1:Int):Rat) from rfl] at HCM
   generalize cmpQ q ((1:Int):Rat)=z at *
   obtain ⟨rz,hrz⟩:∃ rz:Int,(if z ≠ 0 then 3 else 0)=rz:=⟨_,rfl⟩
   rw [hrz]
   have HRZ:=Lib.hid hrz
   clear hqb hrz
   go_enter Tryz.func78,Tryz.ntmps78
   go_wp2_with fail
   refine HS.out.mono ?_
   rintro e w2 ⟨u2,rfl,h2,X2⟩
   obtain ⟨s2,ao2,l2,c2,bo2,m2,d2,rfl,_,_,_⟩:=h2.opn
   have hown:=World.ownsRow_lit (base:=w2.heap.size) (e:=89) (size:=3) w2 #[.bool s2,.slice ao2 l2 c2,.slice bo2 m2 d2] 1 (Nat.le_refl _) (by unfold maxLen; omega) (by simp)
   have XL:=(Ext.refl w2).alloc (.cells #[.bool s2,.slice ao2 l2 c2,.slice bo2 m2 d2] 89)
   have HQ:=Lib.hid (h2.ext XL)
   clear h2
   go_wp2_with fail
   obtain ⟨W3,hW3⟩:∃ W3,w2.alloc (.cells #[.bool s2,.slice ao2 l2 c2,.slice bo2 m2 d2] 89)=W3:=⟨_,rfl⟩
   rw [hW3] at hown XL HQ ⊢
   have k1:=cell3 hown (j:=0) rfl
   have k2:=cell3 hown (j:=1) rfl
   have k3:=cell3 hown (j:=2) rfl
   clear hW3 hown
   have XA:=X2.trans XL
   go_region_held3 (fun w' => w'.cell? ⟨w2.heap.size,0,none⟩=some (.bool s2) ∧ w'.cell? ⟨w2.heap.size,1,none⟩=some (.slice ao2 l2 c2) ∧ w'.cell? ⟨w2.heap.size,2,none⟩=some (.slice bo2 m2 d2))
    (first | exact ⟨k1,k2,k3⟩ | exact ⟨X5.cell k1,X5.cell k2,X5.cell k3⟩ | exact ⟨X6.cell k1,X6.cell k2,X6.cell k3⟩ | go_keep)
    (first
    | (go_at_call 72; refine (HOF.out _).mono ?_; rintro e w5 ⟨r5,rfl,hr5,Y5⟩; have X5:Ext W3 w5:=(Ext.refl W3).drew.trans Y5; obtain ⟨s15,ao15,l15,c15,bo15,m15,d15,rfl,_,_,_⟩:=hr5.opn; have HR5:=Lib.hid hr5; clear hr5)
    | (go_at_call 108; refine (HCM.out _ _ _ (HQ.out.ext X5) HR5.out).mono ?_; rintro e w6 ⟨rfl,Y6⟩; have X6:Ext W3 w6:=X5.trans Y6))
   all_goals
    by_cases hz:z=0
    · subst hz
      go_wp2_with fail
      go_ret
      exact ⟨by rw [← HRZ.out,if_neg (by simp)]; rfl,XA.trans X6⟩
    · have hzb:(z != 0)=true:=by simp [hz]
      have HZ:=Lib.hid hz
      clear hz
      go_wp2_with fail
      go_ret
      exact ⟨by rw [← HRZ.out,if_pos HZ.out]; rfl,XA.trans X6⟩
 · rw [if_pos hp]
   have hpb:(p != 0)=true:=by simp [hp]
   clear hp hqb
   go_enter Tryz.func78,Tryz.ntmps78
   go_wp2_with fail
   refine HS.out.mono ?_
   rintro e w2 ⟨u2,rfl,h2,X2⟩
   obtain ⟨s2,ao2,l2,c2,bo2,m2,d2,rfl,_,_,_⟩:=h2.opn
   clear h2
   go_wp2_with fail
   go_ret
   exact ⟨rfl,X2.alloc _⟩
theorem info_rat:(Tryz.prog.info? 28).map (fun i => (i.zero,i.size,i.bytes))=some (some (.string ⟨#[]⟩),1,16):=by kernel_rfl
theorem ei_rats:EI Tryz.prog 32 28 (.string ⟨#[]⟩) 1 16:=⟨Tryz.underlying32,info_parts info_rat,rfl,by decide⟩
def outsG:List Rat → Option (List ByteArray)
 | [] => some []
 | q :: t => if fitsB q=true then (outsG t).map (ratT q :: ·) else none
set_option maxHeartbeats 3200000 in
set_option maxRecDepth 100000 in
theorem outAll_any (v:Value) (qs:List Rat) (w:World) (htab:TabPow w) (hv:QsV w v qs) (hl:qs.length ≤ 1000000) :
 Calls Tryz.prog 50 #[v] w fun e w' => Ext w w' ∧ ((outsG qs=none ∧ e=.returned (.tuple #[.slice none 0 0,.int .i64 2])) ∨ ∃ os u,outsG qs=some os ∧ e=.returned (.tuple #[u,.int .i64 0]) ∧ Strs w' u os):=by
 obtain ⟨wo,rfl⟩:∃ wo:World,wo=w:=⟨_,rfl⟩
 obtain ⟨ao4,c4,ts,rfl,hql,htl,hcells,hqv⟩:=hv
 have HC4:=Lib.hid hcells
 have HV4:=Lib.hid hqv
 have HTL:=Lib.hid htl
 have HT:=Lib.hid htab
 clear hcells hqv htl htab
 go_enter Tryz.func50,Tryz.ntmps50
 go_wp2_with fail
 go_loopw [4,11] (fun ov iv wr => ∃ (i:Nat) (os:List ByteArray),i ≤ qs.length ∧ iv=.int .i64 i ∧ wr.ownsRow wo.heap.size 28 1 ov i (os.map Value.string) ∧ Ext wo wr ∧ Hid (outsG qs=(outsG (qs.drop i)).map (os ++ ·))) (fun _ iv _ => qs.length - (intOf iv).toNat)
 case atStart => exact ⟨0,[],Nat.zero_le _,rfl,World.ownsRow_nil _ _ _ _,Ext.refl _,by show _=_; rw [List.drop_zero]; cases outsG qs <;> rfl⟩
 case round =>
  obtain ⟨i,os,hi,rfl,HO,X,HI⟩:=hrel
  by_cases hlt:i < qs.length
  · obtain ⟨tt,t1,_,_⟩:=get_lt (xs:=ts) (k:=i) (by rw [HTL.out]; exact hlt)
    obtain ⟨qq,q1,q2,_⟩:=get_lt hlt
    obtain ⟨g,rfl,e0,e1,e2⟩:=HC4.out i tt t1.out
    have hqq:=(HV4.out i tt qq t1.out q1.out).ext X
    have e0:=X.cell e0
    have e1:=X.cell e1
    have e2:=X.cell e2
    obtain ⟨a1,a2,a3⟩:=tt
    obtain ⟨s5,ao5,l5,c5,bo5,m5,c6,hv5,_,_,_⟩:=hqq.opn
    simp only [TV.v,Value.agg.injEq,Array.mk.injEq,List.cons.injEq,and_true] at hv5
    obtain ⟨rfl,rfl,rfl⟩:=hv5
    dsimp only at e0 e1 e2
    have HQ5:=Lib.hid (show QV wr (.agg #[.bool s5,.slice ao5 l5 c5,.slice bo5 m5 c6]) qq from hqq)
    have hki:(i:Int) < (qs.length:Int):=by omega
    have hi2:=HI.out
    rw [q2.out,outsG] at hi2
    have XL:=(Ext.refl wr).alloc (.cells #[.bool s5,.slice ao5 l5 c5,.slice bo5 m5 c6] 89)
    have HOUT:=Lib.hid (out_any _ qq _ (HQ5.out.ext XL) (tabPow_ext HT.out (X.trans XL)))
    have XA:=X.trans XL
    cases hf:fitsB qq
    · rw [hf,if_neg (by simp),Option.map_none] at hi2
      rw [show outF qq=(⟨#[]⟩,2) from if_neg (by rw [hf]; simp)] at HOUT
      have HI2:=Lib.hid hi2
      clear hqq hf hi2 hlt
      go_wp2_with fail
      refine HOUT.out.mono ?_
      rintro e w3 ⟨rfl,X3⟩
      go_wp2_with fail
      go_ret2
      exact ⟨XA.trans X3,.inl ⟨HI2.out,rfl⟩⟩
    · rw [hf,if_pos rfl] at hi2
      rw [show outF qq=(ratT qq,0) from if_pos hf] at HOUT
      have hi3:outsG qs=(outsG (qs.drop (i + 1))).map ((os ++ [ratT qq]) ++ ·):=by
       rw [hi2]
       cases outsG (qs.drop (i + 1)) <;> simp
      generalize ratT qq=T at *
      have HI2:=Lib.hid hi3
      clear hqq hf hi2 hi3 hlt
      go_wp2_with fail
      refine HOUT.out.mono ?_
      rintro e w3 ⟨rfl,X3⟩
      have HO3:=own_ext HO (XL.trans X3)
      have XB:=XA.trans X3
      have hsz:=XB.size
      go_wp2_with (at_builtin; refine wp_app1 (s:=.tmp 23) (x:=.tmp 25) (y:=.string T) rfl rfl ei_rats HO3 rfl rfl rfl rfl (by omega) (by omega) (by omega) ?_; intro v' w' hown hgrew)
      go_roundw
      case rel => exact ⟨i + 1,os ++ [T],by omega,by go_num,own_cast hown (by simp) rfl,hgrew.extNew XB HO3 (Nat.le_refl _),HI2⟩
      case measure => simp [intOf]; omega
  · have hil:qs.length=i:=by omega
    have hi2:=HI.out
    rw [← hil,List.drop_length,outsG] at hi2
    have HI2:=Lib.hid hi2
    have HR:=Lib.hid (own_rowOf (enc:=Value.string) HO (by omega))
    clear hlt HO hi2
    go_wp2_with fail
    go_ret2
    exact ⟨X,.inr ⟨os,_,by rw [HI2.out]; simp,rfl,HR.out⟩⟩
set_option maxHeartbeats 400000 in
set_option maxRecDepth 100000 in
theorem equal_rats (u v:Value) (xs:List ByteArray) (w:World) (hu:Strs w u xs) (hv:Strs w v xs) :
 Calls Tryz.prog 44 #[u,v] w fun e w' => e=.returned (.bool true) ∧ Ext w w':=by
 obtain ⟨ao,c,rfl,hlen,hc⟩:=hu.open
 obtain ⟨bo,d,rfl,hlen2,hd⟩:=hv.open
 clear hu hv
 have HC:=Lib.hid hc
 have HD:=Lib.hid hd
 clear hc hd
 go_enter Tryz.func44,Tryz.ntmps44
 go_wp2_with fail
 go_loopw [13] (fun i wr => ∃ k:Nat,k ≤ xs.length ∧ i=.int .i64 k ∧ Ext w wr) (fun i _ => xs.length - (intOf i).toNat)
 case atStart => exact ⟨0,Nat.zero_le _,rfl,Ext.refl _⟩
 case round =>
  obtain ⟨k,hk,rfl,HX⟩:=hrel
  by_cases hlt:k < xs.length
  · obtain ⟨x,h1,h2,h3⟩:=get_lt hlt
    obtain ⟨b,off,rfl,_⟩:=HC.out.at h1
    have hcell:=(HC.out.ext HX).at' h1
    obtain ⟨b2,off2,rfl,_⟩:=HD.out.at h1
    have hcell2:=(HD.out.ext HX).at' h1
    have hki:(k:Int) < (xs.length:Int):=by omega
    have hx1:(x.toList != x.toList)=false:=by simp
    have hx2:(x.toList == x.toList)=true:=by simp
    clear hlt
    go_wp2_with fail
    go_quiet (fail)
    go_wp2_with fail
    go_roundw
    case rel => exact ⟨k + 1,by omega,by go_num,HX.drewN _⟩
    case measure => simp [intOf]; omega
  · have hki:(xs.length:Int) ≤ (k:Int):=by omega
    clear hlt
    go_wp2_with fail
    go_ret
    exact ⟨rfl,HX⟩
end Go.Proofs.YtcggohkbmhdohaaGreatDoor
