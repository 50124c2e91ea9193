/- texts merged: CvI CvQ CvJ CvK CvL CvP -/
import Derived.Test.YtcggohkbmhdohaaGreatDoorCvEH
import Derived.Test.YtcggohkbmhdohaaGreatDoorRpMO
namespace Go.Proofs.YtcggohkbmhdohaaGreatDoor
open Go.RowKit
set_option linter.unusedVariables false
def oddM (M:List (List Rat)) (k c:Nat):Rat:=(M.getD k []).getD c 0
def wgtM (M:List (List Rat)) (l:List Nat):Nat → Rat
 | 0 => 1
 | k + 1 => wgtM M l k * oddM M k (l.getD k 0)
def wgtS (S:List Ch) (l:List Nat):Rat:=wgtM (S.map fun x => x.2.map ratOf) l l.length
def mixF (f:List Nat → Rat):List (List Nat) → Int
 | [] => 0
 | l :: t => if f l=0 then mixF f t else if (outF (f l)).2 ≠ 0 then (outF (f l)).2 else mixF f t
def mixP (f:List Nat → Rat):List (List Nat) → List Pl
 | [] => []
 | l :: t => if f l=0 then mixP f t else (intsN l,(outF (f l)).1) :: mixP f t
theorem mixP_app (f:List Nat → Rat):∀ a b,mixP f (a ++ b)=mixP f a ++ mixP f b
 | [],b => rfl
 | l :: t,b => by
   rw [List.cons_append,mixP,mixP]
   split
   · exact mixP_app f t b
   · rw [mixP_app f t b,List.cons_append]
theorem mixP_take {f:List Nat → Rat} {P:List (List Nat)} {j:Nat} {l:List Nat} (h:P[j]?=some l):mixP f (P.take (j + 1))=mixP f (P.take j) ++ if f l=0 then [] else [(intsN l,(outF (f l)).1)]:=by
 obtain ⟨h1,h2⟩:=List.getElem?_eq_some_iff.1 h
 rw [List.take_succ_eq_append_getElem h1,h2,mixP_app]
 rfl
def purN (ws:List Nat):List (List Nat):=(List.range (prodL ws)).map (pureN ws)
theorem purs_map (ws:List Nat):pursL ws (prodL ws)=(purN ws).map intsN:=by
 unfold pursL purN
 rw [List.map_map]
 rfl
theorem purN_len (ws:List Nat):(purN ws).length=prodL ws:=by unfold purN; rw [List.length_map,List.length_range]
theorem pur_len {ws l:List Nat} (h:l ∈ purN ws):l.length=ws.length:=by
 obtain ⟨n,_,rfl⟩:=List.mem_map.1 h
 exact pureN_len ws n
theorem pur_lt {ws l:List Nat} (hp:∀ x ∈ ws,0 < x) (h:l ∈ purN ws) {i a b:Nat} (ha:l[i]?=some a) (hb:ws[i]?=some b):a < b:=by
 obtain ⟨n,_,rfl⟩:=List.mem_map.1 h
 exact pureN_lt ha hb (hp b (List.mem_of_getElem? hb))
theorem wgtM_RB {m:Nat} {M:List (List Rat)} (hm:1 ≤ m) (hM:∀ r ∈ M,∀ q ∈ r,RB m q) (l:List Nat):∀ k,RB (m * k + 1) (wgtM M l k)
 | 0 => by rw [Nat.mul_zero]; exact RB_1
 | k + 1 => by
   have h1:RB m (oddM M k (l.getD k 0)):=by
    unfold oddM
    rw [List.getD_eq_getElem?_getD (l:=M)]
    cases hr:M[k]? with
    | none => exact RB_zero.mono (by omega)
    | some r =>
      show RB m (r.getD _ 0)
      rw [List.getD_eq_getElem?_getD]
      cases hq:r[l.getD k 0]? with
      | none => exact RB_zero.mono (by omega)
      | some q => exact hM r (List.mem_of_getElem? hr) q (List.mem_of_getElem? hq)
   rw [wgtM]
   exact (RB_mul (wgtM_RB hm hM l k) h1).mono (by rw [Nat.mul_succ]; omega)
def MxdPost (T:List Nd) (p:Int) (S:List Ch) (u:Value) (w w':World):Prop:=Ext w w' ∧ ((playerE T p ≠ 0 ∧ u=.tuple #[.slice none 0 0,.int .i64 (playerE T p)]) ∨
 (playerE T p=0 ∧ strategyE T p S ≠ 0 ∧ u=.tuple #[.slice none 0 0,.int .i64 (strategyE T p S)]) ∨
 (playerE T p=0 ∧ strategyE T p S=0 ∧ fewB 128 (widthsT T p)=false ∧ u=.tuple #[.slice none 0 0,.int .i64 2]) ∨
 (playerE T p=0 ∧ strategyE T p S=0 ∧ fewB 128 (widthsT T p)=true ∧ mixF (wgtS S) (purN (widthsT T p)) ≠ 0 ∧ u=.tuple #[.slice none 0 0,.int .i64 (mixF (wgtS S) (purN (widthsT T p)))]) ∨
 (playerE T p=0 ∧ strategyE T p S=0 ∧ fewB 128 (widthsT T p)=true ∧ mixF (wgtS S) (purN (widthsT T p))=0 ∧ ∃ a,u=.tuple #[a,.int .i64 0] ∧ PlnIn w' a (mixP (wgtS S) (purN (widthsT T p)))))
theorem info_cp:(Tryz.prog.info? 62).map (fun i => (i.zero,i.size,i.bytes))=some (some (.agg #[.slice none 0 0,.string ⟨#[]⟩]),2,40):=by kernel_rfl
theorem ei_cp:EI Tryz.prog 56 62 (.agg #[.slice none 0 0,.string ⟨#[]⟩]) 2 40:=⟨Tryz.underlying56,info_parts info_cp,by decide,by decide⟩
def flatPl:List (Pl × Value) → List Value
 | [] => []
 | p :: t => p.2 :: .string p.1.2 :: flatPl t
theorem flatPl_app:∀ (a b:List (Pl × Value)),flatPl (a ++ b)=flatPl a ++ flatPl b
 | [],b => rfl
 | p :: t,b => by rw [List.cons_append,flatPl,flatPl_app t b]; rfl
theorem flatPl_get:∀ (L:List (Pl × Value)) (i:Nat) (p:Pl × Value),L[i]?=some p → (flatPl L)[i * 2]?=some p.2 ∧ (flatPl L)[i * 2 + 1]?=some (.string p.1.2)
 | [],i,p,h => by simp at h
 | q :: t,0,p,h => by
   obtain rfl:=Option.some.inj h
   exact ⟨rfl,rfl⟩
 | q :: t,i + 1,p,h => by
   have:=flatPl_get t i p (by simpa using h)
   rw [show (i + 1) * 2=i * 2 + 2 by omega]
   exact this
structure PlO (w:World) (B:Nat) (v:Value) (L:List (Pl × Value)):Prop where
 row:w.ownsRow B 62 2 v L.length (flatPl L)
 rd:∀ p ∈ L,RowX v.ownBlock w p.2 (p.1.1.map (Value.int .i64))
theorem PlO.nil (w:World) (B:Nat):PlO w B (.slice none 0 0) []:=⟨World.ownsRow_nil _ _ _ _,fun p hp => by cases hp⟩
theorem PlO.ext {w w':World} {B:Nat} {v:Value} {L:List (Pl × Value)} (h:PlO w B v L) (hx:Ext w w'):PlO w' B v L :=
 ⟨own_ext h.row hx,fun p hp => (h.rd p hp).ext hx⟩
theorem PlO.grew {w w':World} {B:Nat} {v v':Value} {L:List (Pl × Value)} {p:Pl × Value} (h:PlO w B v L) (ho:w'.ownsRow B 62 2 v' (L.length + 1) (flatPl L ++ [p.2,.string p.1.2])) (hg:Grew w v w' v')
 (h1:RowX v.ownBlock w p.2 (p.1.1.map (Value.int .i64))):PlO w' B v' (L ++ [p]):=by
 refine ⟨by rw [List.length_append,List.length_singleton,flatPl_app]; exact ho,fun q hq => ?_⟩
 rcases List.mem_append.1 hq with h' | h'
 · exact hg.row (h.rd q h')
 · rw [List.mem_singleton.1 h']; exact hg.row h1
theorem PlO.lt {w:World} {B:Nat} {v:Value} {L:List (Pl × Value)} (h:PlO w B v L):∀ k,v.ownBlock=some k → B ≤ k ∧ k < w.heap.size:=fun k hk => h.row.lt k hk
theorem plnIn_nil (w:World):PlnIn w (.slice none 0 0) []:=⟨none,0,rfl,Nat.le_refl _,fun _ => rfl,by decide,fun i x hx => by simp at hx⟩
theorem PlO.toIn {w:World} {B:Nat} {v:Value} {L:List (Pl × Value)} (h:PlO w B v L) (hl:L.length ≤ 1000000):PlnIn w v (L.map (·.1)):=by
 rcases h.row.2 with ⟨rfl,h0⟩ | ⟨g,cap,cur,rfl,hb,hg,hc,_,hcs,ht⟩
 · have:L=[]:=List.eq_nil_of_length_eq_zero h0
   subst this
   exact plnIn_nil w
 · refine ⟨some ⟨g,0,none⟩,cap,by rw [List.length_map],by rw [List.length_map]; exact hc,(fun e => by cases e),by rw [List.length_map]; omega,fun i x hx => ?_⟩
   rw [List.getElem?_map] at hx
   obtain ⟨p,hp,rfl⟩:=Option.map_eq_some_iff.1 hx
   obtain ⟨p0,p1⟩:=flatPl_get L i p hp
   have k0:=h.row.cells (g:=g) rfl _ _ p0
   have k1:=h.row.cells (g:=g) rfl _ _ p1
   rw [Addr.add_lit,Nat.zero_add] at k0 k1
   exact ⟨g,0,p.2,rfl,by rw [Nat.zero_add]; exact k0,by rw [Nat.zero_add]; exact k1,(h.rd p (List.mem_of_getElem? hp)).1⟩
theorem own_QsO {w:World} {B:Nat} {v:Value} {n:Nat} {ts:List TV} {qs:List Rat} (h:w.ownsRow B 89 3 v n (flatT ts)) (hc:Clean w v) (hl:qs.length=n) (ht:ts.length=n) (hq:∀ (i:Nat) t q,ts[i]?=some t → qs[i]?=some q → QV w t.v q):QsO w B v qs:=by
 subst hl
 exact ⟨ts,h,hc,ht,hq⟩
theorem QsO.isSlice {w:World} {B:Nat} {v:Value} {qs:List Rat} (h:QsO w B v qs):∃ po pc,v=.slice po qs.length pc:=by
 obtain ⟨ts,h1,_⟩:=h
 rcases h1.2 with ⟨h1,h2⟩ | ⟨g2,cap2,cur,e,_⟩
 · exact ⟨none,0,by rw [h1,h2]⟩
 · exact ⟨_,_,e⟩
set_option maxHeartbeats 1600000 in
set_option maxRecDepth 100000 in
theorem ratIn_own (v:Value) (l:List ByteArray) (w:World) (hv:Strs w v l) (hok:∀ s ∈ l,RatOk s ∧ s.size ≤ 9223372036854775806) (hl:l.length ≤ 1000000) :
 Calls Tryz.prog 85 #[v] w fun e w' => ∃ u,e=.returned u ∧ QsO w' w.heap.size u (l.map ratOf) ∧ Ext w w':=by
 obtain ⟨wo,rfl⟩:∃ wo:World,wo=w:=⟨_,rfl⟩
 obtain ⟨ao,c,rfl,hlen,hc⟩:=hv.open
 have HC:=Lib.hid hc
 have HOK:=Lib.hid hok
 clear hc hok hv
 go_enter Tryz.func85,Tryz.ntmps85
 go_wp2_with fail
 go_loopw [3,8] (fun ov iv wr => ∃ (i:Nat) (ts:List TV),i ≤ l.length ∧ iv=.int .i64 i ∧ wr.ownsRow wo.heap.size 89 3 ov i (flatT ts) ∧ Clean wr ov ∧ Hid (ts.length=i) ∧ Hid (∀ (j:Nat) t q,ts[j]?=some t → (l.map ratOf)[j]?=some q → QV wr t.v q) ∧ Ext wo wr) (fun _ iv _ => l.length - (intOf iv).toNat)
 case atStart => exact ⟨0,[],Nat.zero_le _,rfl,World.ownsRow_nil _ _ _ _,Clean.nil _,rfl,fun j t q h => by simp at h,Ext.refl _⟩
 case round =>
  obtain ⟨i,ts,hi,rfl,HO,HCL,HTL,HQ,X⟩:=hrel
  by_cases hlt:i < l.length
  · obtain ⟨s,d1,d2,d3⟩:=get_lt hlt
    obtain ⟨b,off,rfl,hc0⟩:=(HC.out.ext X).at d1
    have hcell:wr.cell? ⟨b,off + i,none⟩=some (.string s):=hc0
    have hki:(i:Int) < (l.length:Int):=by omega
    obtain ⟨ho1,ho2⟩:=HOK.out s (List.mem_of_getElem? d1.out)
    have HP:=Lib.hid (fun W => parse_any s W ho1 ho2)
    have HEL:Hid ((l.map ratOf)[i]?=some (ratOf s)):=by show _=_; rw [List.getElem?_map,d1.out]; rfl
    generalize ratOf s=q at *
    clear hc0 ho1 ho2 hlt
    go_wp2_with fail
    refine (HP.out _).mono ?_
    rintro e w4 ⟨u4,rfl,h4,X4⟩
    obtain ⟨s5,ao5,l5,c5,bo5,m5,c6,rfl,_,_,_⟩:=h4.opn
    have HO4:=own_ext HO X4
    have HC4:=HCL.ext X4
    have HQ4:=Lib.hid h4
    have XA:=X.trans X4
    have hsz:=XA.size
    clear h4 HO HCL
    go_wp2_with (at_builtin; refine wp_app3 (s:=.tmp 12) (x:=.tmp 15) rfl rfl ei_q zc_q HO4 HC4 rfl rfl rfl rfl rfl rfl (by intro y hy d; simp at hy; rcases hy with rfl | rfl | rfl <;> simp [encD]) (by omega) (by omega) (by omega) ?_; intro v' w' hown hgrew hclean)
    have HQ6:Hid (∀ (j:Nat) t q,(ts ++ [((.bool s5,.slice ao5 l5 c5,.slice bo5 m5 c6):TV)])[j]?=some t → (l.map ratOf)[j]?=some q → QV w' t.v q):=by
     intro j t q2 hj hq2
     rcases Nat.lt_or_ge j i with hji | hji
     · rw [List.getElem?_append_left (by rw [HTL.out]; exact hji)] at hj
       exact HC4.keptQ hgrew.by' ((HQ.out j t q2 hj hq2).ext X4)
     · rw [List.getElem?_append_right (by rw [HTL.out]; exact hji),HTL.out] at hj
       have hj0:j - i=0:=by
        have:=(List.getElem?_eq_some_iff.1 hj).1
        simp at this
        omega
       rw [hj0] at hj
       simp only [List.getElem?_cons_zero,Option.some.injEq] at hj
       subst hj
       have:j=i:=by omega
       subst this
       rw [HEL.out] at hq2
       cases hq2
       exact HC4.keptQ hgrew.by' HQ4.out
    go_roundw
    case rel => exact ⟨i + 1,ts ++ [(.bool s5,.slice ao5 l5 c5,.slice bo5 m5 c6)],by omega,by go_num,own_cast hown (by rw [flatT_app]) rfl,hclean,by show _=_; rw [List.length_append,HTL.out]; rfl,HQ6,hgrew.extNew XA HO4 (Nat.le_refl _)⟩
    case measure => simp [intOf]; omega
  · have hil:l.length=i:=by omega
    have HR:=Lib.hid (own_QsO (qs:=l.map ratOf) HO HCL (by rw [List.length_map]; exact hil) HTL.out HQ.out)
    clear hlt HCL HO
    go_wp2_with fail
    go_ret
    exact ⟨_,rfl,HR.out,X⟩
structure QqR (w:World) (B:Nat) (v:Value) (us:List Value) (M:List (List Rat)):Prop where
 own:w.ownsRow B 92 1 v M.length us
 cl:Clean w v
 len:us.length=M.length
 row:∀ (i:Nat) u qs,us[i]?=some u → M[i]?=some qs → QsO w B u qs
 awy:∀ (i:Nat) u,us[i]?=some u → Away w u v
 dis:∀ (i j:Nat) u u',us[i]?=some u → us[j]?=some u' → i ≠ j → u.ownBlock=none ∨ u.ownBlock ≠ u'.ownBlock
def QqO (w:World) (B:Nat) (v:Value) (M:List (List Rat)):Prop:=∃ us,QqR w B v us M
theorem QqO.nil (w:World) (B:Nat):QqO w B (.slice none 0 0) []:=⟨[],World.ownsRow_nil _ _ _ _,Clean.nil _,rfl,fun i u zs h => by simp at h,fun i u h => by simp at h,fun i j u u' h => by simp at h⟩
theorem QqO.ext {w w':World} {B:Nat} {v:Value} {M:List (List Rat)} (h:QqO w B v M) (hx:Ext w w'):QqO w' B v M:=by
 obtain ⟨us,h⟩:=h
 exact ⟨us,own_ext h.own hx,h.cl.ext hx,h.len,fun i u zs a b => (h.row i u zs a b).ext hx,fun i u a => (h.awy i u a).ext hx,h.dis⟩
theorem QqO.lt {w:World} {B:Nat} {v:Value} {M:List (List Rat)} (h:QqO w B v M):∀ k,v.ownBlock=some k → B ≤ k ∧ k < w.heap.size:=by
 obtain ⟨us,h⟩:=h
 exact fun k hk => h.own.lt k hk
theorem QqO.grew {w0 w w':World} {B:Nat} {v v':Value} {M:List (List Rat)} (h:QqO w B v M) (hg:Grew w v w' v') (he:Ext w0 w) (hB:w0.heap.size ≤ B):Ext w0 w' :=
 hg.ext he (fun k hk => Nat.le_trans hB (h.lt k hk).1)
theorem QqO.new {w w':World} {B:Nat} {v u:Value} {M:List (List Rat)} {qs:List Rat} (h:QqO w B v M) (hx:Ext w w') (hu:QsO w' w.heap.size u qs):∃ us,QqR w' B v us M ∧ Away w' u v ∧ ∀ (i:Nat) u',us[i]?=some u' → u.ownBlock=none ∨ u.ownBlock ≠ u'.ownBlock:=by
 obtain ⟨us,h⟩:=h
 refine ⟨us,⟨own_ext h.own hx,h.cl.ext hx,h.len,fun i u zs a b => (h.row i u zs a b).ext hx,fun i u a => (h.awy i u a).ext hx,h.dis⟩,fun k hk => ⟨(hu.lt k hk).2,fun e => by have:=(hu.lt k hk).1; have:=(h.own.lt k e).2; omega⟩,fun i u' hi => ?_⟩
 cases hb:u.ownBlock with
 | none => exact .inl rfl
 | some k =>
   refine .inr fun e => ?_
   have h1:=(hu.lt k hb).1
   have h2:=(h.awy i u' hi k e.symm).1
   omega
theorem wp_appQq {rest:List Oper} {oa:Array Oper} {o:Oper} {a:Act} {Q:Exit → Act → World → Prop} {W:World} {yo:Option Addr} {yl yc:Nat} (hg:o.guard=none) {sl x:Operand}
 (ho:o.op=.call { callee:=.builtin .append,args:=#[sl,x],argTypes:=#[125,125] }) {B:Nat} {v:Value} {M:List (List Rat)} {qs:List Rat} (hO:QqO W B v M) (hz:QsO W B (.slice yo yl yc) qs)
 (hN:∃ us,QqR W B v us M ∧ Away W (.slice yo yl yc) v ∧ ∀ (i:Nat) u',us[i]?=some u' → (Value.slice yo yl yc).ownBlock=none ∨ (Value.slice yo yl yc).ownBlock ≠ u'.ownBlock)
 (hs:a.eval sl=v) {k:Nat} (hx:a.eval x=.slice (some ⟨k,0,none⟩) 1 1) (hk:k=W.heap.size) (hlen:M.length ≤ 1000000) (hB:B ≤ W.heap.size)
 (h:∀ v' w',QqO w' B v' (M ++ [qs]) → Grew W v w' v' → Clean W v → wpList Tryz.prog oa Q rest (a.put o.dst v') w'):wpList Tryz.prog oa Q (o :: rest) a (W.alloc (.cells #[.slice yo yl yc] 92)):=by
 obtain ⟨us,hR,haw,hd⟩:=hN
 refine wp_app1c hg ho ei_qs zc_qs hR.own hR.cl hs hx hk rfl (by intro d; simp [encD]) (by omega) (by omega) hB ?_
 intro v' w' hown hgrew hclean
 have hlen:=hR.len
 have kp:∀ {u:Value} {zs:List Rat},QsO W B u zs → Away W u v → QsO w' B u zs:=fun hz hn => QsO.kept hR.cl hgrew.by' hz hn.ne
 refine h v' w' ⟨us ++ [.slice yo yl yc],?_,hclean,by simp [hR.len],fun i u z2 hi hz2 => ?_,fun i u hi => ?_,fun i j u u2 hi hj hij => ?_⟩ hgrew hR.cl
 · rw [List.length_append]; exact hown
 · rcases Nat.lt_or_ge i us.length with hlt | hge
   · rw [List.getElem?_append_left (by omega)] at hi hz2
     exact kp (hR.row i u z2 hi hz2) (hR.awy i u hi)
   · rw [List.getElem?_append_right (by omega)] at hi hz2
     have e1:i - us.length=0:=by have:=(List.getElem?_eq_some_iff.1 hi).1; simp at this; omega
     have e2:i - M.length=0:=by omega
     rw [e1] at hi
     rw [e2] at hz2
     simp only [List.getElem?_cons_zero,Option.some.injEq] at hi hz2
     subst hi
     subst hz2
     exact kp hz haw
 · rcases Nat.lt_or_ge i us.length with hlt | hge
   · rw [List.getElem?_append_left (by omega)] at hi
     exact (hR.awy i u hi).grew hgrew
   · rw [List.getElem?_append_right (by omega)] at hi
     have e1:i - us.length=0:=by have:=(List.getElem?_eq_some_iff.1 hi).1; simp at this; omega
     rw [e1] at hi
     simp only [List.getElem?_cons_zero,Option.some.injEq] at hi
     subst hi
     exact haw.grew hgrew
 · have one:∀ {x:Nat} {y:Value},(us ++ [Value.slice yo yl yc])[x]?=some y → (x < us.length ∧ us[x]?=some y) ∨ (x=us.length ∧ y=.slice yo yl yc):=by
    intro x y hxy
    rcases Nat.lt_or_ge x us.length with hlt | hge
    · rw [List.getElem?_append_left (by omega)] at hxy
      exact .inl ⟨hlt,hxy⟩
    · rw [List.getElem?_append_right (by omega)] at hxy
      have e1:x - us.length=0:=by have:=(List.getElem?_eq_some_iff.1 hxy).1; simp at this; omega
      rw [e1] at hxy
      simp only [List.getElem?_cons_zero,Option.some.injEq] at hxy
      exact .inr ⟨by omega,hxy.symm⟩
   rcases one hi with ⟨a1,b1⟩ | ⟨a1,b1⟩ <;> rcases one hj with ⟨a2,b2⟩ | ⟨a2,b2⟩
   · exact hR.dis i j u u2 b1 b2 hij
   · subst b2
     rcases hd i u b1 with e | e
     · cases hu:u.ownBlock with
       | none => exact .inl rfl
       | some k => exact .inr (by rw [e]; simp)
     · exact .inr fun e2 => e e2.symm
   · subst b1
     exact hd j u2 b2
   · omega
set_option linter.unusedSimpArgs false
set_option maxHeartbeats 6400000 in
set_option maxRecDepth 100000 in
theorem mixed_ok (v o:Value) (T:List Nd) (p:Int) (S:List Ch) (w:World) (htab:TabPow w) (hPE:playerE T p=0) (hS:strategyE T p S=0) (hv:TreeIn w v T) (hz:TreeSz T) (ho:StrIn w o S) (hzs:StrSz S) :
 Calls Tryz.prog 36 #[v,.int .i64 p,o] w fun e w' => ∃ u,e=.returned u ∧ MxdPost T p S u w w':=by
 obtain ⟨hT,hp⟩:=valid_player hPE
 have HI:=Lib.hid (treeInfos_any v T p w htab hv hz)
 have HST:=Lib.hid (fun W (hX:Ext w W) => strategy_any v o T p S W (tabPow_ext htab hX) (hv.ext hX) hT (ho.ext hX) hzs)
 rw [hS] at HST
 have HAL:=Lib.hid (fun (b:Value) W (hb:Ints W b (intsN (widthsT T p))) => cvAll_any b (widthsT T p) W hb (widths_bd hT p) (by rw [widths_len]; exact infos_len T p))
 have HF2:=Lib.hid (setsP_snd hT p)
 have HE:=Lib.hid hPE
 have HSE:=Lib.hid hS
 have HTB:=Lib.hid htab
 have HO1:=Lib.hid (fun W => qOf_any 1 W (by omega) (by omega))
 have HOK:Hid (∀ x ∈ S,∀ s ∈ x.2,RatOk s ∧ s.size ≤ 9223372036854775806):=fun x hx s hs => ⟨oddsE_ok ((strE_zero hS).2 x hx).2 s hs,hzs x hx s hs⟩
 have HLL:Hid (∀ x ∈ S,x.2.length ≤ 6):=fun x hx => by rw [((strE_zero hS).2 x hx).1]; exact widthT_le hT p x.1
 have hsl:S.length ≤ 10:=by
  have h:=congrArg List.length (strE_zero hS).1
  rw [List.length_map] at h
  rw [h]; exact infos_len T p
 have HRB:Hid (∀ r ∈ (S.map fun x => x.2.map ratOf),∀ q ∈ r,RB 2000 q):=fun r hr q hq => by
  obtain ⟨x,hx,rfl⟩:=List.mem_map.1 hr
  obtain ⟨s,hs,rfl⟩:=List.mem_map.1 hq
  exact ratOf_RB2k (HOK.out x hx s hs).1
 have HPX:Hid (∀ l ∈ purN (widthsT T p),l.length=S.length ∧ ∀ (k a:Nat) (x:Ch),l[k]?=some a → S[k]?=some x → a < x.2.length):=fun l hl => by
  obtain ⟨h1,h2⟩:=strE_zero hS
  refine ⟨?_,fun k a x ha hx => ?_⟩
  · rw [pur_len hl,widths_len,← h1,List.length_map]
  · refine pur_lt (widths_pos T p) hl ha ?_
    unfold widthsT
    rw [List.getElem?_map,← h1,List.getElem?_map,hx,(h2 x (List.mem_of_getElem? hx)).1]
    rfl
 obtain ⟨vo,vc,rfl,_,_⟩:=hv.open
 obtain ⟨so,sc,rfl,_,hso⟩:=ho.open
 have HSO:=Lib.hid hso
 clear hPE hS hT hp hv hz ho hzs htab hso
 go_enter Tryz.func36,Tryz.ntmps36
 go_wp2_with fail
 refine HI.out.mono ?_
 rintro e w2 ⟨u2,rfl,h2⟩
 unfold InfosPost at h2
 rw [HE.out] at h2
 obtain ⟨X2,⟨h,_⟩ | ⟨_,a,b,rfl,_,hb⟩⟩:=h2
 · exact absurd rfl h
 rw [HF2.out,widths_ints] at hb
 go_wp2_with fail
 refine (HST.out _ X2).mono ?_
 rintro e w3 ⟨rfl,X3⟩
 have HAL:=Lib.hid (HAL.out b w3 (hb.ext X3))
 obtain ⟨bo,bc,rfl,_,_⟩:=hb.open
 have HX3:=Lib.hid (X2.trans X3)
 clear hb X2 X3 HI HST
 go_wp2_with fail
 refine HAL.out.mono ?_
 rintro e w4 ⟨u4,rfl,h4⟩
 unfold AllPost at h4
 obtain ⟨X4,⟨hf,rfl⟩ | ⟨hf,a4,rfl,hr⟩⟩:=h4
 · have HF:=Lib.hid hf
   clear hf
   go_wp2_with fail
   go_ret2
   refine ⟨_,rfl,?_⟩
   unfold MxdPost
   exact ⟨HX3.out.trans X4,.inr (.inr (.inl ⟨HE.out,HSE.out,HF.out,rfl⟩))⟩
 have HF:=Lib.hid hf
 rw [purs_map] at hr
 obtain ⟨us,hus,hul,hel⟩:=hr
 obtain ⟨ao,ac,rfl,_,hlen4,_,hc4⟩:=hus
 have HC4:=Lib.hid hc4
 have HEL:=Lib.hid hel
 rw [List.length_map] at hul
 have HUL:=Lib.hid hul
 have HX4:=Lib.hid (HX3.out.trans X4)
 clear hf hel hc4 X4 HAL
 go_wp2_with fail
 go_loopw [14,51] (fun ov iv wr => ∃ (i:Nat),i ≤ S.length ∧ iv=.int .i64 i ∧ Hid (QqO wr w4.heap.size ov ((S.take i).map fun x => x.2.map ratOf)) ∧ Ext w4 wr) (fun _ iv _ => S.length - (intOf iv).toNat)
 case atStart => exact ⟨0,Nat.zero_le _,rfl,QqO.nil _ _,Ext.refl _⟩
 case round =>
  obtain ⟨i,hi,rfl,HO,X⟩:=hrel
  obtain ⟨wq,rfl⟩:∃ wq:World,wq=wr:=⟨_,rfl⟩
  by_cases hlt:i < S.length
  · obtain ⟨x,q1,q2,q3⟩:=get_lt hlt
    obtain ⟨b,off,oo,oc,rfl,c0,c1,hod⟩:=(HSO.out.ext (HX4.out.trans X)).at q1
    have hlm:=List.mem_of_getElem? q1.out
    have hki:(i:Int) < (S.length:Int):=by omega
    have hll6:=HLL.out x hlm
    have HML:Hid (((S.take i).map fun x => x.2.map ratOf).length ≤ 1000000):=by show _ ≤ _; rw [List.length_map,List.length_take]; omega
    have HTK:Hid (((S.take (i + 1)).map fun x => x.2.map ratOf)=((S.take i).map fun x => x.2.map ratOf) ++ [x.2.map ratOf]):=by show _=_; rw [q3.out,List.map_append]; rfl
    obtain ⟨M1,hM1⟩:∃ M1,((S.take i).map fun x => x.2.map ratOf)=M1:=⟨_,rfl⟩
    rw [hM1] at HML HTK HO
    obtain ⟨T7,hT7⟩:∃ T7,wq.heap.size=T7:=⟨_,rfl⟩
    obtain ⟨W1,hW1⟩:∃ W1,wq.alloc (.cells #[.int .i64 x.1,.slice oo x.2.length oc] 73)=W1:=⟨_,rfl⟩
    have X1:Ext wq W1:=by rw [← hW1]; exact (Ext.refl wq).alloc _
    have y1:W1.cell? ⟨T7,1,none⟩=some (.slice oo x.2.length oc):=by rw [← hW1,← hT7]; simp [go_sem]
    have HIN:=Lib.hid (ratIn_own (.slice oo x.2.length oc) x.2 W1 (hod.ext X1) (fun s hs => HOK.out x hlm s hs) (by omega))
    have HO1':=Lib.hid (HO.out.ext X1)
    have XX:=Lib.hid (X.trans X1)
    obtain ⟨qs,hqs⟩:∃ qs,x.2.map ratOf=qs:=⟨_,rfl⟩
    rw [hqs] at HIN HTK
    clear hod q1 q2 q3 hlt hlm hM1 hqs X1 X HO
    go_wp2_with fail
    clear hT7 hW1
    refine HIN.out.mono ?_
    rintro e w5 ⟨u5,rfl,h5,X5⟩
    obtain ⟨yo,yc,rfl⟩:=h5.isSlice
    have HO4:=HO1'.out.ext X5
    have h5':=h5.mono XX.out.size
    have hnew:=HO1'.out.new X5 h5
    have XA:=XX.out.trans X5
    have hsz:=XA.size
    clear HO1' c0 c1 y1
    go_wp2_with (at_builtin; refine wp_appQq (sl:=.tmp 55) (x:=.tmp 59) rfl rfl HO4 h5' hnew rfl rfl rfl HML.out hsz ?_; intro v' w' hown hgrew hclean)
    have HGE:=Lib.hid (QqO.grew HO4 hgrew XA (Nat.le_refl _))
    rw [← HTK.out] at hown
    have HOW:=Lib.hid hown
    go_roundw
    case rel => exact ⟨i + 1,by omega,by go_num,HOW,HGE.out⟩
    case measure => simp [intOf] <;> omega
  · have hie:i=S.length:=by omega
    have hge:¬ (i:Int) < (S.length:Int):=by omega
    have hqq:=HO.out
    rw [hie,List.take_length] at hqq
    obtain ⟨M,hM⟩:∃ M,(S.map fun x => x.2.map ratOf)=M:=⟨_,rfl⟩
    have HM:=Lib.hid hM
    rw [hM] at hqq HRB
    have HQQ:=Lib.hid hqq
    have HXQ:=Lib.hid X
    clear hlt hqq HO hM
    go_wp2_with fail
    have hN128:us.length ≤ 128:=by
     rw [HUL.out,purN_len]
     have:=HF.out
     unfold fewB at this
     exact of_decide_eq_true this
    obtain ⟨P,hP⟩:∃ P,purN (widthsT T p)=P:=⟨_,rfl⟩
    have HPP:=Lib.hid hP
    rw [hP] at HPX HUL HEL
    obtain ⟨f,hf9⟩:∃ f,wgtS S=f:=⟨_,rfl⟩
    have HFF:=Lib.hid hf9
    have HFW:Hid (∀ l,f l=wgtM M l l.length):=fun l => by rw [← hf9,← HM.out]; rfl
    have HMS:Hid (∀ (k:Nat) (x:Ch),S[k]?=some x → M[k]?=some (x.2.map ratOf)):=fun k x h => by rw [← HM.out,List.getElem?_map,h]; rfl
    obtain ⟨FF,hFF⟩:∃ FF,mixF f P=FF:=⟨_,rfl⟩
    have HFQ:=Lib.hid hFF
    have HF0:Hid (mixF f (P.drop 0)=FF):=hFF
    have hbq:w4.heap.size ≤ wq.heap.size:=HXQ.out.size
    have hMl:M.length=S.length:=by rw [← HM.out,List.length_map]
    have HML2:=Lib.hid hMl
    clear hP hf9 hFF hMl
    go_loopw [17,64] (fun ov jv wr => ∃ (j:Nat) (R:List (Pl × Value)),j ≤ us.length ∧ jv=.int .i64 j ∧ Hid (R.map (·.1)=mixP f (P.take j)) ∧ Hid (R.length ≤ j) ∧ Hid (PlO wr wq.heap.size ov R) ∧ Hid (mixF f (P.drop j)=FF) ∧ Ext wq wr) (fun _ jv _ => us.length - (intOf jv).toNat)
    case atStart => exact ⟨0,[],Nat.zero_le _,rfl,rfl,Nat.le_refl _,PlO.nil _ _,HF0,Ext.refl _⟩
    case round =>
     clear HF0
     obtain ⟨j,R,hj,rfl,HR,HRL,HO,HFJ,Y⟩:=hrel
     obtain ⟨wy,rfl⟩:∃ wy:World,wy=wr:=⟨_,rfl⟩
     by_cases hlt:j < us.length
     · obtain ⟨u,d1,d2,d3⟩:=get_lt hlt
       obtain ⟨l,q1,q2,q3⟩:=get_lt (xs:=P) (k:=j) (by rw [← HUL.out]; exact hlt)
       have hlm:=List.mem_of_getElem? q1.out
       obtain ⟨pb,poff,rfl,p00⟩:=(HC4.out.ext (HXQ.out.trans Y)) j u d1.out
       have p0:wy.cell? ⟨pb,poff + j,none⟩=some u:=p00
       clear p00
       have hrow:=HEL.out j u (intsN l) d1.out (by rw [List.getElem?_map,q1.out]; rfl)
       have HRX:Hid (RowX u17.ownBlock w4 u ((intsN l).map (Value.int .i64))):=Row.away hrow (fun k hk => by
        have:=(HO.out.lt k hk).1
        omega)
       obtain ⟨lo,lc,rfl,_,hlc⟩:=hrow.open
       have hll:(intsN l).length=l.length:=by unfold intsN; rw [List.length_map]
       obtain ⟨hl1,hl2⟩:=HPX.out l hlm
       have HLL2:=Lib.hid hl2
       have HLC:=Lib.hid hlc
       have HMT:=Lib.hid (mixP_take (f:=f) q1.out)
       have hfj:=HFJ.out
       rw [q2.out] at hfj
       replace hfj:(if f l=0 then mixF f (P.drop (j + 1)) else if (outF (f l)).2 ≠ 0 then (outF (f l)).2 else mixF f (P.drop (j + 1)))=FF:=hfj
       have hfw:=HFW.out l
       have HRBW:=Lib.hid (fun (k:Nat) => wgtM_RB (m:=2000) (by omega) HRB.out l k)
       rw [hll] at p0 HRX
       rw [hl1] at p0 HRX hfw
       obtain ⟨nl,hnl⟩:∃ nl,S.length=nl:=⟨_,rfl⟩
       have HNL:=Lib.hid hnl
       rw [hnl] at p0 HRX hfw hsl hl1
       have HL1:=Lib.hid hl1
       have HFW1:=Lib.hid hfw
       have HFJ1:=Lib.hid hfj
       have hjj:(j:Int) < (us.length:Int):=by omega
       clear hlt d1 d2 d3 q1 q2 q3 hlm hrow hlc hl2 hfj HFJ hll hnl hl1 hfw
       go_wp2_with fail
       clear p0
       refine (HO1.out _).mono ?_
       rintro e wa ⟨ua,rfl,ha,Xa⟩
       obtain ⟨s2,ao3,l2,c3,bo2,m2,d2,rfl,_,_,_⟩:=ha.opn
       obtain ⟨O,hO⟩:∃ O,wa.heap.size=O:=⟨_,rfl⟩
       obtain ⟨W4,hW4⟩:∃ W4,wa.alloc (.cells #[.bool s2,.slice ao3 l2 c3,.slice bo2 m2 d2] 89)=W4:=⟨_,rfl⟩
       have HA4:Hid (Acc W4 O s2 ao3 l2 c3 bo2 m2 d2 (wgtM M l 0)):=by show Acc _ _ _ _ _ _ _ _ _ _; rw [← hW4]; exact Acc.new ha hO
       have XW:Ext wa W4:=by rw [← hW4]; exact (Ext.refl wa).alloc _
       have HXA:=Lib.hid (Xa.trans XW)
       have hO1:wy.heap.size ≤ O:=by rw [← hO]; exact Xa.size
       clear ha Xa XW
       go_wp2_with fail
       clear hW4 hO
       go_loopw [71] (fun kv wr => ∃ (k:Nat) (s:Bool) (xo:Option Addr) (xl xc:Nat) (yo:Option Addr) (yl yc:Nat),k ≤ nl ∧ kv=.int .i64 k ∧ Hid (Acc wr O s xo xl xc yo yl yc (wgtM M l k)) ∧ Ext wy wr) (fun kv _ => nl - (intOf kv).toNat)
       case atStart => exact ⟨0,s2,ao3,l2,c3,bo2,m2,d2,Nat.zero_le _,rfl,HA4,HXA.out⟩
       case round =>
        clear HA4 HXA
        obtain ⟨k,s,xo,xl,xc,yo,yl,yc,hk,rfl,HA,Z⟩:=hrel
        obtain ⟨wz,rfl⟩:∃ wz:World,wz=wr:=⟨_,rfl⟩
        by_cases hlt:k < nl
        · skip
          obtain ⟨a,c1,_,_⟩:=get_lt (xs:=l) (k:=k) (by rw [HL1.out]; exact hlt)
          obtain ⟨x,x1,_,_⟩:=get_lt (xs:=S) (k:=k) (by rw [HNL.out]; exact hlt)
          obtain ⟨cb,coff,rfl,c0⟩:=(HLC.out.ext ((HXQ.out.trans Y).trans Z)).at (i:=k) (x:=(a:Int)) (by show _=_; unfold intsN; rw [List.getElem?_map,c1.out]; rfl)
          have c0:wz.cell? ⟨cb,coff + k,none⟩=some (.int .i64 (a:Int)):=c0
          have hax:=HLL2.out k a x c1.out x1.out
          have hm:=HMS.out k x x1.out
          have hx6:=HLL.out x (List.mem_of_getElem? x1.out)
          obtain ⟨us9,hQ⟩:=(HQQ.out.ext (Y.trans Z))
          obtain ⟨r,r1,_,_⟩:=get_lt (xs:=us9) (k:=k) (by rw [hQ.len,HML2.out,HNL.out]; exact hlt)
          have hrow2:=hQ.row k r (x.2.map ratOf) r1.out hm
          have hown9:=hQ.own
          rcases hown9.2 with ⟨_,h0⟩ | ⟨g,cap,cur,rfl,_⟩
          · rw [HML2.out,HNL.out] at h0
            exact absurd h0 (by omega)
          have r0:=hown9.cells (g:=g) rfl k r r1.out
          rw [Addr.add_lit,Nat.zero_add] at r0
          rw [HML2.out,HNL.out]
          obtain ⟨go,gc,rfl,_,hC⟩:=(hrow2.toV (by rw [List.length_map]; omega)).opn
          obtain ⟨q,qq1,_,_⟩:=get_lt (xs:=x.2.map ratOf) (k:=a) (by rw [List.length_map]; exact hax)
          have hwn:wgtM M l (k + 1)=wgtM M l k * q:=by
           show _ * ((M.getD k []).getD (l.getD k 0) 0)=_
           have e1:l.getD k 0=a:=by rw [List.getD_eq_getElem?_getD,c1.out]; rfl
           have e2:M.getD k []=x.2.map ratOf:=by rw [List.getD_eq_getElem?_getD,hm]; rfl
           rw [e1,e2,List.getD_eq_getElem?_getD,qq1.out]
           rfl
          have HWN:=Lib.hid hwn
          have rbq:=HRB.out (x.2.map ratOf) (List.mem_of_getElem? hm) q (List.mem_of_getElem? qq1.out)
          have HMU:=Lib.hid (fun (u v:Value) W hu hv => qMul_any u v (wgtM M l k) q W hu hv (RB_QB (HRBW.out k) (by omega)) (RB_QB rbq (by omega)))
          obtain ⟨g2,s5,ao5,l5,c5,bo5,m5,d5,rfl,e0,e1,e2,hq5⟩:=hC a q qq1.out
          have HQ5:=Lib.hid hq5
          obtain ⟨nx,hnx⟩:∃ nx,x.2.length=nx:=⟨_,rfl⟩
          rw [List.length_map,hnx] at r0
          rw [hnx] at hax
          have hki:(k:Int) < (nl:Int):=by omega
          have hai:(a:Int) < (nx:Int):=by omega
          have k0:=HA.out.c0
          have k1:=HA.out.c1
          have k2:=HA.out.c2
          clear hlt c1 x1 hm hx6 hQ r1 hrow2 hown9 hC qq1 hwn rbq hq5 hnx
          go_wp2_with fail
          clear c0
          have XC:Ext wz wz.drew:=(Ext.refl wz).drew
          go_region_law (first
           | (go_simp; go_at_call 74; refine (HMU.out _ _ _ (by exact HA.out.val.ext XC) (by exact HQ5.out.ext XC)).mono ?_; rintro e wm ⟨um,rfl,hm',Ym⟩; obtain ⟨s9,ao9,l9,c9,bo9,m9,d9,rfl,_,_,_⟩:=hm'.opn; replace XC:=XC.trans Ym; have HV:=Lib.hid hm'; have HAa:=Lib.hid (HA.out.ext XC); have T3:=st3 HAa.out.row; have f0:=T3.f0; have c0:=T3.c0; have f1:=T3.f1; have c1:=T3.c1; have f2:=T3.f2; have c2:=T3.c2; clear hm' T3))
          all_goals
           obtain ⟨w7,h7,hgr,hput⟩:=HAa.out.put HV.out
           rw [h7]
           rw [← HWN.out] at hput
           have HP7:=Lib.hid hput
           have X7:=(Z.trans XC).grown hgr hO1
           clear h7 hput f0 c0 f1 c1 f2 c2 k0 k1 k2 hgr e0 e1 e2 r0
           go_wp2_with fail
           go_roundw
           case rel => exact ⟨k + 1,s9,ao9,l9,c9,bo9,m9,d9,by omega,by go_num,HP7,X7⟩
           case measure => simp [intOf] <;> omega
        · have hke:k=nl:=by omega
          subst hke
          have hge:¬ (k:Int) < (k:Int):=by omega
          have k0:=HA.out.c0
          have k1:=HA.out.c1
          have k2:=HA.out.c2
          have hfw:=HFW1.out
          have HV:=Lib.hid HA.out.val
          clear hlt HA
          rw [← hfw] at HV
          obtain ⟨y,hy⟩:∃ y,f l=y:=⟨_,rfl⟩
          have hfj:=HFJ1.out
          have hmt:=HMT.out
          rw [hy] at HV hfj hmt
          have HSG:=Lib.hid (qSign_any (.agg #[.bool s,.slice xo xl xc,.slice yo yl yc]) y wz HV.out)
          clear hfw hy HFJ1 HMT
          obtain ⟨z,hz⟩:∃ z,y.num.sign=z:=⟨_,rfl⟩
          have hzy:z=0 ↔ y=0:=by rw [← hz,Int.sign_eq_zero_iff_zero,Rat.num_eq_zero]
          rw [hz] at HSG
          clear hz
          go_wp2_with fail
          refine HSG.out.mono ?_
          rintro e w5 ⟨rfl,X5⟩
          have k0:=X5.cell k0
          have k1:=X5.cell k1
          have k2:=X5.cell k2
          by_cases hz0:z=0
          · have hy0:=hzy.1 hz0
            subst hz0
            rw [if_pos hy0] at hfj hmt
            rw [List.append_nil] at hmt
            have HFN:=Lib.hid hfj
            have HRN:Hid (R.map (·.1)=mixP f (P.take (j + 1))):=by show _=_; rw [hmt]; exact HR.out
            have HLN:Hid (R.length ≤ j + 1):=Nat.le_succ_of_le HRL.out
            have HON:=Lib.hid (HO.out.ext (Z.trans X5))
            have XN:=(Y.trans Z).trans X5
            clear hfj hmt hy0 hzy k0 k1 k2
            go_wp2_with fail
            go_roundw
            case rel => exact ⟨j + 1,R,by omega,by go_num,HRN,HLN,HON,HFN,XN⟩
            case measure => simp [intOf] <;> omega
          have hy0:¬ y=0:=fun h => hz0 (hzy.2 h)
          rw [if_neg hy0] at hfj hmt
          have hb1:(z == 0)=false:=by rw [beq_eq_false_iff_ne]; exact hz0
          have hb2:decide (z=0)=false:=decide_eq_false hz0
          have HOA:=Lib.hid (out_any (.agg #[.bool s,.slice xo xl xc,.slice yo yl yc]) y w5 (HV.out.ext X5) (tabPow_ext HTB.out (HX4.out.trans (HXQ.out.trans ((Y.trans Z).trans X5)))))
          obtain ⟨ot,oe,hot⟩:∃ ot oe,outF y=(ot,oe):=⟨_,_,rfl⟩
          rw [hot] at HOA hfj hmt
          have HMT:=Lib.hid hmt
          have HFJ1:=Lib.hid hfj
          clear hy0 hzy hot hmt hfj hz0
          go_wp2_with fail
          refine HOA.out.mono ?_
          rintro e w6 ⟨rfl,X6⟩
          dsimp only
          by_cases hoe:oe=0
          · subst hoe
            have hfj:=HFJ1.out
            rw [if_neg (by simp)] at hfj
            have HFN:=Lib.hid hfj
            have XZ6:=(Z.trans X5).trans X6
            have HO7:=Lib.hid (HO.out.ext XZ6)
            have HXN:=Lib.hid (Y.trans XZ6)
            have HRW:=Lib.hid (HRX.out.ext (HXQ.out.trans HXN.out))
            have hrl:=HRL.out
            have hL1:R.length + 1 ≤ 17592186044416:=by omega
            have hL2:(R.length + 1) * 40 ≤ 140737488355328:=by omega
            have hbk:wq.heap.size ≤ w6.heap.size:=HXN.out.size
            clear hfj k0 k1 k2 XZ6
            go_wp2_with (first | (at_builtin; go_must (refine wp_app2 rfl rfl ei_cp HO7.out.row rfl rfl (by simp) rfl rfl hL1 hL2 hbk ?_); intro v' w' hown hgrew))
            have HCO:=Lib.hid (HO7.out.grew (p:=((intsN l,ot),.slice lo k lc)) hown hgrew HRW.out)
            have HXX:=Lib.hid (hgrew.extNew HXN.out HO7.out.row (Nat.le_refl _))
            have HLN:Hid ((R ++ [((intsN l,ot),Value.slice lo k lc)]).map (·.1)=mixP f (P.take (j + 1))):=by
             show _=_
             rw [List.map_append,HR.out,HMT.out]
             rfl
            clear hown hgrew
            go_roundw
            case rel => exact ⟨j + 1,_,by omega,by go_num,HLN,by show _ ≤ _; rw [List.length_append]; exact Nat.add_le_add_right hrl 1,HCO,HFN,HXX.out⟩
            case measure => simp [intOf] <;> omega
          · have hb:(oe != 0)=true:=by rw [bne_iff_ne]; exact hoe
            have hfj:=HFJ1.out
            rw [if_pos hoe] at hfj
            have HFE:=Lib.hid hfj
            have HOE:=Lib.hid hoe
            clear hfj hoe k0 k1 k2
            go_wp2_with fail
            go_ret2
            refine ⟨_,rfl,?_⟩
            unfold MxdPost
            rw [HFF.out,HPP.out,HFQ.out,← HFE.out]
            exact ⟨(HX4.out.trans HXQ.out).trans ((Y.trans Z).trans (X5.trans X6)),.inr (.inr (.inr (.inl ⟨HE.out,HSE.out,HF.out,HOE.out,rfl⟩)))⟩
     · have hje:j=us.length:=by omega
       subst hje
       have hge:¬ (us.length:Int) < (us.length:Int):=by omega
       have hfj:=HFJ.out
       rw [List.drop_eq_nil_of_le (by rw [← HUL.out]; exact Nat.le_refl _)] at hfj
       replace hfj:(0:Int)=FF:=hfj
       have hin:=HO.out.toIn (by have:=HRL.out; omega)
       rw [HR.out,List.take_of_length_le (by rw [← HUL.out]; exact Nat.le_refl _)] at hin
       have HIN:=Lib.hid hin
       have HFE:=Lib.hid hfj
       clear hlt hfj hin HO HR
       go_wp2_with fail
       go_ret2
       refine ⟨_,rfl,?_⟩
       unfold MxdPost
       rw [HFF.out,HPP.out,HFQ.out]
       exact ⟨(HX4.out.trans HXQ.out).trans Y,.inr (.inr (.inr (.inr ⟨HE.out,HSE.out,HF.out,HFE.out.symm,_,rfl,HIN.out⟩)))⟩
set_option maxHeartbeats 3200000 in
set_option maxRecDepth 100000 in
theorem cvMixed_any (v o:Value) (T:List Nd) (p:Int) (S:List Ch) (w:World) (htab:TabPow w) (hv:TreeIn w v T) (hz:TreeSz T) (ho:StrIn w o S) (hzs:StrSz S) :
 Calls Tryz.prog 36 #[v,.int .i64 p,o] w fun e w' => ∃ u,e=.returned u ∧ MxdPost T p S u w w':=by
 by_cases hPE:playerE T p=0
 · by_cases hS:strategyE T p S=0
   · exact mixed_ok v o T p S w htab hPE hS hv hz ho hzs
   · obtain ⟨hT,hp⟩:=valid_player hPE
     have HI:=Lib.hid (treeInfos_any v T p w htab hv hz)
     have HST:=Lib.hid (fun W (hX:Ext w W) => strategy_any v o T p S W (tabPow_ext htab hX) (hv.ext hX) hT (ho.ext hX) hzs)
     obtain ⟨Q,hQ⟩:∃ Q,strategyE T p S=Q:=⟨_,rfl⟩
     have HQ:=Lib.hid hQ
     rw [hQ] at HST hS
     have HE:=Lib.hid hPE
     have HNE:=Lib.hid hS
     have hb:(Q != 0)=true:=by rw [bne_iff_ne]; exact hS
     obtain ⟨vo,vc,rfl,_,_⟩:=hv.open
     obtain ⟨so,sc,rfl,_,_⟩:=ho.open
     clear hPE hS hT hp hQ hv hz ho hzs htab
     go_enter Tryz.func36,Tryz.ntmps36
     go_wp2_with fail
     refine HI.out.mono ?_
     rintro e w2 ⟨u2,rfl,h2⟩
     unfold InfosPost at h2
     rw [HE.out] at h2
     obtain ⟨X2,⟨h,_⟩ | ⟨_,a,b,rfl,_,_⟩⟩:=h2
     · exact absurd rfl h
     go_wp2_with fail
     refine (HST.out _ X2).mono ?_
     rintro e w3 ⟨rfl,X3⟩
     go_wp2_with fail
     go_ret2
     refine ⟨_,rfl,?_⟩
     unfold MxdPost
     rw [HQ.out]
     exact ⟨X2.trans X3,.inr (.inl ⟨HE.out,HNE.out,rfl⟩)⟩
 · have HI:=Lib.hid (treeInfos_any v T p w htab hv hz)
   obtain ⟨E,hE⟩:∃ E,playerE T p=E:=⟨_,rfl⟩
   have HE:=Lib.hid hE
   rw [hE] at hPE
   have HNE:=Lib.hid hPE
   have hb:(E != 0)=true:=by rw [bne_iff_ne]; exact hPE
   obtain ⟨vo,vc,rfl,_,_⟩:=hv.open
   obtain ⟨so,sc,rfl,_,_⟩:=ho.open
   clear hPE hE hv hz ho hzs htab
   go_enter Tryz.func36,Tryz.ntmps36
   go_wp2_with fail
   refine HI.out.mono ?_
   rintro e w2 ⟨u2,rfl,h2⟩
   unfold InfosPost at h2
   rw [HE.out] at h2
   obtain ⟨X2,⟨_,rfl⟩ | ⟨h,_⟩⟩:=h2
   rotate_left
   · exact absurd h HNE.out
   go_wp2_with fail
   go_ret2
   refine ⟨_,rfl,?_⟩
   unfold MxdPost
   rw [HE.out]
   exact ⟨X2,.inl ⟨HNE.out,rfl⟩⟩
theorem mix_small {T:List Nd} (hT:Valid T) {p:Int} (hp:p=0 ∨ p=1) {S:List Ch} (hS:strategyE T (1 - p) S=0) (hm:mildB T=true) (ht:tameB S=true) {L:List Pl} (hl:L.length ≤ 20) (hG:∀ x ∈ L,GoodP T p x) (hO:∀ x ∈ L,x.2.size ≤ 12) :
 (∀ j,j ≤ L.length → RB 1800 (mixS T p S L j)) ∧ ∀ (j:Nat) (x:Pl),L[j]?=some x → RB 1800 (payF T p S x) ∧ RB 1800 (payF T p S x * ratOf x.2):=by
 have:=mild_len hm
 exact mix_RBm hT hp hS (AllRB.small hT hS hm ht) (by omega) hG (fun x hx => ratOf_RB (hG x hx).2.2 (hO x hx) (by omega)) (by omega)
end Go.Proofs.YtcggohkbmhdohaaGreatDoor
