/- texts merged: RcE RcF RcG RcH -/
import Derived.Test.YtcggohkbmhdohaaGreatDoorRcAD
import Derived.IntWalk
import Derived.BigRegion
namespace Go.Proofs.YtcggohkbmhdohaaGreatDoor
open Go.RowKit
set_option linter.unusedVariables false
def flat3:List (Int × Int × Int) → List Value
 | [] => []
 | s :: t => .int .i64 s.1 :: .int .i64 s.2.1 :: .int .i64 s.2.2 :: flat3 t
theorem flat3_app:∀ (a b:List (Int × Int × Int)),flat3 (a ++ b)=flat3 a ++ flat3 b
 | [],b => rfl
 | s :: t,b => by simp only [List.cons_append,flat3,flat3_app t b]
theorem flat3_get:∀ (l:List (Int × Int × Int)) (i:Nat) (s:Int × Int × Int),l[i]?=some s → (flat3 l)[i * 3]?=some (.int .i64 s.1) ∧ (flat3 l)[i * 3 + 1]?=some (.int .i64 s.2.1) ∧ (flat3 l)[i * 3 + 2]?=some (.int .i64 s.2.2)
 | [],i,s,h => by simp at h
 | a :: t,0,s,h => by
   simp only [List.getElem?_cons_zero,Option.some.injEq] at h
   subst h
   exact ⟨rfl,rfl,rfl⟩
 | a :: t,i + 1,s,h => by
   have:=flat3_get t i s (by simpa using h)
   rw [show (i + 1) * 3=i * 3 + 3 by omega]
   exact this
def SqOf (w:World) (ao:Option Addr) (l:List (Int × Int × Int)):Prop:=∀ (j:Nat) (u:Value),(flat3 l)[j]?=some u → ∃ b off,ao=some ⟨b,off,none⟩ ∧ w.cell? ⟨b,off + j,none⟩=some u
def SqIn (w:World) (v:Value) (l:List (Int × Int × Int)):Prop:=∃ ao c,v=.slice ao l.length c ∧ SqOf w ao l
theorem SqOf.ext {w w':World} {ao:Option Addr} {l:List (Int × Int × Int)} (h:SqOf w ao l) (hx:Ext w w'):SqOf w' ao l:=fun j u hu => by
 obtain ⟨b,off,e,hc⟩:=h j u hu
 exact ⟨b,off,e,hx.cell hc⟩
theorem SqIn.ext {w w':World} {v:Value} {l:List (Int × Int × Int)} (h:SqIn w v l) (hx:Ext w w'):SqIn w' v l:=by
 obtain ⟨ao,c,e,h2⟩:=h
 exact ⟨ao,c,e,h2.ext hx⟩
theorem SqOf.at {w:World} {ao:Option Addr} {l:List (Int × Int × Int)} (h:SqOf w ao l) {i:Nat} {s:Int × Int × Int} (hs:Hid (l[i]?=some s)):∃ b off,ao=some ⟨b,off,none⟩ ∧ w.cell? ⟨b,off + i * 3,none⟩=some (.int .i64 s.1) ∧ w.cell? ⟨b,off + i * 3 + 1,none⟩=some (.int .i64 s.2.1) ∧ w.cell? ⟨b,off + i * 3 + 2,none⟩=some (.int .i64 s.2.2):=by
 obtain ⟨g0,g1,g2⟩:=flat3_get l i s hs.out
 obtain ⟨b,off,e,c0⟩:=h _ _ g0
 obtain ⟨b',off',e',c1⟩:=h _ _ g1
 obtain ⟨b3,off3,e3,c2⟩:=h _ _ g2
 rw [e] at e' e3
 simp only [Option.some.injEq,Addr.mk.injEq,and_true] at e' e3
 obtain ⟨rfl,rfl⟩:=e'
 obtain ⟨rfl,rfl⟩:=e3
 exact ⟨b,off,e,c0,c1,c2⟩
def SqO (w:World) (B:Nat) (v:Value) (l:List (Int × Int × Int)):Prop:=w.ownsRow B 155 3 v l.length (flat3 l)
theorem SqO.toIn {w:World} {B:Nat} {v:Value} {l:List (Int × Int × Int)} (h:SqO w B v l):SqIn w v l:=by
 rcases h.2 with ⟨rfl,h0⟩ | ⟨g,cap,cur,rfl,hb,hg,hc,_⟩
 · have:l=[]:=List.eq_nil_of_length_eq_zero h0
   subst this
   exact ⟨none,0,rfl,fun j u hu => by simp [flat3] at hu⟩
 · refine ⟨_,_,rfl,fun j u hu => ⟨g,0,rfl,?_⟩⟩
   have:=h.cells (g:=g) rfl j u hu
   rwa [Addr.add_lit] at this
theorem info_sq:(Tryz.prog.info? 155).map (fun i => (i.zero,i.size,i.bytes))=some (some (.agg #[.int .i64 0,.int .i64 0,.int .i64 0]),3,24):=by kernel_rfl
theorem ei_sq:EI Tryz.prog 150 155 (.agg #[.int .i64 0,.int .i64 0,.int .i64 0]) 3 24:=⟨Tryz.underlying150,info_parts info_sq,by decide,by decide⟩
theorem src_cell3 {w:World} {k:Nat} {x y z:Value} (h1:x.oneCell'=true) (h2:y.oneCell'=true) (h3:z.oneCell'=true) (hc:w.cell? ⟨k,0,none⟩=some x) (hd:w.cell? ⟨k,1,none⟩=some y) (he:w.cell? ⟨k,2,none⟩=some z):Src w (.slice (some ⟨k,0,none⟩) 1 1) 1 3 [x,y,z]:=by
 refine ⟨_,_,rfl,rfl,?_,fun _ => ⟨_,_,rfl,fun j u hu => ?_⟩⟩
 · intro u hu
   simp only [List.mem_cons,List.not_mem_nil,or_false] at hu
   rcases hu with rfl | rfl | rfl
   · exact h1
   · exact h2
   · exact h3
 · match j,hu with
   | 0,hu => simp at hu; subst hu; exact hc
   | 1,hu => simp at hu; subst hu; exact hd
   | 2,hu => simp at hu; subst hu; exact he
theorem step_app3 {P:Program} {ops:Array Oper} {o:Oper} {a:Act} {w:World} {K:Act → World → Prop} {Q:Exit → Act → World → Prop} {E:Prop} (hg:o.guard=none) {s x:Operand} {t e:TypeId} {z:Value} {bytes:Nat}
 (ho:o.op=.call { callee:=.builtin .append,args:=#[s,x],argTypes:=#[t,t] }) (ei:EI P t e z 3 bytes) {v:Value} (hs:a.eval s=v) {k:Nat} (hx:a.eval x=.slice (some ⟨k,0,none⟩) 1 1) {y1 y2 y3:Value} (h1:y1.oneCell'=true) (h2:y2.oneCell'=true) (h3:y3.oneCell'=true)
 {B n:Nat} {xs:List Value} (hown:w.ownsRow B e 3 v n xs) (hc:w.cell? ⟨k,0,none⟩=some y1) (hd:w.cell? ⟨k,1,none⟩=some y2) (he:w.cell? ⟨k,2,none⟩=some y3) (hlen:n + 1 ≤ 17592186044416) (hby:(n + 1) * bytes ≤ 140737488355328) (hB:B ≤ w.heap.size)
 (h:∀ v' w',w'.ownsRow B e 3 v' (n + 1) (xs ++ [y1,y2,y3]) → Grew w v w' v' → K (a.put o.dst v') w'):if Region.wanted o (yielded ops a.tmps)=true then Oper.wp P o a w K Q else E :=
 step_app hg ho ei hs hown hx (src_cell3 h1 h2 h3 hc hd he) hlen hby hB h
theorem Grew.away {w w':World} {v v':Value} {k:Nat} (h:Grew w v w' v') (hne:v.ownBlock ≠ some k) (hk:k < w.heap.size):v'.ownBlock ≠ some k:=by
 rcases h.blk with e | e
 · rw [e]; exact hne
 · intro e2
   have:=e k e2
   omega
structure NB4 (w:World) (k:Nat) (a b c:Int) (nv:Value):Prop where
 c0:w.cell? ⟨k,0,none⟩=some (.int .i64 a)
 c1:w.cell? ⟨k,1,none⟩=some (.int .i64 b)
 c2:w.cell? ⟨k,2,none⟩=some (.int .i64 c)
 c3:w.cell? ⟨k,3,none⟩=some nv
theorem NB4.ext {w w':World} {k:Nat} {a b c:Int} {nv:Value} (h:NB4 w k a b c nv) (hx:Ext w w'):NB4 w' k a b c nv:=⟨hx.cell h.c0,hx.cell h.c1,hx.cell h.c2,hx.cell h.c3⟩
theorem NB4.kept {w w':World} {row:Option Nat} {k:Nat} {a b c:Int} {nv:Value} (h:NB4 w k a b c nv) (hg:w.grownBy w' row) (hne:some k ≠ row):NB4 w' k a b c nv :=
 ⟨hg.cell h.c0 hne,hg.cell h.c1 hne,hg.cell h.c2 hne,hg.cell h.c3 hne⟩
theorem NB4.lt {w:World} {k:Nat} {a b c:Int} {nv:Value} (h:NB4 w k a b c nv):k < w.heap.size:=World.block_lt_of_cell? w _ h.c0
abbrev domI64 (i:Int):Prop:=(Lit.int .i64 i).wf=true
structure OfS (B G A M:Nat) (w:World) (sv:Value) (n:Nat) (xs:List Value) (N:Nat) (ats:List Value) (m:Nat) (f:Int → Option Value):Prop where
 frm:w.ownsRow B 152 2 (.slice (some ⟨G,0,none⟩) 1 1) 1 [sv,.slice (some ⟨A,0,none⟩) N N]
 seq:w.ownsRow B 155 3 sv n xs
 ats:w.ownsRow B 3 1 (.slice (some ⟨A,0,none⟩) N N) N ats
 mp:MapG Tryz.prog 3 (Value.int .i64) domI64 w M m f
 sG:sv.ownBlock ≠ some G
 sA:sv.ownBlock ≠ some A
 sM:sv.ownBlock ≠ some M
 GA:G ≠ A
 GM:G ≠ M
 AM:A ≠ M
 bM:B ≤ M
section
variable {B G A M:Nat} {w w':World} {sv:Value} {n:Nat} {xs:List Value} {N:Nat} {ats:List Value} {m:Nat} {f:Int → Option Value}
theorem OfS.ext (h:OfS B G A M w sv n xs N ats m f) (hx:Ext w w'):OfS B G A M w' sv n xs N ats m f :=
 ⟨own_ext h.frm hx,own_ext h.seq hx,own_ext h.ats hx,h.mp.ext hx,h.sG,h.sA,h.sM,h.GA,h.GM,h.AM,h.bM⟩
theorem OfS.mono (h:OfS B G A M w sv n xs N ats m f) {m2:Nat} (hm:m ≤ m2):OfS B G A M w sv n xs N ats m2 f :=
 ⟨h.frm,h.seq,h.ats,h.mp.mono hm,h.sG,h.sA,h.sM,h.GA,h.GM,h.AM,h.bM⟩
theorem OfS.cells (h:OfS B G A M w sv n xs N ats m f):w.cell? ⟨G,0,none⟩=some sv ∧ w.cell? ⟨G,1,none⟩=some (.slice (some ⟨A,0,none⟩) N N):=by
 have cc:∀ {j:Nat} {u:Value},[sv,.slice (some ⟨A,0,none⟩) N N][j]?=some u → w.cell? ⟨G,j,none⟩=some u:=by
  intro j u hj
  have:=h.frm.cells (g:=G) rfl j u hj
  rwa [Addr.add_lit,Nat.zero_add] at this
 exact ⟨cc rfl,cc rfl⟩
theorem OfS.at' (h:OfS B G A M w sv n xs N ats m f) {i:Nat} {u:Value} (hu:ats[i]?=some u):w.cell? ⟨A,i,none⟩=some u:=by
 have:=h.ats.cells (g:=A) rfl i u hu
 rwa [Addr.add_lit,Nat.zero_add] at this
theorem OfS.put (h:OfS B G A M w sv n xs N ats m f) (hm:m < maxLen) {q:Int} (hq:domI64 q) (u:Value) :
 ∃ w',(Instr.mapUpdate 103 (.map (some M)) (.int .i64 q) u).run Tryz.prog w=.ok () w' ∧ OfS B G A M w' sv n xs N ats (m + 1) (fun j => if j=q then some u else f j) ∧ w.grownBy w' (some M):=by
 obtain ⟨w',h1,h2,h3⟩:=h.mp.set (keyE_int Tryz.underlying3) Tryz.underlying103 hm (i:=q) hq u
 refine ⟨w',h1,⟨own_kept h.frm h3 (.inl fun e => h.GM (Option.some.inj e)),own_kept h.seq h3 (.inl h.sM),own_kept h.ats h3 (.inl fun e => h.AM (Option.some.inj e)),h2,h.sG,h.sA,h.sM,h.GA,h.GM,h.AM,h.bM⟩,h3⟩
theorem OfS.set (h:OfS B G A M w sv n xs N ats m f) (i:Nat) (u:Value) :
 w.frozen? ⟨A,i,none⟩=false ∧ w.grownBy (w.setCell ⟨A,i,none⟩ u) (some A) ∧ OfS B G A M (w.setCell ⟨A,i,none⟩ u) sv n xs N (ats.set i u) m f:=by
 have h1:=(h.ats.stored i u).1
 have h2:=(h.ats.stored i u).2
 exact ⟨h.ats.frozenAt i,h2,own_kept h.frm h2 (.inl fun e => h.GA (Option.some.inj e)),own_kept h.seq h2 (.inl h.sA),h1,h.mp.kept h2 (fun e => h.AM (Option.some.inj e).symm),h.sG,h.sA,h.sM,h.GA,h.GM,h.AM,h.bM⟩
theorem OfS.app (h:OfS B G A M w sv n xs N ats m f) {sv':Value} {news:List Value} {n':Nat} (ho:w'.ownsRow B 155 3 sv' n' (xs ++ news)) (hg:Grew w sv w' sv') :
 w'.frozen? ⟨G,0,none⟩=false ∧ w'.cell? ⟨G,0,none⟩=some sv ∧ w'.grownBy (w'.setCell ⟨G,0,none⟩ sv') (some G) ∧ OfS B G A M (w'.setCell ⟨G,0,none⟩ sv') sv' n' (xs ++ news) N ats m f:=by
 have hG:=(h.frm.lt G rfl).2
 have hA:=(h.ats.lt A rfl).2
 have hM:=h.mp.lt
 have f1:=own_kept h.frm hg.by' (.inl fun e => h.sG e.symm)
 have a1:=own_kept h.ats hg.by' (.inl fun e => h.sA e.symm)
 have m1:=h.mp.kept hg.by' (fun e => h.sM e.symm)
 have s1:=hg.away h.sG hG
 have t1:=(f1.stored 0 sv').1
 have t2:=(f1.stored 0 sv').2
 have hc:=f1.cells (g:=G) rfl 0 sv rfl
 rw [Addr.add_lit,Nat.zero_add] at hc
 exact ⟨f1.frozenAt 0,hc,t2,t1,own_kept ho t2 (.inl s1),own_kept a1 t2 (.inl fun e => h.GA (Option.some.inj e).symm),m1.kept t2 (fun e => h.GM (Option.some.inj e).symm),s1,hg.away h.sA hA,hg.away h.sM hM,h.GA,h.GM,h.AM,h.bM⟩
theorem OfS.look (h:OfS B G A M w sv n xs N ats m f) {q:Int} (hq:domI64 q) {o:Option Value} (ho:f q=o):(Instr.lookup 103 (.map (some M)) (.int .i64 q) false).run Tryz.prog w=.ok (o.getD (.int .i64 0)) w :=
 h.mp.look1 (keyE_int Tryz.underlying3) Tryz.underlying103 (zeroI w) (i:=q) hq ho
theorem OfS.gB (h:OfS B G A M w sv n xs N ats m f):B ≤ G ∧ G < w.heap.size:=h.frm.lt G rfl
theorem OfS.aB (h:OfS B G A M w sv n xs N ats m f):B ≤ A ∧ A < w.heap.size:=h.ats.lt A rfl
end
def startM (T:List Nd) (p:Int) (i:Nat) (q:Int):Option Nat:=(firstI T p i q).map fun j => (waysL T p j).length
def startF (T:List Nd) (p:Int) (i:Nat) (q:Int):Option Value:=(startM T p i q).map fun n => Value.int .i64 (n:Int)
theorem startF_put {T:List Nd} {p:Int} {i:Nat} {x:Nd} (hx:T[i]?=some x) (hk:x.kind=2) (hp:x.player=p) (hf:firstI T p i x.info=none):startF T p (i + 1)=fun q => if q=x.info then some (.int .i64 (((seqsL T p i).length:Nat):Int)) else startF T p i q:=by
 funext q
 unfold startF startM
 rw [firstI_put hx hk hp hf,seqsL_len]
 dsimp only
 split <;> rfl
theorem startF_keep {T:List Nd} {p:Int} {i:Nat} (h:firstI T p (i + 1)=firstI T p i):startF T p (i + 1)=startF T p i:=by
 funext q
 unfold startF startM
 rw [h]
theorem seqs_fresh {T:List Nd} {p:Int} {i:Nat} {x:Nd} (hx:T[i]?=some x) (hk:x.kind=2) (hp:x.player=p) (hf:firstI T p i x.info=none):seqsL T p (i + 1)=seqsL T p i ++ (List.range x.next.length).map (fun c:Nat => (x.info,(c:Int),((idxL (waysL T p i) (own T p i):Nat):Int))):=by
 rw [seqsL_succ hx,if_pos ((fresh_first hk hp).2 hf)]
theorem seqs_stale {T:List Nd} {p:Int} {i:Nat} {x:Nd} (hx:T[i]?=some x) (h:¬ (x.kind=2 ∧ x.player=p) ∨ (x.kind=2 ∧ x.player=p ∧ firstI T p i x.info ≠ none)):seqsL T p (i + 1)=seqsL T p i:=by
 rw [seqsL_succ hx,if_neg]
 intro hf
 obtain ⟨f1,f2,f3⟩:=freshB_iff.1 hf
 rcases h with h | ⟨h1,h2,h3⟩
 · exact h ⟨f1,f2⟩
 · exact h3 ((fresh_first h1 h2).1 hf)
def atL (T:List Nd) (p:Int):List Int:=(List.range T.length).map fun k:Nat => ((atN T p k:Nat):Int)
def OfPost (T:List Nd) (p:Int) (u:Value) (w w':World):Prop:=∃ G sv av,u=.pointer (some ⟨G,0,none⟩) ∧ w'.cell? ⟨G,0,none⟩=some sv ∧ w'.cell? ⟨G,1,none⟩=some av ∧ SqIn w' sv (seqsL T p T.length) ∧ Ints w' av (atL T p) ∧ Ext w w'
set_option maxHeartbeats 12800000 in
set_option maxRecDepth 100000 in
theorem of_any (v:Value) (T:List Nd) (p:Int) (w:World) (hv:TreeIn w v T) (hT:Valid T) (hr:remB T p=true) :
 Calls Tryz.prog 105 #[v,.int .i64 p] w fun e w' => ∃ u,e=.returned u ∧ OfPost T p u w w':=by
 obtain ⟨wo,rfl⟩:∃ wo:World,wo=w:=⟨_,rfl⟩
 have hl:=hT.len
 have hpos:=hT.pos
 have HDS:=Lib.hid (fun (i c n k:Nat) (x:Nd) (hx:T[i]?=some x) (hn:x.next[c]?=some (n:Int)) (hd:doneP T i (c + 1) k) => hT.done_succ hx hn hd)
 have HDI:=Lib.hid (fun (i:Nat) (hi:i < T.length) (c:Nat) => hT.done_self hi c)
 have HDA:=Lib.hid (fun (k:Nat) (hk:k < T.length) => hT.done_all hk)
 have HCH:=Lib.hid (fun (i c:Nat) (x:Nd) (k:Int) (hx:T[i]?=some x) (hk:x.next[c]?=some k) => hT.child hx (List.mem_of_getElem? hk))
 have HN6:=Lib.hid (fun (i:Nat) (x:Nd) (hx:T[i]?=some x) => hT.next6 hx)
 have HW1:=Lib.hid (fun (i:Nat) (x:Nd) (hx:T[i]?=some x) (hk:x.kind=2) => hT.wide1 hx hk)
 have HBF:=Lib.hid (fun (i:Nat) (hi:i < T.length) => atN_before hT hr hi)
 have HSZL:=Lib.hid (fun (i:Nat) (hi:i ≤ T.length) => (by rw [seqsL_len]; have:=ways_size hT p i hi; omega:(seqsL T p i).length ≤ 721))
 have HWL:=Lib.hid (fun (j:Nat) (hj:j ≤ T.length) => (by have:=ways_size hT p j hj; omega:(waysL T p j).length ≤ 721))
 have HA0:Hid (atN T p 0=0):=atN_zero T p
 obtain ⟨ao,c,rfl,hlen,hn⟩:=hv.open
 have HN:=Lib.hid hn
 obtain ⟨N,hN⟩:∃ N,T.length=N:=⟨_,rfl⟩
 have HNN:=Lib.hid hN
 rw [hN] at hl hpos hlen ⊢
 obtain ⟨W0,hW0⟩:∃ W0,wo.alloc (.cells #[.int .i64 (-1),.int .i64 (-1),.int .i64 (-1)] 155)=W0:=⟨_,rfl⟩
 obtain ⟨S0,hS0⟩:∃ S0,wo.heap.size=S0:=⟨_,rfl⟩
 have HSQ0:Hid (W0.ownsRow wo.heap.size 155 3 (.slice (some ⟨S0,0,none⟩) 1 1) 1 (flat3 (seqsL T p 0))):=by
  show World.ownsRow _ _ _ _ _ _ _
  rw [← hW0,← hS0]
  exact World.ownsRow_lit wo #[.int .i64 (-1),.int .i64 (-1),.int .i64 (-1)] 1 (Nat.le_refl _) (by unfold maxLen; omega) rfl
 have HX0:Hid (Ext wo W0):=by show Ext _ _; rw [← hW0]; exact (Ext.refl wo).alloc _
 clear hn hv hN
 have hmm:=@run_makeMap Tryz.prog
 go_enter Tryz.func105,Tryz.ntmps105
 go_wp2_with (first | (at_make; go_must (refine wp_make1 rfl rfl ei_ints rfl rfl rfl N rfl rfl (by omega) (by omega) ?_); intro w2 hO2 hX2))
 have hszW0:W0.heap.size=S0 + 1:=by rw [← hW0,← hS0]; simp
 obtain ⟨A,hA⟩:∃ A,W0.heap.size=A:=⟨_,rfl⟩
 obtain ⟨G,hG⟩:∃ G,w2.heap.size=G:=⟨_,rfl⟩
 rw [hA] at hO2 hszW0
 have hAG:A < G:=by rw [← hG]; exact (hO2.lt A rfl).2
 have HOF:Hid (OfS wo.heap.size G A (G + 1) ((w2.alloc (.cells #[.slice (some ⟨S0,0,none⟩) 1 1,.slice (some ⟨A,0,none⟩) N N] 152)).alloc (.map #[] 0)) (.slice (some ⟨S0,0,none⟩) 1 1) (seqsL T p 0).length (flat3 (seqsL T p 0)) N (List.replicate N (.int .i64 0)) 0 (startF T p 0)):=by
  have h1:(w2.alloc (.cells #[.slice (some ⟨S0,0,none⟩) 1 1,.slice (some ⟨A,0,none⟩) N N] 152)).ownsRow w2.heap.size 152 2 (.slice (some ⟨w2.heap.size,0,none⟩) 1 1) 1 [.slice (some ⟨S0,0,none⟩) 1 1,.slice (some ⟨A,0,none⟩) N N] :=
   World.ownsRow_lit w2 #[.slice (some ⟨S0,0,none⟩) 1 1,.slice (some ⟨A,0,none⟩) N N] 1 (Nat.le_refl _) (by unfold maxLen; omega) rfl
  have hM:=MapG.made (P:=Tryz.prog) (k:=3) (enc:=Value.int .i64) (dom:=domI64) (w2.alloc (.cells #[.slice (some ⟨S0,0,none⟩) 1 1,.slice (some ⟨A,0,none⟩) N N] 152))
  rw [World.size_alloc,hG] at hM
  rw [hG] at h1
  have hwo:wo.heap.size ≤ G:=by omega
  have hwo2:wo.heap.size ≤ A:=by omega
  have XF:Ext w2 (w2.alloc (.cells #[.slice (some ⟨S0,0,none⟩) 1 1,.slice (some ⟨A,0,none⟩) N N] 152)):=(Ext.refl _).alloc _
  have XM:Ext (w2.alloc (.cells #[.slice (some ⟨S0,0,none⟩) 1 1,.slice (some ⟨A,0,none⟩) N N] 152)) ((w2.alloc (.cells #[.slice (some ⟨S0,0,none⟩) 1 1,.slice (some ⟨A,0,none⟩) N N] 152)).alloc (.map #[] 0)):=(Ext.refl _).alloc _
  refine ⟨own_ext (own_mono h1 hwo) XM,own_ext (own_ext (own_ext HSQ0.out hX2) XF) XM,own_ext (own_ext (own_mono hO2 hwo2) XF) XM,hM,?_,?_,?_,by omega,by omega,by omega,by omega⟩
  · intro e; simp only [Value.ownBlock,Option.some.injEq] at e; omega
  · intro e; simp only [Value.ownBlock,Option.some.injEq] at e; omega
  · intro e; simp only [Value.ownBlock,Option.some.injEq] at e; omega
 rw [hG,hA]
 obtain ⟨W9,hW9⟩:∃ W9,(w2.alloc (.cells #[.slice (some ⟨S0,0,none⟩) 1 1,.slice (some ⟨A,0,none⟩) N N] 152)).alloc (.map #[] 0)=W9:=⟨_,rfl⟩
 rw [hW9] at HOF ⊢
 have HX9:Hid (Ext wo W9):=by show Ext _ _; rw [← hW9]; exact ((HX0.out.trans hX2).alloc _).alloc _
 obtain ⟨M,hM⟩:∃ M,G + 1=M:=⟨_,rfl⟩
 rw [hM] at HOF ⊢
 obtain ⟨Wb,hWb⟩:∃ Wb,W9.heap.size=Wb:=⟨_,rfl⟩
 have hMb:M < Wb:=by rw [← hWb]; exact HOF.out.mp.lt
 have hGb:G < Wb:=by omega
 have hAb:A < Wb:=by omega
 clear hW9 hO2 hX2 HX0 HSQ0 hW0 hS0 hszW0 hA hG hmm
 go_loopw [25] (fun iv wr => ∃ (i:Nat) (sv:Value) (ats:List Value),i ≤ N ∧ iv=.int .i64 i ∧ Hid (OfS wo.heap.size G A M wr sv (seqsL T p i).length (flat3 (seqsL T p i)) N ats i (startF T p i)) ∧ Hid (ats.length=N) ∧ Hid (∀ k,k < N → doneP T i 0 k → ats[k]?=some (.int .i64 ((atN T p k:Nat):Int))) ∧ Hid (Wb ≤ wr.heap.size) ∧ Ext wo wr) (fun iv _ => N - (intOf iv).toNat)
 case atStart => exact ⟨0,_,List.replicate N (.int .i64 0),Nat.zero_le _,rfl,HOF.out,List.length_replicate,(fun k hk hd => by rw [hd.zero,List.getElem?_replicate,if_pos hpos,HA0.out]; rfl),(by show _ ≤ _; rw [← hWb]; exact Nat.le_refl _),HX9.out⟩
 case round =>
  clear HOF HX9
  obtain ⟨i,sv,ats,hi,rfl,HO,HAL,HDN,HSZ,X⟩:=hrel
  by_cases hlt:i < N
  · obtain ⟨x,d1,_,_⟩:=get_lt (xs:=T) (k:=i) (by rw [HNN.out]; exact hlt)
    obtain ⟨b,off,no,nc,oo,oc,rfl,c0,c1,c2,c3,c4,c5,hnc,_,_⟩:=HN.out.at d1
    have c0:=X.cell c0
    have c1:=X.cell c1
    have c2:=X.cell c2
    have c3:=X.cell c3
    have c4:=X.cell c4
    have c5:=X.cell c5
    have hii:(i:Int) < (N:Int):=by omega
    have HXI:=Lib.hid d1.out
    have HNC:=Lib.hid hnc
    have hn6:=HN6.out i x d1.out
    have HWX:=Lib.hid (HW1.out i x d1.out)
    have HBI:=Lib.hid (HBF.out i (by rw [HNN.out]; exact hlt))
    have HSI:=HSZL.out i (by rw [HNN.out]; omega)
    obtain ⟨kx,hkx⟩:∃ kx,x.kind=kx:=⟨_,rfl⟩
    obtain ⟨px,hpx⟩:∃ px,x.player=px:=⟨_,rfl⟩
    obtain ⟨qx,hqx⟩:∃ qx,x.info=qx:=⟨_,rfl⟩
    obtain ⟨nx,hnx⟩:∃ nx,x.next.length=nx:=⟨_,rfl⟩
    obtain ⟨ox,hox⟩:∃ ox,x.odds.length=ox:=⟨_,rfl⟩
    obtain ⟨yx,hyx⟩:∃ yx,x.pay=yx:=⟨_,rfl⟩
    have HKX:=Lib.hid hkx
    have HPX:=Lib.hid hpx
    have HQX:=Lib.hid hqx
    have HNX:=Lib.hid hnx
    rw [hkx] at c0 HWX
    rw [hpx] at c1 HWX
    rw [hqx] at c2 HWX
    rw [hnx] at c3 hn6 HWX
    rw [hox] at c4
    rw [hyx] at c5
    obtain ⟨T7,hT7⟩:∃ T7,wr.heap.size=T7:=⟨_,rfl⟩
    obtain ⟨W1,hW1⟩:∃ W1,wr.alloc (.cells #[.int .i64 kx,.int .i64 px,.int .i64 qx,.slice no nx nc,.slice oo ox oc,.string yx] 79)=W1:=⟨_,rfl⟩
    have X1:Ext wr W1:=by rw [← hW1]; exact (Ext.refl wr).alloc _
    have y0:W1.cell? ⟨T7,0,none⟩=some (.int .i64 kx):=by rw [← hW1,← hT7]; simp [go_sem]
    have y1:W1.cell? ⟨T7,1,none⟩=some (.int .i64 px):=by rw [← hW1,← hT7]; simp [go_sem]
    have y2:W1.cell? ⟨T7,2,none⟩=some (.int .i64 qx):=by rw [← hW1,← hT7]; simp [go_sem]
    have y3:W1.cell? ⟨T7,3,none⟩=some (.slice no nx nc):=by rw [← hW1,← hT7]; simp [go_sem]
    have HB1:Hid (NB4 W1 T7 kx px qx (.slice no nx nc)):=⟨y0,y1,y2,y3⟩
    have hszb:=HSZ.out
    have hTA:T7 ≠ A:=by omega
    have hTG:T7 ≠ G:=by omega
    have hTM:T7 ≠ M:=by omega
    have HST:Hid (sv.ownBlock ≠ some T7):=fun e => by have:=(HO.out.seq.lt T7 e).2; omega
    have HX1:=Lib.hid (X.trans X1)
    have HO1:=Lib.hid (HO.out.ext X1)
    have HS1:Hid (Wb ≤ W1.heap.size):=Nat.le_trans HSZ.out X1.size
    clear hkx hpx hqx hnx hox hyx d1 hnc hszb X1 X HO HSZ
    have hlen2:=hlen
    obtain ⟨wq,rfl⟩:∃ wq:World,wq=wr:=⟨_,rfl⟩
    by_cases hkp:kx=2 ∧ px=p
    · obtain ⟨rfl,rfl⟩:=hkp
      obtain ⟨hw1,hw2,hq1,hq2,_⟩:=HWX.out rfl
      have HDM:Hid (domI64 qx):=wf_small (by omega) (by omega)
      have hb1:(px == px)=true:=by simp
      have him0:i < maxLen:=by unfold maxLen; omega
      cases hf:firstI T px i qx with
      | none =>
        have HF2:Hid (startF T px i qx=none):=by show _=_; unfold startF startM; rw [hf]; rfl
        have hfx:firstI T px i x.info=none:=by rw [HQX.out]; exact hf
        have HFI:Hid (firstI T px (i + 1) x.info=some i):=by show _=_; rw [firstI_put HXI.out HKX.out HPX.out hfx]; exact if_pos rfl
        have HSQ:=Lib.hid (seqs_fresh HXI.out HKX.out HPX.out hfx)
        have HFE:=Lib.hid (startF_put HXI.out HKX.out HPX.out hfx)
        have HSNL:Hid ((waysL T px i).length=(seqsL T px i).length):=(seqsL_len T px i).symm
        rw [HBI.out,HQX.out,HNX.out] at HSQ
        rw [HQX.out] at HFE
        obtain ⟨SQ0,hSQ0⟩:∃ SQ0,seqsL T px i=SQ0:=⟨_,rfl⟩
        rw [hSQ0] at HO1 HSQ HFE HSI HSNL
        obtain ⟨SN,hSN⟩:∃ SN,SQ0.length=SN:=⟨_,rfl⟩
        rw [hSN] at HO1 HFE HSI HSNL
        have HSNE:=Lib.hid HSNL.out
        have HSN:=Lib.hid HSI
        have HSN0:=Lib.hid hSN
        obtain ⟨so,sc,rfl⟩:=own_isS HO1.out.seq
        obtain ⟨Wp,hput,op,gp⟩:=(HO1.out.ext ((Ext.refl W1).drew)).put him0 HDM.out (.int .i64 (SN:Int))
        have HOP:=Lib.hid op
        have HBP:=Lib.hid ((HB1.out.ext ((Ext.refl W1).drew)).kept gp (fun e => hTM (Option.some.inj e)))
        have HXP:=Lib.hid ((HX1.out.trans ((Ext.refl W1).drew)).grown gp HO1.out.bM)
        have HSP:Hid (Wb ≤ Wp.heap.size):=Nat.le_trans HS1.out gp.size
        obtain ⟨AI,hAI⟩:∃ AI,atN T px i=AI:=⟨_,rfl⟩
        rw [hAI] at HSQ
        have HAI:Hid (ats[i]?=some (.int .i64 (AI:Int))):=by show _=_; rw [← hAI]; exact HDN.out i hlt (HDI.out _ (by rw [HNN.out]; exact hlt) 0)
        obtain ⟨d0,d1⟩:=HO1.out.cells
        obtain ⟨FF,hFF⟩:∃ FF,startF T px (i + 1)=FF:=⟨_,rfl⟩
        have HFF:=Lib.hid hFF
        have HFL:Hid (FF qx=some (.int .i64 (SN:Int))):=by show _=_; rw [← hFF,HFE.out]; exact if_pos rfl
        have hsn721:=HSI
        have HOP:Hid (OfS wo.heap.size G A M Wp (.slice so SN sc) SN (flat3 SQ0) N ats (i + 1) FF):=by
         show OfS _ _ _ _ _ _ _ _ _ _ _ _
         rw [← hFF,HFE.out]
         exact HOP.out
        clear op gp hSQ0 hSN hAI hf hfx hFF HFE HSI hw1 hw2 hq1 hq2 HB1 HX1 HS1 HSNL
        go_wp2_with (first | (at_lookup; go_must (refine wp_look rfl rfl (keyE_int Tryz.underlying3) Tryz.underlying103 (zeroI _) rfl HO1.out.mp rfl HDM.out HF2.out ?_)))
        go_region
        clear hput d0 d1 y0 y1 y2 y3 HO1 HF2 c0 c1 c2 c3 c4 c5 hW1 hT7
        have y3:=HBP.out.c3
        go_wp2_with fail
        clear y3
        go_loopw [60] (fun jv wr => ∃ (c:Nat) (sv:Value) (n:Nat),c ≤ nx ∧ jv=.int .i64 c ∧ Hid (OfS wo.heap.size G A M wr sv n (flat3 (SQ0 ++ (List.range c).map (fun c:Nat => (qx,(c:Int),(AI:Int))))) N ats (i + 1) FF) ∧ Hid (n=SN + c) ∧ Hid (sv.ownBlock ≠ some T7) ∧ Hid (NB4 wr T7 2 px qx (.slice no nx nc)) ∧ Hid (Wb ≤ wr.heap.size) ∧ Ext wo wr) (fun jv _ => nx - (intOf jv).toNat)
        case atStart => exact ⟨0,_,SN,Nat.zero_le _,rfl,by show OfS _ _ _ _ _ _ _ _ _ _ _ _; rw [List.range_zero,List.map_nil,List.append_nil]; exact HOP.out,rfl,HST.out,HBP.out,HSP.out,HXP.out⟩
        case round =>
         clear HOP HST HBP HSP HXP
         obtain ⟨c,sv,n,hc,rfl,HO,HNE,HST,HB,HSZ,X⟩:=hrel
         by_cases hlc:c < nx
         · obtain ⟨so2,sc2,rfl⟩:=own_isS HO.out.seq
           obtain ⟨d0,d1⟩:=HO.out.cells
           have e1:=HO.out.at' HAI.out
           have y2:=HB.out.c2
           have hn9:=HNE.out
           have hcx:c ≤ 6:=by omega
           have hL1:n + 1 ≤ 17592186044416:=by omega
           have hL2:(n + 1) * 24 ≤ 140737488355328:=by omega
           have hci:(c:Int) < (nx:Int):=by omega
           have hn6i:(nx:Int) ≤ 6:=by omega
           have hiN:(i:Int) < (N:Int):=by omega
           have HXC:=Lib.hid X
           have hHB:=Lib.hid X.size
           have d0a:=((Ext.refl wr).alloc (.cells #[.int .i64 qx,.int .i64 (c:Int),.int .i64 (AI:Int)] 155)).cell d0
           clear hn9 X hcx hlc
           go_wp2_with fail
           go_region_law (first
            | (refine step_app3 (s:=.tmp 67) (x:=.tmp 79) rfl rfl ei_sq rfl rfl (y1:=.int .i64 qx) (y2:=.int .i64 (c:Int)) (y3:=.int .i64 (AI:Int)) rfl rfl rfl (B:=wo.heap.size) (n:=n) (by exact own_ext HO.out.seq (by repeat' (first | with_reducible exact Ext.refl _ | with_reducible apply Ext.alloc | with_reducible apply Ext.drew))) (by simp [go_sem]; done) (by simp [go_sem]; done) (by simp [go_sem]; done) hL1 hL2 (by exact Ext.size (HXC.out.trans (by repeat' (first | with_reducible exact Ext.refl _ | with_reducible apply Ext.alloc | with_reducible apply Ext.drew)))) ?_; intro v9 w9 hown hgrew; obtain ⟨po9,pc9,rfl⟩:=own_isS hown; have HST9:=Lib.hid (hgrew.away HST.out (NB4.lt (HB.out.ext (by repeat' (first | with_reducible exact Ext.refl _ | with_reducible apply Ext.alloc | with_reducible apply Ext.drew))))); have HB9:=Lib.hid ((HB.out.ext (by repeat' (first | with_reducible exact Ext.refl _ | with_reducible apply Ext.alloc | with_reducible apply Ext.drew))).kept hgrew.by' (fun e => HST.out e.symm)); have HX9:=Lib.hid (hgrew.extNew (HXC.out.trans (by repeat' (first | with_reducible exact Ext.refl _ | with_reducible apply Ext.alloc | with_reducible apply Ext.drew))) (own_ext HO.out.seq (by repeat' (first | with_reducible exact Ext.refl _ | with_reducible apply Ext.alloc | with_reducible apply Ext.drew))) (Nat.le_refl _)); obtain ⟨f9,g9,gr9,o9⟩:=(HO.out.ext (by repeat' (first | with_reducible exact Ext.refl _ | with_reducible apply Ext.alloc | with_reducible apply Ext.drew))).app hown hgrew; have HO9:=Lib.hid o9; have HG9:=Lib.hid gr9; have HSW:Hid (Wb ≤ w9.heap.size):=Nat.le_trans HSZ.out (Nat.le_trans (Ext.size (by repeat' (first | with_reducible exact Ext.refl _ | with_reducible apply Ext.alloc | with_reducible apply Ext.drew))) hgrew.by'.size); clear o9 gr9 hown hgrew))
           all_goals
            have HFE:Hid (flat3 (SQ0 ++ (List.range (c + 1)).map (fun c:Nat => (qx,(c:Int),(AI:Int))))=flat3 (SQ0 ++ (List.range c).map (fun c:Nat => (qx,(c:Int),(AI:Int)))) ++ [.int .i64 qx,.int .i64 (c:Int),.int .i64 (AI:Int)]):=by
             show _=_
             rw [List.range_succ,List.map_append,← List.append_assoc,flat3_app]; rfl
            obtain ⟨WA,hWA⟩:∃ WA,w9.setCell ⟨G,0,none⟩ (.slice po9 (n + 1) pc9)=WA:=⟨_,rfl⟩
            rw [hWA] at HO9 HG9 ⊢
            have HXA:=Lib.hid (HX9.out.grown HG9.out HO.out.gB.1)
            have HBA:=Lib.hid (HB9.out.kept HG9.out (fun e => hTG (Option.some.inj e)))
            have HSA:Hid (Wb ≤ WA.heap.size):=Nat.le_trans HSW.out HG9.out.size
            have HN1:Hid (n + 1=SN + (c + 1)):=by show _=_; rw [HNE.out]; omega
            clear f9 g9 HG9 HX9 HB9 HSW hWA d0 d0a d1 e1 y2
            go_wp2_with fail
            go_roundw
            case rel => exact ⟨c + 1,_,n + 1,by omega,by go_num,by rw [HFE.out]; exact HO9.out,HN1.out,HST9.out,HBA.out,HSA.out,HXA.out⟩
            case measure => simp [intOf]; omega
         · have hce:c=nx:=by omega
           subst hce
           have hge:¬ (c:Int) < (c:Int):=by omega
           obtain ⟨c0x,rfl⟩:∃ c0x:Nat,c0x=c:=⟨_,rfl⟩
           obtain ⟨wq2,rfl⟩:∃ wq2:World,wq2=wr:=⟨_,rfl⟩
           have HSXE:Hid ((seqsL T px (i + 1)).length=n ∧ flat3 (seqsL T px (i + 1))=flat3 (SQ0 ++ (List.range c0x).map (fun c:Nat => (qx,(c:Int),(AI:Int))))):=by
            rw [HSQ.out]
            exact ⟨by rw [List.length_append,List.length_map,List.length_range,HSN0.out,HNE.out],rfl⟩
           obtain ⟨SX,hSX⟩:∃ SX,flat3 (SQ0 ++ (List.range c0x).map (fun c:Nat => (qx,(c:Int),(AI:Int))))=SX:=⟨_,rfl⟩
           rw [hSX] at HO HSXE
           obtain ⟨SL,rfl⟩:∃ SL,SL=n:=⟨_,rfl⟩
           have HO2:=HO
           have HX2:=Lib.hid X
           have HB2:=HB
           have HS2:=HSZ
           have y0:=HB.out.c0
           have y1:=HB.out.c1
           have y2:=HB.out.c2
           have y3:=HB.out.c3
           clear hlc hSX HO X HB HSZ HNE HSQ
           go_wp2_with fail
           clear y0 y1 y2 y3
           go_loopw [87] (fun jv wr => ∃ (c:Nat) (ats:List Value),c ≤ c0x ∧ jv=.int .i64 c ∧ Hid (OfS wo.heap.size G A M wr sv SL SX N ats (i + 1) FF) ∧ Hid (ats.length=N) ∧ Hid (∀ k,k < N → doneP T i c k → ats[k]?=some (.int .i64 ((atN T px k:Nat):Int))) ∧ Hid (NB4 wr T7 2 px qx (.slice no c0x nc)) ∧ Hid (Wb ≤ wr.heap.size) ∧ Ext wo wr) (fun jv _ => c0x - (intOf jv).toNat)
           case atStart => exact ⟨0,ats,Nat.zero_le _,rfl,HO2.out,HAL.out,HDN.out,HB2.out,HS2.out,HX2.out⟩
           case round =>
            clear HO2 HAL HDN HB2 HS2 HX2
            obtain ⟨c,ats,hc,rfl,HO,HAL,HDN,HB,HSZ,X⟩:=hrel
            by_cases hlc:c < c0x
            · obtain ⟨kk,k1,_,_⟩:=get_lt (xs:=x.next) (k:=c) (by rw [HNX.out]; exact hlc)
              have hch:=HCH.out _ _ _ _ HXI.out k1.out
              obtain ⟨m,rfl⟩:∃ m:Nat,kk=(m:Int):=⟨kk.toNat,by omega⟩
              obtain ⟨nb,noff,rfl,hk0⟩:=(HNC.out.ext X).at k1
              have hk0:wr.cell? ⟨nb,noff + c,none⟩=some (.int .i64 (m:Int)):=hk0
              have hmN:m < N:=by have:=HNN.out; omega
              have him:i < m:=by omega
              have HEI:=Lib.hid (HDN.out i hlt (HDI.out _ (by rw [HNN.out]; exact hlt) c))
              have HDS2:=Lib.hid (fun (k:Nat) (hd:doneP T i (c + 1) k) => HDS.out _ _ _ _ _ HXI.out k1.out hd)
              have HATM:=Lib.hid (atN_own hT hr HXI.out k1.out HKX.out HPX.out HFI.out)
              obtain ⟨AI,hAI⟩:∃ AI,atN T px i=AI:=⟨_,rfl⟩
              have HAI:=Lib.hid hAI
              rw [hAI] at HEI
              obtain ⟨d0,d1⟩:=HO.out.cells
              have e1:=HO.out.at' HEI.out
              obtain ⟨f1,g1,o1⟩:=(HO.out.ext ((Ext.refl wr).drew)).set m (.int .i64 (AI:Int))
              have hold:∃ u0,ats[m]?=some u0:=⟨ats[m]'(by have:=HAL.out; omega),List.getElem?_eq_getElem _⟩
              obtain ⟨u0,hu0⟩:=hold
              have e2:=HO.out.at' hu0
              have f1:wr.frozen? ⟨A,m,none⟩=false:=f1
              have hci:(c:Int) < (c0x:Int):=by omega
              have hn6i:(c0x:Int) ≤ 6:=by omega
              have hiN:(i:Int) < (N:Int):=by omega
              have hmi:(m:Int) < (N:Int):=by omega
              have y0:=HB.out.c0
              have y1:=HB.out.c1
              have y2:=HB.out.c2
              obtain ⟨W8,hW8⟩:∃ W8,wr.drew.setCell ⟨A,m,none⟩ (.int .i64 (AI:Int))=W8:=⟨_,rfl⟩
              rw [hW8] at g1 o1
              have HO8:=Lib.hid o1
              have HB8:=Lib.hid ((HB.out.ext ((Ext.refl wr).drew)).kept g1 (fun e => hTA (Option.some.inj e)))
              have HX8:=Lib.hid ((X.trans ((Ext.refl wr).drew)).grown g1 HO.out.aB.1)
              have HS8:Hid (Wb ≤ W8.heap.size):=Nat.le_trans HSZ.out g1.size
              have HAL8:Hid ((ats.set m (.int .i64 (AI:Int))).length=N):=by show _=_; rw [List.length_set]; exact HAL.out
              have HDR:Hid (∀ k,k ≠ m → k < N → doneP T i (c + 1) k → ats[k]?=some (.int .i64 ((atN T px k:Nat):Int))):=fun k hkm hk hd => by
               rcases HDS2.out _ hd with e | ⟨_,hd2⟩
               · exact absurd e hkm
               · exact HDN.out k hk hd2
              clear hlc hch k1 HDN HDS2 hAI g1 o1 HSZ hu0 HAL
              go_wp2_with fail
              go_region
              clear f1 e1 e2 hk0 y0 y1 y2 hW8 d0 d1
              have y0:=HB8.out.c0
              have y1:=HB8.out.c1
              have y2:=HB8.out.c2
              obtain ⟨d0,d1⟩:=HO8.out.cells
              obtain ⟨f2,g2,o2⟩:=(HO8.out.ext ((Ext.refl W8).drew)).set m (.int .i64 ((SN:Int) + (c:Int)))
              have f2:W8.frozen? ⟨A,m,none⟩=false:=f2
              have e3:=HO8.out.at' (i:=m) (u:=.int .i64 (AI:Int)) (by rw [List.getElem?_set_self (by have:=HAL8.out; rw [List.length_set] at this; omega)])
              have hlk:=(HO8.out.ext ((Ext.refl W8).drew)).look HDM.out HFL.out
              have hlk2:(Instr.lookup 103 (.map (some M)) (.int .i64 qx) false).run Tryz.prog W8.drew=.ok (.int .i64 (SN:Int)) W8.drew:=hlk
              have hsn:=HSN.out
              have hsum:IntKind.i64.wrap ((SN:Int) + (c:Int))=(SN:Int) + (c:Int):=IntWalk.i64_in _ (by omega)
              obtain ⟨W9,hW9⟩:∃ W9,W8.drew.setCell ⟨A,m,none⟩ (.int .i64 ((SN:Int) + (c:Int)))=W9:=⟨_,rfl⟩
              rw [hW9] at g2 o2
              rw [List.set_set] at o2
              have HO9:=Lib.hid o2
              have HB9:=Lib.hid ((HB8.out.ext ((Ext.refl W8).drew)).kept g2 (fun e => hTA (Option.some.inj e)))
              have HX9:=Lib.hid ((HX8.out.trans ((Ext.refl W8).drew)).grown g2 HO8.out.aB.1)
              have HS9:Hid (Wb ≤ W9.heap.size):=Nat.le_trans HS8.out g2.size
              have HAL9:Hid ((ats.set m (.int .i64 ((SN:Int) + (c:Int)))).length=N):=by have:=HAL8.out; show _=_; rw [List.length_set] at this ⊢; exact this
              have HDF:Hid (∀ k,k < N → doneP T i (c + 1) k → (ats.set m (.int .i64 ((SN:Int) + (c:Int))))[k]?=some (.int .i64 ((atN T px k:Nat):Int))):=fun k hk hd => by
               by_cases hkm:k=m
               · subst hkm
                 rw [List.getElem?_set_self (by have:=HAL8.out; rw [List.length_set] at this; omega),HATM.out,HSNE.out,Int.natCast_add]
               · rw [List.getElem?_set_ne (fun e => hkm e.symm)]
                 exact HDR.out k hkm hk hd
              clear hlk g2 o2
              go_wp2_with fail
              go_region
              clear f2 e3 hlk2 hsum y0 y1 y2 hW9 d0 d1 hsn
              go_wp2_with fail
              go_roundw
              case rel => exact ⟨c + 1,_,by omega,by go_num,HO9.out,HAL9.out,HDF.out,HB9.out,HS9.out,HX9.out⟩
              case measure => simp [intOf]; omega
            · have hce:c=c0x:=by omega
              subst hce
              have HDF:Hid (∀ k,k < N → doneP T (i + 1) 0 k → ats[k]?=some (.int .i64 ((atN T px k:Nat):Int))):=fun k hk hd => HDN.out k hk (by have:=hd.next HXI.out; rwa [HNX.out] at this)
              have hge:¬ (c:Int) < (c:Int):=by omega
              clear hlc HDN
              go_wp2_with fail
              go_roundw
              case rel => exact ⟨i + 1,sv,ats,by omega,by go_num,by rw [HSXE.out.1,HSXE.out.2,HFF.out]; exact HO.out,HAL.out,HDF.out,HSZ.out,X⟩
              case measure => simp [intOf]; omega
      | some j =>
        have HF2:Hid (startF T px i qx=some (.int .i64 (((waysL T px j).length:Nat):Int))):=by show _=_; unfold startF startM; rw [hf]; rfl
        have hfx:firstI T px i x.info=some j:=by rw [HQX.out]; exact hf
        have hji:j < i:=by obtain ⟨_,h,_⟩:=firstI_some hfx; exact h
        have hkeep:=firstI_keep HXI.out hfx
        have HFI:Hid (firstI T px (i + 1) x.info=some j):=by show _=_; rw [hkeep]; exact hfx
        have HSXE:=Lib.hid (seqs_stale (p:=px) HXI.out (.inr ⟨HKX.out,HPX.out,by rw [hfx]; simp⟩))
        have HFE:=Lib.hid (startF_keep hkeep)
        have hwl:=HWL.out j (by rw [HNN.out]; omega)
        obtain ⟨SN,hSN⟩:∃ SN,(waysL T px j).length=SN:=⟨_,rfl⟩
        have HSNE:=Lib.hid hSN
        rw [hSN] at HF2 hwl
        have HSN:=Lib.hid hwl
        have HFL:Hid (startF T px (i + 1) qx=some (.int .i64 (SN:Int))):=by show _=_; rw [HFE.out]; exact HF2.out
        obtain ⟨SL,hSL⟩:∃ SL,(seqsL T px i).length=SL:=⟨_,rfl⟩
        obtain ⟨SX,hSX⟩:∃ SX,flat3 (seqsL T px i)=SX:=⟨_,rfl⟩
        have HO2:Hid (OfS wo.heap.size G A M W1 sv SL SX N ats (i + 1) (startF T px (i + 1))):=by
         show OfS _ _ _ _ _ _ _ _ _ _ _ _
         rw [HFE.out,← hSL,← hSX]
         exact HO1.out.mono (Nat.le_succ i)
        have HSXE:Hid ((seqsL T px (i + 1)).length=SL ∧ flat3 (seqsL T px (i + 1))=SX):=by rw [HSXE.out]; exact ⟨hSL,hSX⟩
        obtain ⟨FF,hFF⟩:∃ FF,startF T px (i + 1)=FF:=⟨_,rfl⟩
        have HFF:=Lib.hid hFF
        rw [hFF] at HO2 HFL
        have HX2:=HX1
        have HB2:=HB1
        have HS2:=HS1
        clear HB1 HX1 HS1 hSL hSX hFF HFE HSI hf hfx hkeep hSN hwl hw1 hw2 hq1 hq2 hji
        go_wp2_with (first | (at_lookup; go_must (refine wp_look rfl rfl (keyE_int Tryz.underlying3) Tryz.underlying103 (zeroI _) rfl HO1.out.mp rfl HDM.out HF2.out ?_)))
        clear y0 y1 y2 y3 HO1 HF2
        go_loopw [87] (fun jv wr => ∃ (c:Nat) (ats:List Value),c ≤ nx ∧ jv=.int .i64 c ∧ Hid (OfS wo.heap.size G A M wr sv SL SX N ats (i + 1) FF) ∧ Hid (ats.length=N) ∧ Hid (∀ k,k < N → doneP T i c k → ats[k]?=some (.int .i64 ((atN T px k:Nat):Int))) ∧ Hid (NB4 wr T7 2 px qx (.slice no nx nc)) ∧ Hid (Wb ≤ wr.heap.size) ∧ Ext wo wr) (fun jv _ => nx - (intOf jv).toNat)
        case atStart => exact ⟨0,ats,Nat.zero_le _,rfl,HO2.out,HAL.out,HDN.out,HB2.out,HS2.out,HX2.out⟩
        case round =>
         clear HO2 HAL HDN HB2 HS2 HX2
         obtain ⟨c,ats,hc,rfl,HO,HAL,HDN,HB,HSZ,X⟩:=hrel
         by_cases hlc:c < nx
         · obtain ⟨kk,k1,_,_⟩:=get_lt (xs:=x.next) (k:=c) (by rw [HNX.out]; exact hlc)
           have hch:=HCH.out _ _ _ _ HXI.out k1.out
           obtain ⟨m,rfl⟩:∃ m:Nat,kk=(m:Int):=⟨kk.toNat,by omega⟩
           obtain ⟨nb,noff,rfl,hk0⟩:=(HNC.out.ext X).at k1
           have hk0:wr.cell? ⟨nb,noff + c,none⟩=some (.int .i64 (m:Int)):=hk0
           have hmN:m < N:=by have:=HNN.out; omega
           have him:i < m:=by omega
           have HEI:=Lib.hid (HDN.out i hlt (HDI.out _ (by rw [HNN.out]; exact hlt) c))
           have HDS2:=Lib.hid (fun (k:Nat) (hd:doneP T i (c + 1) k) => HDS.out _ _ _ _ _ HXI.out k1.out hd)
           have HATM:=Lib.hid (atN_own hT hr HXI.out k1.out HKX.out HPX.out HFI.out)
           obtain ⟨AI,hAI⟩:∃ AI,atN T px i=AI:=⟨_,rfl⟩
           have HAI:=Lib.hid hAI
           rw [hAI] at HEI
           obtain ⟨d0,d1⟩:=HO.out.cells
           have e1:=HO.out.at' HEI.out
           obtain ⟨f1,g1,o1⟩:=(HO.out.ext ((Ext.refl wr).drew)).set m (.int .i64 (AI:Int))
           have hold:∃ u0,ats[m]?=some u0:=⟨ats[m]'(by have:=HAL.out; omega),List.getElem?_eq_getElem _⟩
           obtain ⟨u0,hu0⟩:=hold
           have e2:=HO.out.at' hu0
           have f1:wr.frozen? ⟨A,m,none⟩=false:=f1
           have hci:(c:Int) < (nx:Int):=by omega
           have hn6i:(nx:Int) ≤ 6:=by omega
           have hiN:(i:Int) < (N:Int):=by omega
           have hmi:(m:Int) < (N:Int):=by omega
           have y0:=HB.out.c0
           have y1:=HB.out.c1
           have y2:=HB.out.c2
           obtain ⟨W8,hW8⟩:∃ W8,wr.drew.setCell ⟨A,m,none⟩ (.int .i64 (AI:Int))=W8:=⟨_,rfl⟩
           rw [hW8] at g1 o1
           have HO8:=Lib.hid o1
           have HB8:=Lib.hid ((HB.out.ext ((Ext.refl wr).drew)).kept g1 (fun e => hTA (Option.some.inj e)))
           have HX8:=Lib.hid ((X.trans ((Ext.refl wr).drew)).grown g1 HO.out.aB.1)
           have HS8:Hid (Wb ≤ W8.heap.size):=Nat.le_trans HSZ.out g1.size
           have HAL8:Hid ((ats.set m (.int .i64 (AI:Int))).length=N):=by show _=_; rw [List.length_set]; exact HAL.out
           have HDR:Hid (∀ k,k ≠ m → k < N → doneP T i (c + 1) k → ats[k]?=some (.int .i64 ((atN T px k:Nat):Int))):=fun k hkm hk hd => by
            rcases HDS2.out _ hd with e | ⟨_,hd2⟩
            · exact absurd e hkm
            · exact HDN.out k hk hd2
           clear hlc hch k1 HDN HDS2 hAI g1 o1 HSZ hu0 HAL
           go_wp2_with fail
           go_region
           clear f1 e1 e2 hk0 y0 y1 y2 hW8 d0 d1
           have y0:=HB8.out.c0
           have y1:=HB8.out.c1
           have y2:=HB8.out.c2
           obtain ⟨d0,d1⟩:=HO8.out.cells
           obtain ⟨f2,g2,o2⟩:=(HO8.out.ext ((Ext.refl W8).drew)).set m (.int .i64 ((SN:Int) + (c:Int)))
           have f2:W8.frozen? ⟨A,m,none⟩=false:=f2
           have e3:=HO8.out.at' (i:=m) (u:=.int .i64 (AI:Int)) (by rw [List.getElem?_set_self (by have:=HAL8.out; rw [List.length_set] at this; omega)])
           have hlk:=(HO8.out.ext ((Ext.refl W8).drew)).look HDM.out HFL.out
           have hlk2:(Instr.lookup 103 (.map (some M)) (.int .i64 qx) false).run Tryz.prog W8.drew=.ok (.int .i64 (SN:Int)) W8.drew:=hlk
           have hsn:=HSN.out
           have hsum:IntKind.i64.wrap ((SN:Int) + (c:Int))=(SN:Int) + (c:Int):=IntWalk.i64_in _ (by omega)
           obtain ⟨W9,hW9⟩:∃ W9,W8.drew.setCell ⟨A,m,none⟩ (.int .i64 ((SN:Int) + (c:Int)))=W9:=⟨_,rfl⟩
           rw [hW9] at g2 o2
           rw [List.set_set] at o2
           have HO9:=Lib.hid o2
           have HB9:=Lib.hid ((HB8.out.ext ((Ext.refl W8).drew)).kept g2 (fun e => hTA (Option.some.inj e)))
           have HX9:=Lib.hid ((HX8.out.trans ((Ext.refl W8).drew)).grown g2 HO8.out.aB.1)
           have HS9:Hid (Wb ≤ W9.heap.size):=Nat.le_trans HS8.out g2.size
           have HAL9:Hid ((ats.set m (.int .i64 ((SN:Int) + (c:Int)))).length=N):=by have:=HAL8.out; show _=_; rw [List.length_set] at this ⊢; exact this
           have HDF:Hid (∀ k,k < N → doneP T i (c + 1) k → (ats.set m (.int .i64 ((SN:Int) + (c:Int))))[k]?=some (.int .i64 ((atN T px k:Nat):Int))):=fun k hk hd => by
            by_cases hkm:k=m
            · subst hkm
              rw [List.getElem?_set_self (by have:=HAL8.out; rw [List.length_set] at this; omega),HATM.out,HSNE.out,Int.natCast_add]
            · rw [List.getElem?_set_ne (fun e => hkm e.symm)]
              exact HDR.out k hkm hk hd
           clear hlk g2 o2
           go_wp2_with fail
           go_region
           clear f2 e3 hlk2 hsum y0 y1 y2 hW9 d0 d1 hsn
           go_wp2_with fail
           go_roundw
           case rel => exact ⟨c + 1,_,by omega,by go_num,HO9.out,HAL9.out,HDF.out,HB9.out,HS9.out,HX9.out⟩
           case measure => simp [intOf]; omega
         · have hce:c=nx:=by omega
           subst hce
           have HDF:Hid (∀ k,k < N → doneP T (i + 1) 0 k → ats[k]?=some (.int .i64 ((atN T px k:Nat):Int))):=fun k hk hd => HDN.out k hk (by have:=hd.next HXI.out; rwa [HNX.out] at this)
           have hge:¬ (c:Int) < (c:Int):=by omega
           clear hlc HDN
           go_wp2_with fail
           go_roundw
           case rel => exact ⟨i + 1,sv,ats,by omega,by go_num,by rw [HSXE.out.1,HSXE.out.2,HFF.out]; exact HO.out,HAL.out,HDF.out,HSZ.out,X⟩
           case measure => simp [intOf]; omega
    · have HNO:Hid (¬ (x.kind=2 ∧ x.player=p)):=by rw [HKX.out,HPX.out]; exact hkp
      have HSXE:=Lib.hid (seqs_stale HXI.out (.inl HNO.out))
      have HFE:=Lib.hid (startF_keep (firstI_skip HXI.out HNO.out))
      obtain ⟨SL,hSL⟩:∃ SL,(seqsL T p i).length=SL:=⟨_,rfl⟩
      obtain ⟨SX,hSX⟩:∃ SX,flat3 (seqsL T p i)=SX:=⟨_,rfl⟩
      have HO2:Hid (OfS wo.heap.size G A M W1 sv SL SX N ats (i + 1) (startF T p (i + 1))):=by
       show OfS _ _ _ _ _ _ _ _ _ _ _ _
       rw [HFE.out,← hSL,← hSX]
       exact HO1.out.mono (Nat.le_succ i)
      have HSXE:Hid ((seqsL T p (i + 1)).length=SL ∧ flat3 (seqsL T p (i + 1))=SX):=by rw [HSXE.out]; exact ⟨hSL,hSX⟩
      obtain ⟨FF,hFF⟩:∃ FF,startF T p (i + 1)=FF:=⟨_,rfl⟩
      have HFF:=Lib.hid hFF
      rw [hFF] at HO2
      have HX2:=HX1
      have HB2:=HB1
      have HS2:=HS1
      clear HO1 HB1 HX1 HS1 hSL hSX hFF HFE HSI
      by_cases hk:kx=2
      · subst hk
        have bf:(px == p)=false:=by rw [beq_eq_false_iff_ne]; exact fun e => hkp ⟨rfl,e⟩
        clear hkp
        go_wp2_with fail
        clear y0 y1 y2 y3
        go_loopw [87] (fun jv wr => ∃ (c:Nat) (ats:List Value),c ≤ nx ∧ jv=.int .i64 c ∧ Hid (OfS wo.heap.size G A M wr sv SL SX N ats (i + 1) FF) ∧ Hid (ats.length=N) ∧ Hid (∀ k,k < N → doneP T i c k → ats[k]?=some (.int .i64 ((atN T p k:Nat):Int))) ∧ Hid (NB4 wr T7 2 px qx (.slice no nx nc)) ∧ Hid (Wb ≤ wr.heap.size) ∧ Ext wo wr) (fun jv _ => nx - (intOf jv).toNat)
        case atStart => exact ⟨0,ats,Nat.zero_le _,rfl,HO2.out,HAL.out,HDN.out,HB2.out,HS2.out,HX2.out⟩
        case round =>
         clear HO2 HAL HDN HB2 HS2 HX2
         obtain ⟨c,ats,hc,rfl,HO,HAL,HDN,HB,HSZ,X⟩:=hrel
         by_cases hlc:c < nx
         · obtain ⟨kk,k1,_,_⟩:=get_lt (xs:=x.next) (k:=c) (by rw [HNX.out]; exact hlc)
           have hch:=HCH.out _ _ _ _ HXI.out k1.out
           obtain ⟨m,rfl⟩:∃ m:Nat,kk=(m:Int):=⟨kk.toNat,by omega⟩
           obtain ⟨nb,noff,rfl,hk0⟩:=(HNC.out.ext X).at k1
           have hk0:wr.cell? ⟨nb,noff + c,none⟩=some (.int .i64 (m:Int)):=hk0
           have hmN:m < N:=by have:=HNN.out; omega
           have him:i < m:=by omega
           have HEI:=Lib.hid (HDN.out i hlt (HDI.out _ (by rw [HNN.out]; exact hlt) c))
           have HDS2:=Lib.hid (fun (k:Nat) (hd:doneP T i (c + 1) k) => HDS.out _ _ _ _ _ HXI.out k1.out hd)
           have HATM:=Lib.hid (atN_same hT (p:=p) HXI.out k1.out HNO.out)
           obtain ⟨AI,hAI⟩:∃ AI,atN T p i=AI:=⟨_,rfl⟩
           have HAI:=Lib.hid hAI
           rw [hAI] at HEI
           obtain ⟨d0,d1⟩:=HO.out.cells
           have e1:=HO.out.at' HEI.out
           obtain ⟨f1,g1,o1⟩:=(HO.out.ext ((Ext.refl wr).drew)).set m (.int .i64 (AI:Int))
           have hold:∃ u0,ats[m]?=some u0:=⟨ats[m]'(by have:=HAL.out; omega),List.getElem?_eq_getElem _⟩
           obtain ⟨u0,hu0⟩:=hold
           have e2:=HO.out.at' hu0
           have f1:wr.frozen? ⟨A,m,none⟩=false:=f1
           have hci:(c:Int) < (nx:Int):=by omega
           have hn6i:(nx:Int) ≤ 6:=by omega
           have hiN:(i:Int) < (N:Int):=by omega
           have hmi:(m:Int) < (N:Int):=by omega
           have y0:=HB.out.c0
           have y1:=HB.out.c1
           have y2:=HB.out.c2
           obtain ⟨W8,hW8⟩:∃ W8,wr.drew.setCell ⟨A,m,none⟩ (.int .i64 (AI:Int))=W8:=⟨_,rfl⟩
           rw [hW8] at g1 o1
           have HO8:=Lib.hid o1
           have HB8:=Lib.hid ((HB.out.ext ((Ext.refl wr).drew)).kept g1 (fun e => hTA (Option.some.inj e)))
           have HX8:=Lib.hid ((X.trans ((Ext.refl wr).drew)).grown g1 HO.out.aB.1)
           have HS8:Hid (Wb ≤ W8.heap.size):=Nat.le_trans HSZ.out g1.size
           have HAL8:Hid ((ats.set m (.int .i64 (AI:Int))).length=N):=by show _=_; rw [List.length_set]; exact HAL.out
           have HDR:Hid (∀ k,k ≠ m → k < N → doneP T i (c + 1) k → ats[k]?=some (.int .i64 ((atN T p k:Nat):Int))):=fun k hkm hk hd => by
            rcases HDS2.out _ hd with e | ⟨_,hd2⟩
            · exact absurd e hkm
            · exact HDN.out k hk hd2
           clear hlc hch k1 HDN HDS2 hAI g1 o1 HSZ hu0 HAL
           go_wp2_with fail
           go_region
           clear f1 e1 e2 hk0 y0 y1 y2 hW8 d0 d1
           have HDF:Hid (∀ k,k < N → doneP T i (c + 1) k → (ats.set m (.int .i64 (AI:Int)))[k]?=some (.int .i64 ((atN T p k:Nat):Int))):=fun k hk hd => by
            by_cases hkm:k=m
            · subst hkm
              rw [List.getElem?_set_self (by have:=HAL8.out; rw [List.length_set] at this; omega),HATM.out,HAI.out]
            · rw [List.getElem?_set_ne (fun e => hkm e.symm)]
              exact HDR.out k hkm hk hd
           go_wp2_with fail
           go_roundw
           case rel => exact ⟨c + 1,_,by omega,by go_num,HO8.out,HAL8.out,HDF.out,HB8.out,HS8.out,HX8.out⟩
           case measure => simp [intOf]; omega
         · have hce:c=nx:=by omega
           subst hce
           have HDF:Hid (∀ k,k < N → doneP T (i + 1) 0 k → ats[k]?=some (.int .i64 ((atN T p k:Nat):Int))):=fun k hk hd => HDN.out k hk (by have:=hd.next HXI.out; rwa [HNX.out] at this)
           have hge:¬ (c:Int) < (c:Int):=by omega
           clear hlc HDN
           go_wp2_with fail
           go_roundw
           case rel => exact ⟨i + 1,sv,ats,by omega,by go_num,by rw [HSXE.out.1,HSXE.out.2,HFF.out]; exact HO.out,HAL.out,HDF.out,HSZ.out,X⟩
           case measure => simp [intOf]; omega
      · have bf:(kx == 2)=false:=by rw [beq_eq_false_iff_ne]; exact hk
        clear hkp hk
        go_wp2_with fail
        clear y0 y1 y2 y3
        go_loopw [87] (fun jv wr => ∃ (c:Nat) (ats:List Value),c ≤ nx ∧ jv=.int .i64 c ∧ Hid (OfS wo.heap.size G A M wr sv SL SX N ats (i + 1) FF) ∧ Hid (ats.length=N) ∧ Hid (∀ k,k < N → doneP T i c k → ats[k]?=some (.int .i64 ((atN T p k:Nat):Int))) ∧ Hid (NB4 wr T7 kx px qx (.slice no nx nc)) ∧ Hid (Wb ≤ wr.heap.size) ∧ Ext wo wr) (fun jv _ => nx - (intOf jv).toNat)
        case atStart => exact ⟨0,ats,Nat.zero_le _,rfl,HO2.out,HAL.out,HDN.out,HB2.out,HS2.out,HX2.out⟩
        case round =>
         clear HO2 HAL HDN HB2 HS2 HX2
         obtain ⟨c,ats,hc,rfl,HO,HAL,HDN,HB,HSZ,X⟩:=hrel
         by_cases hlc:c < nx
         · obtain ⟨kk,k1,_,_⟩:=get_lt (xs:=x.next) (k:=c) (by rw [HNX.out]; exact hlc)
           have hch:=HCH.out _ _ _ _ HXI.out k1.out
           obtain ⟨m,rfl⟩:∃ m:Nat,kk=(m:Int):=⟨kk.toNat,by omega⟩
           obtain ⟨nb,noff,rfl,hk0⟩:=(HNC.out.ext X).at k1
           have hk0:wr.cell? ⟨nb,noff + c,none⟩=some (.int .i64 (m:Int)):=hk0
           have hmN:m < N:=by have:=HNN.out; omega
           have him:i < m:=by omega
           have HEI:=Lib.hid (HDN.out i hlt (HDI.out _ (by rw [HNN.out]; exact hlt) c))
           have HDS2:=Lib.hid (fun (k:Nat) (hd:doneP T i (c + 1) k) => HDS.out _ _ _ _ _ HXI.out k1.out hd)
           have HATM:=Lib.hid (atN_same hT (p:=p) HXI.out k1.out HNO.out)
           obtain ⟨AI,hAI⟩:∃ AI,atN T p i=AI:=⟨_,rfl⟩
           have HAI:=Lib.hid hAI
           rw [hAI] at HEI
           obtain ⟨d0,d1⟩:=HO.out.cells
           have e1:=HO.out.at' HEI.out
           obtain ⟨f1,g1,o1⟩:=(HO.out.ext ((Ext.refl wr).drew)).set m (.int .i64 (AI:Int))
           have hold:∃ u0,ats[m]?=some u0:=⟨ats[m]'(by have:=HAL.out; omega),List.getElem?_eq_getElem _⟩
           obtain ⟨u0,hu0⟩:=hold
           have e2:=HO.out.at' hu0
           have f1:wr.frozen? ⟨A,m,none⟩=false:=f1
           have hci:(c:Int) < (nx:Int):=by omega
           have hn6i:(nx:Int) ≤ 6:=by omega
           have hiN:(i:Int) < (N:Int):=by omega
           have hmi:(m:Int) < (N:Int):=by omega
           have y0:=HB.out.c0
           have y1:=HB.out.c1
           have y2:=HB.out.c2
           obtain ⟨W8,hW8⟩:∃ W8,wr.drew.setCell ⟨A,m,none⟩ (.int .i64 (AI:Int))=W8:=⟨_,rfl⟩
           rw [hW8] at g1 o1
           have HO8:=Lib.hid o1
           have HB8:=Lib.hid ((HB.out.ext ((Ext.refl wr).drew)).kept g1 (fun e => hTA (Option.some.inj e)))
           have HX8:=Lib.hid ((X.trans ((Ext.refl wr).drew)).grown g1 HO.out.aB.1)
           have HS8:Hid (Wb ≤ W8.heap.size):=Nat.le_trans HSZ.out g1.size
           have HAL8:Hid ((ats.set m (.int .i64 (AI:Int))).length=N):=by show _=_; rw [List.length_set]; exact HAL.out
           have HDR:Hid (∀ k,k ≠ m → k < N → doneP T i (c + 1) k → ats[k]?=some (.int .i64 ((atN T p k:Nat):Int))):=fun k hkm hk hd => by
            rcases HDS2.out _ hd with e | ⟨_,hd2⟩
            · exact absurd e hkm
            · exact HDN.out k hk hd2
           clear hlc hch k1 HDN HDS2 hAI g1 o1 HSZ hu0 HAL
           go_wp2_with fail
           go_region
           clear f1 e1 e2 hk0 y0 y1 y2 hW8 d0 d1
           have HDF:Hid (∀ k,k < N → doneP T i (c + 1) k → (ats.set m (.int .i64 (AI:Int)))[k]?=some (.int .i64 ((atN T p k:Nat):Int))):=fun k hk hd => by
            by_cases hkm:k=m
            · subst hkm
              rw [List.getElem?_set_self (by have:=HAL8.out; rw [List.length_set] at this; omega),HATM.out,HAI.out]
            · rw [List.getElem?_set_ne (fun e => hkm e.symm)]
              exact HDR.out k hkm hk hd
           go_wp2_with fail
           go_roundw
           case rel => exact ⟨c + 1,_,by omega,by go_num,HO8.out,HAL8.out,HDF.out,HB8.out,HS8.out,HX8.out⟩
           case measure => simp [intOf]; omega
         · have hce:c=nx:=by omega
           subst hce
           have HDF:Hid (∀ k,k < N → doneP T (i + 1) 0 k → ats[k]?=some (.int .i64 ((atN T p k:Nat):Int))):=fun k hk hd => HDN.out k hk (by have:=hd.next HXI.out; rwa [HNX.out] at this)
           have hge:¬ (c:Int) < (c:Int):=by omega
           clear hlc HDN
           go_wp2_with fail
           go_roundw
           case rel => exact ⟨i + 1,sv,ats,by omega,by go_num,by rw [HSXE.out.1,HSXE.out.2,HFF.out]; exact HO.out,HAL.out,HDF.out,HSZ.out,X⟩
           case measure => simp [intOf]; omega
  · have hie:i=N:=by omega
    subst hie
    have HSE:Hid (SqIn wr sv (seqsL T p T.length)):=by
     show SqIn _ _ _
     rw [HNN.out]
     exact SqO.toIn (B:=wo.heap.size) HO.out.seq
    have HAE:Hid (Ints wr (.slice (some ⟨A,0,none⟩) i i) (atL T p)):=by
     have h1:ats=(atL T p).map (Value.int .i64):=by
      apply List.ext_getElem?
      intro k
      unfold atL
      rw [HNN.out]
      by_cases hk:k < i
      · rw [HDN.out k hk (by have:=HDA.out k (by rw [HNN.out]; exact hk); rwa [HNN.out] at this),List.getElem?_map,List.getElem?_map,List.getElem?_range hk]; rfl
      · rw [List.getElem?_eq_none (by rw [HAL.out]; omega),List.getElem?_eq_none (by simp; omega)]
     have h2:=HO.out.ats
     rw [h1] at h2
     exact own_rowOf h2 (by omega)
    have HCE:=Lib.hid HO.out.cells
    have hge:¬ (i:Int) < (i:Int):=by omega
    clear hlt
    go_wp2_with fail
    go_ret
    exact ⟨_,rfl,G,sv,_,rfl,HCE.out.1,HCE.out.2,HSE.out,HAE.out,X⟩
theorem valid_player {T:List Nd} {p:Int} (h:playerE T p=0):Valid T ∧ (p=0 ∨ p=1):=by
 unfold playerE at h
 by_cases h0:treeE T=0
 · rw [if_neg (by simpa using h0)] at h
   refine ⟨valid_of h0,?_⟩
   by_cases h1:p ≠ 0 ∧ p ≠ 1
   · rw [if_pos h1] at h; cases h
   · omega
 · rw [if_pos h0] at h; exact absurd h h0
section
variable {B:Nat} {w w':World} {sv wv:Value} {n:Nat} {xs:List Value} {pss:List (List (Int × Int))} {us:List Value}
end
theorem bxA {w w':World} {x y v':Value} {e:TypeId} {o:Obj} (h:Grew ((w.alloc (.cells #[x,y] e)).alloc o) (.slice (some ⟨w.heap.size + 1,0,none⟩) 0 0) w' v'):w'.cell? ⟨w.heap.size,0,none⟩=some x ∧ w'.cell? ⟨w.heap.size,1,none⟩=some y:=by
 obtain ⟨h1,h2⟩:=bx2 ((Ext.refl (w.alloc (.cells #[x,y] e))).alloc o)
 exact ⟨h.by'.cell h1 (by simp [Value.ownBlock]),h.by'.cell h2 (by simp [Value.ownBlock])⟩
theorem bxB {w w':World} {x y v':Value} {e:TypeId} {o:Obj} (h:Grew ((w.alloc o).alloc (.cells #[x,y] e)) (.slice (some ⟨w.heap.size,0,none⟩) 0 0) w' v'):w'.cell? ⟨w.heap.size + 1,0,none⟩=some x ∧ w'.cell? ⟨w.heap.size + 1,1,none⟩=some y:=by
 obtain ⟨h1,h2⟩:=bx2 (Ext.refl ((w.alloc o).alloc (.cells #[x,y] e)))
 rw [World.size_alloc] at h1 h2
 exact ⟨h.by'.cell h1 (by simp [Value.ownBlock]),h.by'.cell h2 (by simp [Value.ownBlock])⟩
theorem bxAd {w w':World} {x y v':Value} {e:TypeId} {o:Obj} (h:Grew ((w.alloc (.cells #[x,y] e)).alloc o).drew (.slice (some ⟨w.heap.size + 1,0,none⟩) 0 0) w' v'):w'.cell? ⟨w.heap.size,0,none⟩=some x ∧ w'.cell? ⟨w.heap.size,1,none⟩=some y:=by
 obtain ⟨h1,h2⟩:=bx2 (((Ext.refl (w.alloc (.cells #[x,y] e))).alloc o).drew)
 exact ⟨h.by'.cell h1 (by simp [Value.ownBlock]),h.by'.cell h2 (by simp [Value.ownBlock])⟩
theorem bxBd {w w':World} {x y v':Value} {e:TypeId} {o:Obj} (h:Grew ((w.alloc o).alloc (.cells #[x,y] e)).drew (.slice (some ⟨w.heap.size,0,none⟩) 0 0) w' v'):w'.cell? ⟨w.heap.size + 1,0,none⟩=some x ∧ w'.cell? ⟨w.heap.size + 1,1,none⟩=some y:=by
 obtain ⟨h1,h2⟩:=bx2 ((Ext.refl ((w.alloc o).alloc (.cells #[x,y] e))).drew)
 rw [World.size_alloc] at h1 h2
 exact ⟨h.by'.cell h1 (by simp [Value.ownBlock]),h.by'.cell h2 (by simp [Value.ownBlock])⟩
end Go.Proofs.YtcggohkbmhdohaaGreatDoor
