/- texts merged: ShelfD RpP RpQ RpR -/
import Derived.Shelf.Bits.Mul64
import Derived.Test.YtcggohkbmhdohaaGreatDoorProg
import Derived.Test.YtcggohkbmhdohaaGreatDoorRtGI
import Derived.OwnWalk
import Derived.Laws.CopyOwn
import Derived.Deep.RegionLaw
import Derived.Test.YtcggohkbmhdohaaGreatDoorRpMO
import Derived.Test.YtcggohkbmhdohaaGreatDoorRcMN
namespace Go.Proofs.YtcggohkbmhdohaaGreatDoor
open Go.Shelf Go.RowKit
def laysD_ren:Go.Shelf.Ren:=⟨fun | 212 => 111 | 263 => 143 | 264 => 144 | n => n,fun | 46 => 159 | 51 => 167 | 53 => 191 | 146 => 189 | 148 => 192 | n => n,fun n => n⟩
theorem laysD212:Go.Proofs.Lays.n212 Tryz.prog laysD_ren:={
 mixed:=by kernel_rfl
 f212:=Tryz.func111.trans (congrArg some (by kernel_rfl))
 f263:=Tryz.func143.trans (congrArg some (by kernel_rfl))
 f264:=Tryz.func144.trans (congrArg some (by kernel_rfl))
 t46:=Tryz.underlying159
 a46:=Tryz.isAgg159
 z46:=Tryz.sizeOf159
 v46:=Tryz.zeroValue159
 t51:=Tryz.underlying167
 a51:=Tryz.isAgg167
 z51:=Tryz.sizeOf167
 v51:=Tryz.zeroValue167
 t53:=Tryz.underlying191
 a53:=Tryz.isAgg191
 z53:=Tryz.sizeOf191
 v53:=Tryz.zeroValue191
 t146:=Tryz.underlying189
 a146:=Tryz.isAgg189
 z146:=Tryz.sizeOf189
 v146:=Tryz.zeroValue189
 t148:=Tryz.underlying192
 a148:=Tryz.isAgg192
 z148:=Tryz.sizeOf192
 v148:=Tryz.zeroValue192 }
theorem bitsMul (x y:Nat) (hx:x < 18446744073709551616) (hy:y < 18446744073709551616) (w:World) :
 Calls Tryz.prog 111 #[.int .u64 x,.int .u64 y] w fun e w' => e=.returned (.tuple #[.int .u64 ((x * y / 18446744073709551616:Nat):Int),.int .u64 ((x * y % 18446744073709551616:Nat):Int)]) ∧ w'=w :=
 Any.bits_Mul laysD212 x y hx hy w
open Go.RowKit
set_option linter.unusedVariables false
theorem own_heapR {w:World} {B:Nat} {e:TypeId} {g n c:Nat} {vs:List Value} (h:w.ownsRow B e 1 (.slice (some ⟨g,0,none⟩) n c) n vs):∃ cur:List Value,w.heap[g]?=some (.cells cur.toArray e (0,0)) ∧ B ≤ g ∧ cur.length=c ∧ n ≤ c ∧ cur.take n=vs ∧ c ≤ maxLen:=by
 rcases h.2 with ⟨h1,_⟩ | ⟨g',cap,cur,h1,hb,hg,hc,hm,hcs,ht⟩
 · cases h1
 · simp only [Value.slice.injEq,Option.some.injEq,Addr.mk.injEq,and_true,true_and] at h1
   obtain ⟨rfl,rfl⟩:=h1
   refine ⟨cur.toList,by simpa using hg,hb,by simpa using hcs,hc,by simpa using ht,hm⟩
theorem step_copyR {P:Program} {ops:Array Oper} {o:Oper} {a:Act} {w:World} {K:Act → World → Prop} {Q:Exit → Act → World → Prop} {E:Prop} (hgd:o.guard=none) (d s:Operand) (dT sT:TypeId)
 (ho:o.op=.call { callee:=.builtin .copy,args:=#[d,s],argTypes:=#[dT,sT] }) (elem:TypeId) (hu:P.underlying dT=some (.slice elem)) (hsz:(P.info? elem).map (·.size)=some 1)
 (g off dLen dCap:Nat) (ad:Addr) (sLen sCap:Nat) (hd:a.eval d=.slice (some ⟨g,off,none⟩) dLen dCap) (hs:a.eval s=.slice (some ad) sLen sCap)
 (cur:List Value) (t:TypeId) (hg:w.heap[g]?=some (.cells cur.toArray t (0,0))) (cs:List Value) (hn:cs.length=Nat.min sLen dLen)
 (hsrc:∀ j v,cs[j]?=some v → w.cell? (ad.add j)=some v) (hfit:off + cs.length ≤ cur.length) (h1:∀ v ∈ cs,v.oneCell'=true) {kk:Nat} (hk:cs.length=kk)
 (h:Hid ((w.setRow g (splice cur off cs).toArray).heap[g]?=some (.cells (splice cur off cs).toArray t (0,0))) → K (a.put o.dst (goInt kk)) (w.setRow g (splice cur off cs).toArray)) :
 if Region.wanted o (yielded ops a.tmps)=true then Oper.wp P o a w K Q else E:=by
 subst hk
 have hw:Region.wanted o (yielded ops a.tmps)=true:=by simp [Region.wanted,hgd]
 rw [if_pos hw]
 have hrun:=run_copy_row (P:=P) w dT sT o.type elem g off dLen dCap ad sLen sCap cur.toArray t cs hu hsz hg hn hsrc (by simpa using hfit) h1
 unfold Oper.wp
 simp [execOp,ho,resolve,invoke,builtin,hd,hs,hrun,Result.andThen]
 exact h (show _=_ from setRow_heap w g _ _ t _ hg)
def repC (s:ByteArray) (n m:Nat):List Value:=List.replicate m (.string s) ++ List.replicate (n - m) (.string ⟨#[]⟩)
theorem repC_len {s:ByteArray} {n m:Nat} (h:m ≤ n):(repC s n m).length=n:=by unfold repC; simp; omega
theorem repC_step {s:ByteArray} {n m k:Nat} (h:m + k ≤ n):splice (repC s n m) m (List.replicate k (.string s))=repC s n (m + k):=by
 unfold splice repC
 rw [List.take_append_of_le_length (by simp),List.take_replicate,Nat.min_self,List.length_replicate,List.drop_append,List.drop_eq_nil_of_le (by simp),List.length_replicate,List.drop_replicate,List.nil_append,← List.append_assoc,List.replicate_append_replicate]
 congr 2
 omega
theorem repC_get {s:ByteArray} {n m j:Nat} (h:j < m):(repC s n m)[j]?=some (.string s):=by
 unfold repC
 rw [List.getElem?_append_left (by simpa using h),List.getElem?_replicate,if_pos h]
theorem repC_zero (s:ByteArray) (n:Nat):repC s n 0=List.replicate n (.string ⟨#[]⟩):=by unfold repC; simp
theorem repC_all (s:ByteArray) (n:Nat):repC s n n=List.replicate n (.string s):=by unfold repC; simp
theorem heapR_cell {w:World} {e:TypeId} {g j:Nat} {cur:List Value} {u:Value} (h:w.heap[g]?=some (.cells cur.toArray e (0,0))) (hj:cur[j]?=some u):w.cell? ⟨g,j,none⟩=some u:=by
 simp [World.cell?,h,hj]
theorem madeR (n:Nat):(madeCells #[.string ⟨#[]⟩] (n * 1)).toList=List.replicate n (.string ⟨#[]⟩):=by
 apply List.ext_getElem?
 intro i
 by_cases hi:i < n
 · rw [List.getElem?_replicate,if_pos hi,List.getElem?_eq_getElem (by simp [madeCells]; exact hi)]
   simp [madeCells,Nat.mod_one]
 · rw [List.getElem?_eq_none (by simp [madeCells]; omega),List.getElem?_eq_none (by simp; omega)]
set_option maxHeartbeats 3200000 in
set_option maxRecDepth 100000 in
theorem repeat_any (s:ByteArray) (k0 n:Nat) (w:World) (hc:w.cell? ⟨k0,0,none⟩=some (.string s)) (hn1:1 ≤ n) (hn2:n ≤ 1000) :
 Calls Tryz.prog 65 #[.slice (some ⟨k0,0,none⟩) 1 1,.int .i64 n] w fun e w' => ∃ g,e=.returned (.slice (some ⟨g,0,none⟩) n n) ∧ w'.ownsRow w.heap.size 28 1 (.slice (some ⟨g,0,none⟩) n n) n (List.replicate n (.string s)) ∧ Ext w w':=by
 obtain ⟨wo,rfl⟩:∃ wo:World,wo=w:=⟨_,rfl⟩
 have HBM:Hid (∀ W,Calls Tryz.prog 111 #[.int .u64 1,.int .u64 (n:Int)] W fun e W' => e=.returned (.tuple #[.int .u64 0,.int .u64 (n:Int)]) ∧ W'=W):=fun W => by
  have h:=bitsMul 1 n (by omega) (by omega) W
  rw [show 1 * n / 18446744073709551616=0 by omega,show 1 * n % 18446744073709551616=n by omega] at h
  exact h
 have hw1:IntKind.u64.wrap (n:Int)=(n:Int):=by rw [IntKind.wrap_u64]; omega
 have hw2:IntKind.i64.wrap (n:Int)=(n:Int):=by rw [IntKind.wrap_i64]; omega
 have hc0:=hc
 obtain ⟨K7,hK7⟩:∃ K7,wo.heap.size=K7:=⟨_,rfl⟩
 have hk07:k0 < K7:=by have:=World.block_lt_of_cell? wo _ hc; rw [← hK7]; exact this
 obtain ⟨iq,iq1,iq2,iq3,iq4⟩:=ei_rats.info
 go_enter Tryz.func65,Tryz.ntmps65
 go_wp2_with fail
 refine (HBM.out _).mono ?_
 rintro e w2 ⟨rfl,hw⟩
 rw [hw]
 clear hw w2
 obtain ⟨w3,hmk,hm1,hm2⟩:=run_make_full (P:=Tryz.prog) wo K7 32 28 iq (.string ⟨#[]⟩) 1 ei_rats.und iq1 iq2 iq3 .i64 .i64 n (by rw [iq4]; omega) (by unfold maxLen; omega) (by omega)
 have X3:Ext wo w3:=⟨hm2.os,hm2.tape,hm2.output,hm2.size,fun k hk => hm2.block k hk (by simp)⟩
 rw [hK7] at hm1 hmk
 have hm1:w3.ownsRow K7 28 1 (.slice (some ⟨K7,0,none⟩) n n) n (madeCells #[.string ⟨#[]⟩] (n * 1)).toList:=hm1
 rw [madeR] at hm1
 obtain ⟨cur,hg,_,hcl,_,hct,_⟩:=own_heapR hm1
 rw [List.take_of_length_le (by omega),← repC_zero s] at hct
 subst hct
 have hc3:=X3.cell hc0
 have hrun:∀ ty,(Builtin.copy_ #[32,32] ty #[.slice (some ⟨K7,0,none⟩) n n,.slice (some ⟨k0,0,none⟩) 1 1]).run Tryz.prog w3=.ok (goInt 1) (w3.setRow K7 (repC s n 1).toArray):=fun ty => by
  have h:=run_copy_row (P:=Tryz.prog) w3 32 32 ty 28 K7 0 n n ⟨k0,0,none⟩ 1 1 (repC s n 0).toArray 28 [.string s] Tryz.underlying32 (by kernel_rfl) hg (by show 1=min 1 _; omega) (fun j v hj => by
   rw [List.getElem?_singleton] at hj
   split at hj
   · rename_i h0
     subst h0
     cases hj
     exact hc3
   · cases hj) (by rw [List.size_toArray,repC_len (Nat.zero_le _)]; simp; omega) (fun v hv => by rw [List.mem_singleton.1 hv]; rfl)
  have h2:=repC_step (s:=s) (n:=n) (m:=0) (k:=1) (by omega)
  unfold splice at h2
  simp only [Nat.zero_add,List.replicate_one,List.length_singleton] at h2
  simp only [List.length_singleton,Nat.zero_add] at h
  rw [← h2]
  simpa using h
 obtain ⟨W3,hW3⟩:∃ W3,w3.setRow K7 (repC s n 1).toArray=W3:=⟨_,rfl⟩
 rw [hW3] at hrun
 have hg3:Hid (W3.heap[K7]?=some (.cells (repC s n 1).toArray 28 (0,0))):=by
  show _=_
  rw [← hW3]; exact setRow_heap w3 K7 _ _ _ _ hg
 have HX3:Hid (Ext wo W3):=by
  show Ext _ _
  rw [← hW3]; exact below_setRow X3 (by omega) _
 clear hm1 hm2 hg hcl hW3 X3 hc3 hc hc0
 go_wp2_with fail
 clear hrun hmk
 go_loopw [8] (fun mv wr => ∃ (m:Nat),1 ≤ m ∧ m ≤ n ∧ mv=.int .i64 m ∧ Hid (wr.heap[K7]?=some (.cells (repC s n m).toArray 28 (0,0))) ∧ Ext wo wr) (fun mv _ => n - (intOf mv).toNat)
 case atStart => exact ⟨1,Nat.le_refl _,hn1,rfl,hg3,HX3.out⟩
 case round =>
  clear hg3 HX3
  obtain ⟨m,hm1,hm2,rfl,HG,X⟩:=hrel
  by_cases hlt:m < n
  · obtain ⟨k,hk⟩:∃ k,Nat.min m (n - m)=k:=⟨_,rfl⟩
    have hkb:k=min m (n - m):=hk.symm
    have hk1:1 ≤ k ∧ k ≤ m ∧ m + k ≤ n:=by omega
    obtain ⟨hk1,hk2,hk3⟩:=hk1
    have A1:Hid ((List.replicate k (Value.string s)).length=Nat.min m (n - m)):=by show _=_; rw [List.length_replicate]; exact hk.symm
    have A2:Hid (∀ j v,(List.replicate k (Value.string s))[j]?=some v → wr.cell? ((⟨K7,0,none⟩:Addr).add j)=some v):=by
     show ∀ j v,_
     intro j v hj
     rw [List.getElem?_replicate] at hj
     split at hj
     · rename_i h0
       cases hj
       rw [Addr.add_lit,Nat.zero_add]
       exact heapR_cell HG.out (repC_get (by omega))
     · cases hj
    have A3:Hid (m + (List.replicate k (Value.string s)).length ≤ (repC s n m).length):=by show _ ≤ _; rw [List.length_replicate,repC_len hm2]; exact hk3
    have A4:Hid (∀ v ∈ List.replicate k (Value.string s),v.oneCell'=true):=by
     show ∀ v ∈ _,_
     intro v hv
     rw [(List.mem_replicate.1 hv).2]; rfl
    have b1:(m:Int) < (n:Int):=by omega
    have b2:(0:Int) ≤ (m:Int):=by omega
    have b3:¬ n=m:=by omega
    have b4:(m:Int) ≤ (n:Int):=by omega
    have hw3:IntKind.i64.wrap ((m:Int) + (k:Int))=((m + k:Nat):Int):=by rw [IntKind.wrap_i64]; omega
    clear hk hkb hlt
    go_wp2_with fail
    go_region_law (refine step_copyR (o:=⟨some 45,_,_,_,_,_⟩) rfl (.tmp 41) (.tmp 44) 32 32 rfl 28 Tryz.underlying32 (by kernel_rfl) K7 m (n - m) (n - m) ⟨K7,0,none⟩ m n (by go_simp) (by go_simp) (repC s n m) 28 HG.out (List.replicate k (Value.string s)) A1.out A2.out A3.out A4.out (by rw [List.length_replicate]) ?_; intro hg4)
    rw [repC_step hk3] at hg4 ⊢
    have X4:Ext wo (wr.drew.setRow K7 (repC s n (m + k)).toArray):=below_setRow (Ext.drew X) (by omega) _
    have HX4:=Lib.hid X4
    generalize wr.drew.setRow K7 (repC s n (m + k)).toArray=W4 at *
    clear HG X X4 A1 A2 A3 A4
    go_wp2_with fail
    try go_simp
    go_roundw
    case rel => exact ⟨m + k,by omega,hk3,by go_num,hg4,HX4.out⟩
    case measure => simp [intOf] <;> omega
  · have hme:m=n:=by omega
    subst hme
    have hge:¬ (m:Int) < (m:Int):=by omega
    clear hlt
    go_wp2_with fail
    go_ret
    refine ⟨K7,rfl,?_,X⟩
    have hg:=HG.out
    rw [repC_all] at hg
    exact ⟨by simp,.inr ⟨K7,m,_,rfl,Nat.le_refl _,hg,Nat.le_refl _,by unfold maxLen; omega,by simp,by simp⟩⟩
set_option linter.unusedSimpArgs false
theorem info_tc:(Tryz.prog.info? 73).map (fun i => (i.zero,i.size,i.bytes))=some (some (.agg #[.int .i64 0,.slice none 0 0]),2,32):=by kernel_rfl
theorem ei_tc:EI Tryz.prog 23 73 (.agg #[.int .i64 0,.slice none 0 0]) 2 32:=⟨Tryz.underlying23,info_parts info_tc,by decide,by decide⟩
def flatC:List (Ch × Value) → List Value
 | [] => []
 | p :: t => .int .i64 p.1.1 :: p.2 :: flatC t
theorem flatC_app:∀ (a b:List (Ch × Value)),flatC (a ++ b)=flatC a ++ flatC b
 | [],b => rfl
 | p :: t,b => by rw [List.cons_append,flatC,flatC_app t b]; rfl
theorem flatC_get:∀ (L:List (Ch × Value)) (i:Nat) (p:Ch × Value),L[i]?=some p → (flatC L)[i * 2]?=some (.int .i64 p.1.1) ∧ (flatC L)[i * 2 + 1]?=some p.2
 | [],i,p,h => by simp at h
 | q :: t,0,p,h => by
   obtain rfl:=Option.some.inj h
   exact ⟨rfl,rfl⟩
 | q :: t,i + 1,p,h => by
   have:=flatC_get t i p (by simpa using h)
   rw [show (i + 1) * 2=i * 2 + 2 by omega]
   exact this
structure CO (w:World) (B:Nat) (v:Value) (L:List (Ch × Value)):Prop where
 row:w.ownsRow B 73 2 v L.length (flatC L)
 rd:∀ p ∈ L,RowX v.ownBlock w p.2 (p.1.2.map Value.string)
theorem CO.nil (w:World) (B:Nat):CO w B (.slice none 0 0) []:=⟨World.ownsRow_nil _ _ _ _,fun p hp => by cases hp⟩
theorem CO.ext {w w':World} {B:Nat} {v:Value} {L:List (Ch × Value)} (h:CO w B v L) (hx:Ext w w'):CO w' B v L :=
 ⟨own_ext h.row hx,fun p hp => (h.rd p hp).ext hx⟩
theorem CO.grew {w w':World} {B:Nat} {v v':Value} {L:List (Ch × Value)} {p:Ch × Value} (h:CO w B v L) (ho:w'.ownsRow B 73 2 v' (L.length + 1) (flatC L ++ [.int .i64 p.1.1,p.2])) (hg:Grew w v w' v')
 (h1:RowX v.ownBlock w p.2 (p.1.2.map Value.string)):CO w' B v' (L ++ [p]):=by
 refine ⟨by rw [List.length_append,List.length_singleton,flatC_app]; exact ho,fun q hq => ?_⟩
 rcases List.mem_append.1 hq with h' | h'
 · exact hg.row (h.rd q h')
 · rw [List.mem_singleton.1 h']; exact hg.row h1
theorem CO.toIn {w:World} {B:Nat} {v:Value} {L:List (Ch × Value)} (h:CO w B v L) (hl:L.length ≤ 1000000):StrIn w v (L.map (·.1)):=by
 rcases h.row.2 with ⟨rfl,h0⟩ | ⟨g,cap,cur,rfl,hb,hg,hc,_,hcs,ht⟩
 · have:L=[]:=List.eq_nil_of_length_eq_zero h0
   subst this
   exact strIn_nil w
 · refine ⟨some ⟨g,0,none⟩,cap,by rw [List.length_map],by rw [List.length_map]; exact hc,(fun e => by cases e),by rw [List.length_map]; omega,fun i x hx => ?_⟩
   rw [List.getElem?_map] at hx
   obtain ⟨p,hp,rfl⟩:=Option.map_eq_some_iff.1 hx
   obtain ⟨p0,p1⟩:=flatC_get L i p hp
   have k0:=h.row.cells (g:=g) rfl _ _ p0
   have k1:=h.row.cells (g:=g) rfl _ _ p1
   rw [Addr.add_lit,Nat.zero_add] at k0 k1
   exact ⟨g,0,p.2,rfl,by rw [Nat.zero_add]; exact k0,by rw [Nat.zero_add]; exact k1,(h.rd p (List.mem_of_getElem? hp)).1⟩
theorem CO.lt {w:World} {B:Nat} {v:Value} {L:List (Ch × Value)} (h:CO w B v L):∀ k,v.ownBlock=some k → B ≤ k ∧ k < w.heap.size:=fun k hk => h.row.lt k hk
theorem rowT_set (w m:Nat):(List.replicate w (Value.string ⟨#[48]⟩)).set m (.string ⟨#[49]⟩)=(rowT w m).map Value.string:=by
 unfold rowT
 apply List.ext_getElem?
 intro s
 by_cases hs:s < w
 · rw [List.map_map,List.getElem?_map,List.getElem?_range hs]
   by_cases hm:m=s
   · subst hm
     rw [List.getElem?_set_self (by simpa using hs)]
     show _=some (Value.string (if m=m then _ else _))
     rw [if_pos rfl]
   · rw [List.getElem?_set_ne hm,List.getElem?_replicate,if_pos hs]
     show _=some (Value.string (if s=m then _ else _))
     rw [if_neg (fun e => hm e.symm)]
 · rw [List.getElem?_eq_none (by simp; omega),List.getElem?_eq_none (by simp; omega)]
theorem infos_len (T:List Nd) (p:Int):(infosT T p).length ≤ 10:=by
 unfold infosT
 have:=List.length_filter_le (fun q => decide (0 < widthT T p q)) ((List.range 10).map Int.ofNat)
 simp at this
 exact this
theorem certT_take {T:List Nd} {p:Int} {P:Int → Nat} {i:Nat} {q:Int} (h:(infosT T p)[i]?=some q):(certT T p P).take (i + 1)=(certT T p P).take i ++ [(q,rowT (widthT T p q) (P q))]:=by
 unfold certT
 obtain ⟨h1,h2⟩:=List.getElem?_eq_some_iff.1 h
 rw [List.take_succ_eq_append_getElem (by rw [List.length_map]; exact h1),List.getElem_map,h2]
end Go.Proofs.YtcggohkbmhdohaaGreatDoor
