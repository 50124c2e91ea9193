/- texts merged: ShelfD RpP RpQ RpR -/
import Derived.Shelf.Bits.Mul64
import Derived.Test.YtcggohkbmhdohaaGreatDoorProg
import Derived.Test.YtcggohkbmhdohaaGreatDoorRtGI
import Derived.OwnWalk
import Derived.Laws.CopyOwn
import Derived.Deep.RegionLaw
import Derived.Test.YtcggohkbmhdohaaGreatDoorRpO
import Derived.Test.YtcggohkbmhdohaaGreatDoorRcMN
namespace Go.Proofs.YtcggohkbmhdohaaGreatDoor
open Go.Shelf Go.RowKit
def laysD_ren:Go.Shelf.Ren:=⟨fun | 212 => 111 | 263 => 143 | 264 => 144 | n => n,fun | 46 => 159 | 51 => 167 | 53 => 191 | 146 => 189 | 148 => 192 | n => n,fun n => n⟩
theorem laysD212:Go.Proofs.Lays.n212 Tryz.prog laysD_ren:={
 mixed:=by kernel_rfl
 f212:=Tryz.func111.trans (congrArg some (by kernel_rfl))
 f263:=Tryz.func143.trans (congrArg some (by kernel_rfl))
 f264:=Tryz.func144.trans (congrArg some (by kernel_rfl))
 t46:=Tryz.underlying159
 a46:=Tryz.isAgg159
 z46:=Tryz.sizeOf159
 v46:=Tryz.zeroValue159
 t51:=Tryz.underlying167
 a51:=Tryz.isAgg167
 z51:=Tryz.sizeOf167
 v51:=Tryz.zeroValue167
 t53:=Tryz.underlying191
 a53:=Tryz.isAgg191
 z53:=Tryz.sizeOf191
 v53:=Tryz.zeroValue191
 t146:=Tryz.underlying189
 a146:=Tryz.isAgg189
 z146:=Tryz.sizeOf189
 v146:=Tryz.zeroValue189
 t148:=Tryz.underlying192
 a148:=Tryz.isAgg192
 z148:=Tryz.sizeOf192
 v148:=Tryz.zeroValue192 }
theorem bitsMul (x y:Nat) (hx:x < 18446744073709551616) (hy:y < 18446744073709551616) (w:World) :
 Calls Tryz.prog 111 #[.int .u64 x,.int .u64 y] w fun e w' => e=.returned (.tuple #[.int .u64 ((x * y / 18446744073709551616:Nat):Int),.int .u64 ((x * y % 18446744073709551616:Nat):Int)]) ∧ w'=w :=
 Any.bits_Mul laysD212 x y hx hy w
open Go.RowKit
set_option linter.unusedVariables false
theorem own_heapR {w:World} {B:Nat} {e:TypeId} {g n c:Nat} {vs:List Value} (h:w.ownsRow B e 1 (.slice (some ⟨g,0,none⟩) n c) n vs):∃ cur:List Value,w.heap[g]?=some (.cells cur.toArray e (0,0)) ∧ B ≤ g ∧ cur.length=c ∧ n ≤ c ∧ cur.take n=vs ∧ c ≤ maxLen:=by
 rcases h.2 with ⟨h1,_⟩ | ⟨g',cap,cur,h1,hb,hg,hc,hm,hcs,ht⟩
 · cases h1
 · simp only [Value.slice.injEq,Option.some.injEq,Addr.mk.injEq,and_true,true_and] at h1
   obtain ⟨rfl,rfl⟩:=h1
   refine ⟨cur.toList,by simpa using hg,hb,by simpa using hcs,hc,by simpa using ht,hm⟩
theorem step_copyR {P:Program} {ops:Array Oper} {o:Oper} {a:Act} {w:World} {K:Act → World → Prop} {Q:Exit → Act → World → Prop} {E:Prop} (hgd:o.guard=none) (d s:Operand) (dT sT:TypeId)
 (ho:o.op=.call { callee:=.builtin .copy,args:=#[d,s],argTypes:=#[dT,sT] }) (elem:TypeId) (hu:P.underlying dT=some (.slice elem)) (hsz:(P.info? elem).map (·.size)=some 1)
 (g off dLen dCap:Nat) (ad:Addr) (sLen sCap:Nat) (hd:a.eval d=.slice (some ⟨g,off,none⟩) dLen dCap) (hs:a.eval s=.slice (some ad) sLen sCap)
 (cur:List Value) (t:TypeId) (hg:w.heap[g]?=some (.cells cur.toArray t (0,0))) (cs:List Value) (hn:cs.length=Nat.min sLen dLen)
 (hsrc:∀ j v,cs[j]?=some v → w.cell? (ad.add j)=some v) (hfit:off + cs.length ≤ cur.length) (h1:∀ v ∈ cs,v.oneCell'=true) {kk:Nat} (hk:cs.length=kk)
 (h:Hid ((w.setRow g (splice cur off cs).toArray).heap[g]?=some (.cells (splice cur off cs).toArray t (0,0))) → K (a.put o.dst (goInt kk)) (w.setRow g (splice cur off cs).toArray)) :
 if Region.wanted o (yielded ops a.tmps)=true then Oper.wp P o a w K Q else E:=by
 subst hk
 have hw:Region.wanted o (yielded ops a.tmps)=true:=by simp [Region.wanted,hgd]
 rw [if_pos hw]
 have hrun:=run_copy_row (P:=P) w dT sT o.type elem g off dLen dCap ad sLen sCap cur.toArray t cs hu hsz hg hn hsrc (by simpa using hfit) h1
 unfold Oper.wp
 simp [execOp,ho,resolve,invoke,builtin,hd,hs,hrun,Result.andThen]
 exact h (show _=_ from setRow_heap w g _ _ t _ hg)
def repC (s:ByteArray) (n m:Nat):List Value:=List.replicate m (.string s) ++ List.replicate (n - m) (.string ⟨#[]⟩)
theorem repC_len {s:ByteArray} {n m:Nat} (h:m ≤ n):(repC s n m).length=n:=by unfold repC; simp; omega
theorem repC_step {s:ByteArray} {n m k:Nat} (h:m + k ≤ n):splice (repC s n m) m (List.replicate k (.string s))=repC s n (m + k):=by
 unfold splice repC
 rw [List.take_append_of_le_length (by simp),List.take_replicate,Nat.min_self,List.length_replicate,List.drop_append,List.drop_eq_nil_of_le (by simp),List.length_replicate,List.drop_replicate,List.nil_append,← List.append_assoc,List.replicate_append_replicate]
 congr 2
 omega
theorem repC_get {s:ByteArray} {n m j:Nat} (h:j < m):(repC s n m)[j]?=some (.string s):=by
 unfold repC
 rw [List.getElem?_append_left (by simpa using h),List.getElem?_replicate,if_pos h]
theorem repC_zero (s:ByteArray) (n:Nat):repC s n 0=List.replicate n (.string ⟨#[]⟩):=by unfold repC; simp
theorem repC_all (s:ByteArray) (n:Nat):repC s n n=List.replicate n (.string s):=by unfold repC; simp
theorem heapR_cell {w:World} {e:TypeId} {g j:Nat} {cur:List Value} {u:Value} (h:w.heap[g]?=some (.cells cur.toArray e (0,0))) (hj:cur[j]?=some u):w.cell? ⟨g,j,none⟩=some u:=by
 simp [World.cell?,h,hj]
theorem madeR (n:Nat):(madeCells #[.string ⟨#[]⟩] (n * 1)).toList=List.replicate n (.string ⟨#[]⟩):=by
 apply List.ext_getElem?
 intro i
 by_cases hi:i < n
 · rw [List.getElem?_replicate,if_pos hi,List.getElem?_eq_getElem (by simp [madeCells]; exact hi)]
   simp [madeCells,Nat.mod_one]
 · rw [List.getElem?_eq_none (by simp [madeCells]; omega),List.getElem?_eq_none (by simp; omega)]
set_option maxHeartbeats 3200000 in
set_option maxRecDepth 100000 in
theorem repeat_any (s:ByteArray) (k0 n:Nat) (w:World) (hc:w.cell? ⟨k0,0,none⟩=some (.string s)) (hn1:1 ≤ n) (hn2:n ≤ 1000) :
 Calls Tryz.prog 65 #[.slice (some ⟨k0,0,none⟩) 1 1,.int .i64 n] w fun e w' => ∃ g,e=.returned (.slice (some ⟨g,0,none⟩) n n) ∧ w'.ownsRow w.heap.size 28 1 (.slice (some ⟨g,0,none⟩) n n) n (List.replicate n (.string s)) ∧ Ext w w':=by
 obtain ⟨wo,rfl⟩:∃ wo:World,wo=w:=⟨_,rfl⟩
 have HBM:Hid (∀ W,Calls Tryz.prog 111 #[.int .u64 1,.int .u64 (n:Int)] W fun e W' => e=.returned (.tuple #[.int .u64 0,.int .u64 (n:Int)]) ∧ W'=W):=fun W => by
  have h:=bitsMul 1 n (by omega) (by omega) W
  rw [show 1 * n / 18446744073709551616=0 by omega,show 1 * n % 18446744073709551616=n by omega] at h
  exact h
 have hw1:IntKind.u64.wrap (n:Int)=(n:Int):=by rw [IntKind.wrap_u64]; omega
 have hw2:IntKind.i64.wrap (n:Int)=(n:Int):=by rw [IntKind.wrap_i64]; omega
 have hc0:=hc
 obtain ⟨K7,hK7⟩:∃ K7,wo.heap.size=K7:=⟨_,rfl⟩
 have hk07:k0 < K7:=by have:=World.block_lt_of_cell? wo _ hc; rw [← hK7]; exact this
 obtain ⟨iq,iq1,iq2,iq3,iq4⟩:=ei_rats.info
 go_enter Tryz.func65,Tryz.ntmps65
 go_wp2_with fail
 refine (HBM.out _).mono ?_
 rintro e w2 ⟨rfl,hw⟩
 rw [hw]
 clear hw w2
 obtain ⟨w3,hmk,hm1,hm2⟩:=run_make_full (P:=Tryz.prog) wo K7 32 28 iq (.string ⟨#[]⟩) 1 ei_rats.und iq1 iq2 iq3 .i64 .i64 n (by rw [iq4]; omega) (by unfold maxLen; omega) (by omega)
 have X3:Ext wo w3:=⟨hm2.os,hm2.tape,hm2.output,hm2.size,fun k hk => hm2.block k hk (by simp)⟩
 rw [hK7] at hm1 hmk
 have hm1:w3.ownsRow K7 28 1 (.slice (some ⟨K7,0,none⟩) n n) n (madeCells #[.string ⟨#[]⟩] (n * 1)).toList:=hm1
 rw [madeR] at hm1
 obtain ⟨cur,hg,_,hcl,_,hct,_⟩:=own_heapR hm1
 rw [List.take_of_length_le (by omega),← repC_zero s] at hct
 subst hct
 have hc3:=X3.cell hc0
 have hrun:∀ ty,(Builtin.copy_ #[32,32] ty #[.slice (some ⟨K7,0,none⟩) n n,.slice (some ⟨k0,0,none⟩) 1 1]).run Tryz.prog w3=.ok (goInt 1) (w3.setRow K7 (repC s n 1).toArray):=fun ty => by
  have h:=run_copy_row (P:=Tryz.prog) w3 32 32 ty 28 K7 0 n n ⟨k0,0,none⟩ 1 1 (repC s n 0).toArray 28 [.string s] Tryz.underlying32 (by kernel_rfl) hg (by show 1=min 1 _; omega) (fun j v hj => by
   rw [List.getElem?_singleton] at hj
   split at hj
   · rename_i h0
     subst h0
     cases hj
     exact hc3
   · cases hj) (by rw [List.size_toArray,repC_len (Nat.zero_le _)]; simp; omega) (fun v hv => by rw [List.mem_singleton.1 hv]; rfl)
  have h2:=repC_step (s:=s) (n:=n) (m:=0) (k:=1) (by omega)
  unfold splice at h2
  simp only [Nat.zero_add,List.replicate_one,List.length_singleton] at h2
  simp only [List.length_singleton,Nat.zero_add] at h
  rw [← h2]
  simpa using h
 obtain ⟨W3,hW3⟩:∃ W3,w3.setRow K7 (repC s n 1).toArray=W3:=⟨_,rfl⟩
 rw [hW3] at hrun
 have hg3:Hid (W3.heap[K7]?=some (.cells (repC s n 1).toArray 28 (0,0))):=by
  show _=_
  rw [← hW3]; exact setRow_heap w3 K7 _ _ _ _ hg
 have HX3:Hid (Ext wo W3):=by
  show Ext _ _
  rw [← hW3]; exact below_setRow X3 (by omega) _
 clear hm1 hm2 hg hcl hW3 X3 hc3 hc hc0
 go_wp2_with fail
 clear hrun hmk
 go_loopw [8] (fun mv wr => ∃ (m:Nat),1 ≤ m ∧ m ≤ n ∧ mv=.int .i64 m ∧ Hid (wr.heap[K7]?=some (.cells (repC s n m).toArray 28 (0,0))) ∧ Ext wo wr) (fun mv _ => n - (intOf mv).toNat)
 case atStart => exact ⟨1,Nat.le_refl _,hn1,rfl,hg3,HX3.out⟩
 case round =>
  clear hg3 HX3
  obtain ⟨m,hm1,hm2,rfl,HG,X⟩:=hrel
  by_cases hlt:m < n
  · obtain ⟨k,hk⟩:∃ k,Nat.min m (n - m)=k:=⟨_,rfl⟩
    have hkb:k=min m (n - m):=hk.symm
    have hk1:1 ≤ k ∧ k ≤ m ∧ m + k ≤ n:=by omega
    obtain ⟨hk1,hk2,hk3⟩:=hk1
    have A1:Hid ((List.replicate k (Value.string s)).length=Nat.min m (n - m)):=by show _=_; rw [List.length_replicate]; exact hk.symm
    have A2:Hid (∀ j v,(List.replicate k (Value.string s))[j]?=some v → wr.cell? ((⟨K7,0,none⟩:Addr).add j)=some v):=by
     show ∀ j v,_
     intro j v hj
     rw [List.getElem?_replicate] at hj
     split at hj
     · rename_i h0
       cases hj
       rw [Addr.add_lit,Nat.zero_add]
       exact heapR_cell HG.out (repC_get (by omega))
     · cases hj
    have A3:Hid (m + (List.replicate k (Value.string s)).length ≤ (repC s n m).length):=by show _ ≤ _; rw [List.length_replicate,repC_len hm2]; exact hk3
    have A4:Hid (∀ v ∈ List.replicate k (Value.string s),v.oneCell'=true):=by
     show ∀ v ∈ _,_
     intro v hv
     rw [(List.mem_replicate.1 hv).2]; rfl
    have b1:(m:Int) < (n:Int):=by omega
    have b2:(0:Int) ≤ (m:Int):=by omega
    have b3:¬ n=m:=by omega
    have b4:(m:Int) ≤ (n:Int):=by omega
    have hw3:IntKind.i64.wrap ((m:Int) + (k:Int))=((m + k:Nat):Int):=by rw [IntKind.wrap_i64]; omega
    clear hk hkb hlt
    go_wp2_with fail
    go_region_law (refine step_copyR (o:=⟨some 45,_,_,_,_,_⟩) rfl (.tmp 41) (.tmp 44) 32 32 rfl 28 Tryz.underlying32 (by kernel_rfl) K7 m (n - m) (n - m) ⟨K7,0,none⟩ m n (by go_simp) (by go_simp) (repC s n m) 28 HG.out (List.replicate k (Value.string s)) A1.out A2.out A3.out A4.out (by rw [List.length_replicate]) ?_; intro hg4)
    rw [repC_step hk3] at hg4 ⊢
    have X4:Ext wo (wr.drew.setRow K7 (repC s n (m + k)).toArray):=below_setRow (Ext.drew X) (by omega) _
    have HX4:=Lib.hid X4
    generalize wr.drew.setRow K7 (repC s n (m + k)).toArray=W4 at *
    clear HG X X4 A1 A2 A3 A4
    go_wp2_with fail
    try go_simp
    go_roundw
    case rel => exact ⟨m + k,by omega,hk3,by go_num,hg4,HX4.out⟩
    case measure => simp [intOf] <;> omega
  · have hme:m=n:=by omega
    subst hme
    have hge:¬ (m:Int) < (m:Int):=by omega
    clear hlt
    go_wp2_with fail
    go_ret
    refine ⟨K7,rfl,?_,X⟩
    have hg:=HG.out
    rw [repC_all] at hg
    exact ⟨by simp,.inr ⟨K7,m,_,rfl,Nat.le_refl _,hg,Nat.le_refl _,by unfold maxLen; omega,by simp,by simp⟩⟩
set_option linter.unusedSimpArgs false
theorem info_tc:(Tryz.prog.info? 73).map (fun i => (i.zero,i.size,i.bytes))=some (some (.agg #[.int .i64 0,.slice none 0 0]),2,32):=by kernel_rfl
theorem ei_tc:EI Tryz.prog 23 73 (.agg #[.int .i64 0,.slice none 0 0]) 2 32:=⟨Tryz.underlying23,info_parts info_tc,by decide,by decide⟩
def flatC:List (Ch × Value) → List Value
 | [] => []
 | p :: t => .int .i64 p.1.1 :: p.2 :: flatC t
theorem flatC_app:∀ (a b:List (Ch × Value)),flatC (a ++ b)=flatC a ++ flatC b
 | [],b => rfl
 | p :: t,b => by rw [List.cons_append,flatC,flatC_app t b]; rfl
theorem flatC_get:∀ (L:List (Ch × Value)) (i:Nat) (p:Ch × Value),L[i]?=some p → (flatC L)[i * 2]?=some (.int .i64 p.1.1) ∧ (flatC L)[i * 2 + 1]?=some p.2
 | [],i,p,h => by simp at h
 | q :: t,0,p,h => by
   obtain rfl:=Option.some.inj h
   exact ⟨rfl,rfl⟩
 | q :: t,i + 1,p,h => by
   have:=flatC_get t i p (by simpa using h)
   rw [show (i + 1) * 2=i * 2 + 2 by omega]
   exact this
structure CO (w:World) (B:Nat) (v:Value) (L:List (Ch × Value)):Prop where
 row:w.ownsRow B 73 2 v L.length (flatC L)
 rd:∀ p ∈ L,RowX v.ownBlock w p.2 (p.1.2.map Value.string)
theorem CO.nil (w:World) (B:Nat):CO w B (.slice none 0 0) []:=⟨World.ownsRow_nil _ _ _ _,fun p hp => by cases hp⟩
theorem CO.ext {w w':World} {B:Nat} {v:Value} {L:List (Ch × Value)} (h:CO w B v L) (hx:Ext w w'):CO w' B v L :=
 ⟨own_ext h.row hx,fun p hp => (h.rd p hp).ext hx⟩
theorem CO.grew {w w':World} {B:Nat} {v v':Value} {L:List (Ch × Value)} {p:Ch × Value} (h:CO w B v L) (ho:w'.ownsRow B 73 2 v' (L.length + 1) (flatC L ++ [.int .i64 p.1.1,p.2])) (hg:Grew w v w' v')
 (h1:RowX v.ownBlock w p.2 (p.1.2.map Value.string)):CO w' B v' (L ++ [p]):=by
 refine ⟨by rw [List.length_append,List.length_singleton,flatC_app]; exact ho,fun q hq => ?_⟩
 rcases List.mem_append.1 hq with h' | h'
 · exact hg.row (h.rd q h')
 · rw [List.mem_singleton.1 h']; exact hg.row h1
theorem CO.toIn {w:World} {B:Nat} {v:Value} {L:List (Ch × Value)} (h:CO w B v L) (hl:L.length ≤ 1000000):StrIn w v (L.map (·.1)):=by
 rcases h.row.2 with ⟨rfl,h0⟩ | ⟨g,cap,cur,rfl,hb,hg,hc,_,hcs,ht⟩
 · have:L=[]:=List.eq_nil_of_length_eq_zero h0
   subst this
   exact strIn_nil w
 · refine ⟨some ⟨g,0,none⟩,cap,by rw [List.length_map],by rw [List.length_map]; exact hc,(fun e => by cases e),by rw [List.length_map]; omega,fun i x hx => ?_⟩
   rw [List.getElem?_map] at hx
   obtain ⟨p,hp,rfl⟩:=Option.map_eq_some_iff.1 hx
   obtain ⟨p0,p1⟩:=flatC_get L i p hp
   have k0:=h.row.cells (g:=g) rfl _ _ p0
   have k1:=h.row.cells (g:=g) rfl _ _ p1
   rw [Addr.add_lit,Nat.zero_add] at k0 k1
   exact ⟨g,0,p.2,rfl,by rw [Nat.zero_add]; exact k0,by rw [Nat.zero_add]; exact k1,(h.rd p (List.mem_of_getElem? hp)).1⟩
theorem CO.lt {w:World} {B:Nat} {v:Value} {L:List (Ch × Value)} (h:CO w B v L):∀ k,v.ownBlock=some k → B ≤ k ∧ k < w.heap.size:=fun k hk => h.row.lt k hk
theorem rowT_set (w m:Nat):(List.replicate w (Value.string ⟨#[48]⟩)).set m (.string ⟨#[49]⟩)=(rowT w m).map Value.string:=by
 unfold rowT
 apply List.ext_getElem?
 intro s
 by_cases hs:s < w
 · rw [List.map_map,List.getElem?_map,List.getElem?_range hs]
   by_cases hm:m=s
   · subst hm
     rw [List.getElem?_set_self (by simpa using hs)]
     show _=some (Value.string (if m=m then _ else _))
     rw [if_pos rfl]
   · rw [List.getElem?_set_ne hm,List.getElem?_replicate,if_pos hs]
     show _=some (Value.string (if s=m then _ else _))
     rw [if_neg (fun e => hm e.symm)]
 · rw [List.getElem?_eq_none (by simp; omega),List.getElem?_eq_none (by simp; omega)]
theorem infos_len (T:List Nd) (p:Int):(infosT T p).length ≤ 10:=by
 unfold infosT
 have:=List.length_filter_le (fun q => decide (0 < widthT T p q)) ((List.range 10).map Int.ofNat)
 simp at this
 exact this
theorem infos_wf {T:List Nd} {p q:Int} (h:q ∈ infosT T p):0 ≤ q ∧ q ≤ 9:=by
 unfold infosT at h
 rw [List.mem_filter] at h
 obtain ⟨n,hn,rfl⟩:=List.mem_map.1 h.1
 have:=List.mem_range.1 hn
 exact ⟨Int.natCast_nonneg n,by show ((n:Nat):Int) ≤ 9; omega⟩
theorem certT_take {T:List Nd} {p:Int} {P:Int → Nat} {i:Nat} {q:Int} (h:(infosT T p)[i]?=some q):(certT T p P).take (i + 1)=(certT T p P).take i ++ [(q,rowT (widthT T p q) (P q))]:=by
 unfold certT
 obtain ⟨h1,h2⟩:=List.getElem?_eq_some_iff.1 h
 rw [List.take_succ_eq_append_getElem (by rw [List.length_map]; exact h1),List.getElem_map,h2]
def bestE (T:List Nd) (p:Int) (S:List Ch):Int:=if recallE T p ≠ 0 then recallE T p else strategyE T (1 - p) S
def bestV (T:List Nd) (p:Int) (S:List Ch):Rat:=hsL T p (sumsG T p S T.length) T.length 0
def BstPost (T:List Nd) (p:Int) (S:List Ch) (u:Value) (w w':World):Prop:=Ext w w' ∧ ((bestE T p S ≠ 0 ∧ u=.tuple #[.string ⟨#[]⟩,.slice none 0 0,.int .i64 (bestE T p S)]) ∨
 (bestE T p S=0 ∧ (outF (bestV T p S)).2 ≠ 0 ∧ u=.tuple #[.string ⟨#[]⟩,.slice none 0 0,.int .i64 (outF (bestV T p S)).2]) ∨
 (bestE T p S=0 ∧ (outF (bestV T p S)).2=0 ∧ ∃ a,u=.tuple #[.string (outF (bestV T p S)).1,a,.int .i64 0] ∧ StrIn w' a (certT T p (bestP T p (sumsG T p S T.length)))))
theorem bestE_zero {T:List Nd} {p:Int} {S:List Ch} (h:bestE T p S=0):Valid T ∧ remB T p=true ∧ (p=0 ∨ p=1) ∧ strategyE T (1 - p) S=0:=by
 unfold bestE at h
 by_cases h1:recallE T p=0
 · rw [if_neg (by simpa using h1)] at h
   obtain ⟨a,b,c,_⟩:=recall_ok h1
   exact ⟨a,b,c,h⟩
 · rw [if_pos h1] at h; exact absurd h h1
set_option maxHeartbeats 6400000 in
set_option maxRecDepth 100000 in
theorem best_ok (v o:Value) (T:List Nd) (p:Int) (S:List Ch) (w:World) (htab:TabPow w) (hE:bestE T p S=0) (hv:TreeIn w v T) (hz:TreeSz T) (ho:StrIn w o S) (hzs:StrSz S) :
 Calls Tryz.prog 20 #[v,.int .i64 p,o] w fun e w' => ∃ u,e=.returned u ∧ BstPost T p S u w w':=by
 obtain ⟨hT,hr,hp,hS⟩:=bestE_zero hE
 have hPE:playerE T p=0:=by
  have h:=hE
  unfold bestE at h
  by_cases h1:recallE T p=0
  · exact (recall_ok h1).2.2.2
  · rw [if_pos h1] at h; exact absurd h h1
 have HPL:=Lib.hid (treePlayer_any v T p w htab hv hz)
 have HIP:=Lib.hid (fun W (hX:Ext w W) => isPerfect_any v T p W (hv.ext hX) hT)
 have HST:=Lib.hid (fun W (hX:Ext w W) => strategy_any v o T (1 - p) S W (tabPow_ext htab hX) (hv.ext hX) hT (ho.ext hX) hzs)
 have HBO:=Lib.hid (fun W (hX:Ext w W) => bestOf_any v o T p S W (hv.ext hX) hz hT hr hp hS (ho.ext hX) hzs)
 have HSE:=Lib.hid (fun W (hX:Ext w W) => sets_any v T p W (hv.ext hX))
 have HTB:=Lib.hid htab
 have HF1:=Lib.hid (setsP_valid hT p)
 have HF2:=Lib.hid (setsP_snd hT p)
 have HWL:=Lib.hid (fun (q:Int) => widthT_le hT p q)
 have HFT:=Lib.hid (fitsP_I hT (bestP_fits hT p (sumsG T p S T.length)))
 have HE:=Lib.hid hE
 rw [hPE] at HPL
 rw [hr] at HIP
 rw [hS] at HST
 obtain ⟨V,hV⟩:∃ V,bestV T p S=V:=⟨_,rfl⟩
 have HV:Hid (hsL T p (sumsG T p S T.length) T.length 0=V):=hV
 have HVV:=Lib.hid hV
 obtain ⟨g,hg⟩:∃ g,sumsG T p S T.length=g:=⟨_,rfl⟩
 unfold BestPost at HBO
 have HGG:=Lib.hid hg
 rw [hg] at HFT HBO HV
 rw [HV.out] at HBO
 obtain ⟨P,hP⟩:∃ P,bestP T p g=P:=⟨_,rfl⟩
 have HPP:=Lib.hid hP
 rw [hP] at HFT HBO
 have HFT:Hid (∀ q ∈ infosT T p,P q < widthT T p q):=HFT.out
 have HCT:=Lib.hid (fun (i:Nat) (q:Int) (h:(infosT T p)[i]?=some q) => certT_take (P:=P) h)
 have hcl:(certT T p P).length=(infosT T p).length:=by unfold certT; rw [List.length_map]
 obtain ⟨C,hC⟩:∃ C,certT T p P=C:=⟨_,rfl⟩
 have HCC:=Lib.hid hC
 rw [hC] at HCT hcl
 have HCL:=Lib.hid hcl
 clear hP hC hcl
 obtain ⟨ot,oe,ho2⟩:∃ ot oe,outF V=(ot,oe):=⟨_,_,rfl⟩
 have hwp:IntKind.i64.wrap (1 - p)=1 - p:=by rw [IntKind.wrap_i64]; omega
 obtain ⟨ao,c,rfl,_,_⟩:=hv.open
 obtain ⟨so,sc,rfl,_,_⟩:=ho.open
 have HOT:=Lib.hid ho2
 clear hE hPE hT hr hp hS hv hz ho hzs htab hV hg ho2
 go_enter Tryz.func20,Tryz.ntmps20
 go_wp2_with fail
 refine HPL.out.mono ?_
 rintro e w2 ⟨rfl,X2⟩
 go_wp2_with fail
 refine (HIP.out _ X2).mono ?_
 rintro e w3 ⟨rfl,X3⟩
 go_wp2_with fail
 refine (HST.out _ (X2.trans X3)).mono ?_
 rintro e w4 ⟨rfl,X4⟩
 go_wp2_with fail
 refine (HBO.out _ ((X2.trans X3).trans X4)).mono ?_
 rintro e w5 ⟨_,rfl,q5,b5,n5,f5,rfl,hq5,hm5,hf5,X5⟩
 obtain ⟨s6,ao6,l6,c6,bo6,m6,d6,rfl,_,_,_⟩:=hq5.opn
 have X25:=Lib.hid (((X2.trans X3).trans X4).trans X5)
 obtain ⟨K6,hK6⟩:∃ K6,w5.heap.size=K6:=⟨_,rfl⟩
 obtain ⟨W6,hW6⟩:∃ W6,w5.alloc (.cells #[.bool s6,.slice ao6 l6 c6,.slice bo6 m6 d6] 89)=W6:=⟨_,rfl⟩
 have X6:Ext w5 W6:=by rw [← hW6]; exact (Ext.refl w5).alloc _
 have y0:W6.cell? ⟨K6,0,none⟩=some (.bool s6):=by rw [← hW6,← hK6]; simp [go_sem]
 have y1:W6.cell? ⟨K6,1,none⟩=some (.slice ao6 l6 c6):=by rw [← hW6,← hK6]; simp [go_sem]
 have y2:W6.cell? ⟨K6,2,none⟩=some (.slice bo6 m6 d6):=by rw [← hW6,← hK6]; simp [go_sem]
 have HM6:=Lib.hid (hm5.ext X6)
 have HQ6:=Lib.hid (hq5.ext X6)
 have HF5:=Lib.hid hf5
 have HX6:=Lib.hid (X25.out.trans X6)
 clear hq5 hm5 hf5 X2 X3 X4 X5 X6 X25 HPL HIP HST HBO
 go_wp2_with fail
 clear hK6 hW6
 have HOA:=Lib.hid (out_any (.agg #[.bool s6,.slice ao6 l6 c6,.slice bo6 m6 d6]) V W6 HQ6.out (tabPow_ext HTB.out HX6.out))
 rw [HOT.out] at HOA
 refine HOA.out.mono ?_
 rintro e w7 ⟨rfl,X7⟩
 dsimp only
 have HX7:=Lib.hid (HX6.out.trans X7)
 have HM7:=Lib.hid (HM6.out.ext X7)
 clear HOA HQ6 y0 y1 y2 X7 HM6 HX6
 by_cases hoe:oe=0
 · subst hoe
   go_wp2_with fail
   refine (HSE.out _ HX7.out).mono ?_
   rintro e w8 ⟨_,rfl,av,bv,rfl,ha,hb,X8⟩
   rw [HF1.out] at ha
   rw [HF2.out] at hb
   obtain ⟨lo,lc,rfl,_,hA⟩:=ha.open
   obtain ⟨mo,mc,rfl,_,hB⟩:=hb.open
   rw [List.length_map]
   have HX8:=Lib.hid (HX7.out.trans X8)
   have HM8:=Lib.hid (HM7.out.ext X8)
   have HA:=Lib.hid hA
   have HB:=Lib.hid hB
   have hil:=infos_len T p
   have HQF:Hid (∀ q ∈ infosT T p,0 ≤ q ∧ q ≤ 9):=fun q hq => infos_wf hq
   have HWP:Hid (∀ q ∈ infosT T p,0 < widthT T p q):=fun q hq => info_pos hq
   obtain ⟨Wd,hWd⟩:∃ Wd,widthT T p=Wd:=⟨_,rfl⟩
   rw [hWd] at HCT HWP HFT HWL HB
   obtain ⟨I,hI⟩:∃ I,infosT T p=I:=⟨_,rfl⟩
   rw [hI] at HCT HWP HFT HQF HF5 HA HB HCL hil
   try rw [hI]
   clear ha hb hA hB X8 hWd hI HM7 HX7
   go_wp2_with fail
   go_loopw [17,62] (fun ov iv wr => ∃ (i:Nat) (L:List (Ch × Value)),i ≤ I.length ∧ iv=.int .i64 i ∧ Hid (L.map (·.1)=C.take i) ∧ Hid (L.length=i) ∧ Hid (CO wr w8.heap.size ov L) ∧ Ext w8 wr) (fun _ iv _ => I.length - (intOf iv).toNat)
   case atStart => exact ⟨0,[],Nat.zero_le _,rfl,rfl,rfl,CO.nil _ _,Ext.refl _⟩
   case round =>
    obtain ⟨i,L,hi,rfl,HL,HLL,HO,X⟩:=hrel
    obtain ⟨wq,rfl⟩:∃ wq:World,wq=wr:=⟨_,rfl⟩
    by_cases hlt:i < I.length
    · obtain ⟨q,q1,_,_⟩:=get_lt hlt
      have hqm:=List.mem_of_getElem? q1.out
      obtain ⟨ib,ioff,rfl,i0⟩:=(HA.out.ext X).at q1
      obtain ⟨sb,soff,rfl,s0⟩:=(HB.out.ext X).at (i:=i) (x:=(Wd q:Int)) (by show _=_; rw [List.getElem?_map,q1.out]; rfl)
      have hf:=HF5.out q hqm
      have hft:=HFT.out q hqm
      have hwl:=HWL.out q
      have hwp0:=HWP.out q hqm
      have hqf:=HQF.out q hqm
      have HCI:=Lib.hid (HCT.out i q q1.out)
      have hii:(i:Int) < (I.length:Int):=by omega
      obtain ⟨nw,hnw⟩:∃ nw,Wd q=nw:=⟨_,rfl⟩
      obtain ⟨mq,hmq⟩:∃ mq,P q=mq:=⟨_,rfl⟩
      rw [hnw] at s0 hft hwl hwp0 HCI
      rw [hmq] at hf hft HCI
      obtain ⟨K5,hK5⟩:∃ K5,wq.heap.size=K5:=⟨_,rfl⟩
      obtain ⟨W5,hW5⟩:∃ W5,wq.alloc (.cells #[.string ⟨#[48]⟩] 28)=W5:=⟨_,rfl⟩
      have X5:Ext wq W5:=by rw [← hW5]; exact (Ext.refl wq).alloc _
      have y5:W5.cell? ⟨K5,0,none⟩=some (.string ⟨#[48]⟩):=by rw [← hW5,← hK5]; exact cell_new _ _ _
      have HRP:=Lib.hid (repeat_any ⟨#[48]⟩ K5 nw W5 y5 (by omega) (by omega))
      have hs5:wq.heap.size ≤ W5.heap.size:=X5.size
      have HX5:=Lib.hid X5
      have s0:=X5.cell s0
      clear hlt q1 hqm hnw hmq X5 y5
      go_wp2_with fail
      refine HRP.out.mono ?_
      rintro e wa ⟨g9,rfl,ho9,Xa⟩
      have Xqa:=HX5.out.trans Xa
      obtain ⟨hb9,hl9⟩:=ho9.lt g9 rfl
      have hlk:(Instr.lookup 103 (.map (some b5)) (.int .i64 q) false).run Tryz.prog wa=.ok (.int .i64 ((mq:Nat):Int)) wa:=(HM8.out.ext (X.trans Xqa)).look1 (keyE_int Tryz.underlying3) Tryz.underlying103 (z:=.int .i64 0) (by kernel_rfl) (i:=q) (wf_small (by omega) (by omega)) hf
      have hst:=ho9.stored mq (.string ⟨#[49]⟩)
      have fr:=ho9.frozenAt mq
      have c9:wa.cell? ⟨g9,mq,none⟩=some (.string ⟨#[48]⟩):=by
       have:=ho9.cells (g:=g9) rfl mq (.string ⟨#[48]⟩) (by rw [List.getElem?_replicate,if_pos hft])
       rwa [Addr.add_lit,Nat.zero_add] at this
      rw [rowT_set] at hst
      have hgq:=Nat.le_trans hs5 hb9
      obtain ⟨W7,hW7⟩:∃ W7,wa.setCell ⟨g9,mq,none⟩ (.string ⟨#[49]⟩)=W7:=⟨_,rfl⟩
      rw [hW7] at hst
      have hrow:Row W7 (.slice (some ⟨g9,0,none⟩) nw nw) ((rowT nw mq).map Value.string):=own_row hst.1 (by omega)
      have XN:Ext wq W7:=Xqa.grown hst.2 hgq
      have HO7:=Lib.hid (HO.out.ext XN)
      have HRW:Hid (RowX u17.ownBlock W7 (.slice (some ⟨g9,0,none⟩) nw nw) ((rowT nw mq).map Value.string)):=⟨hrow,.inr (fun e => by
       have:=(HO.out.lt g9 e.symm).2
       omega)⟩
      have HXN:=Lib.hid (X.trans XN)
      have hmi:(mq:Int) < (nw:Int):=by omega
      have hll:=HLL.out
      have hL1:L.length + 1 ≤ 17592186044416:=by omega
      have hL2:(L.length + 1) * 32 ≤ 140737488355328:=by omega
      have hbk:w8.heap.size ≤ W7.heap.size:=HXN.out.size
      have HLM:=HL.out
      clear ho9 hst hrow XN Xqa Xa X hf HRP
      go_wp2_with (first | (at_builtin; go_must (refine wp_app2 rfl rfl ei_tc HO7.out.row rfl rfl (by simp) rfl rfl hL1 hL2 hbk ?_); intro v' w' hown hgrew))
      have HCO:=Lib.hid (HO7.out.grew (p:=((q,rowT nw mq),.slice (some ⟨g9,0,none⟩) nw nw)) hown hgrew HRW.out)
      have HXX:=Lib.hid (hgrew.extNew HXN.out HO7.out.row (Nat.le_refl _))
      have HLN:Hid ((L ++ [((q,rowT nw mq),Value.slice (some ⟨g9,0,none⟩) nw nw)]).map (·.1)=C.take (i + 1)):=by
       show _=_
       rw [List.map_append,HLM,HCI.out]
       rfl
      clear hown hgrew hlk fr c9 hW7 HLM i0 s0
      go_roundw
      case rel => exact ⟨i + 1,_,by omega,by go_num,HLN,by show _=_; rw [List.length_append,hll]; rfl,HCO,HXX.out⟩
      case measure => simp [intOf] <;> omega
    · have hie:i=I.length:=by omega
      subst hie
      have hge:¬ (I.length:Int) < (I.length:Int):=by omega
      have hfin:=HL.out
      rw [← HCL.out,List.take_of_length_le (Nat.le_refl _)] at hfin
      have HIN:=HO.out.toIn (by rw [HLL.out]; omega)
      rw [hfin] at HIN
      have HIN:=Lib.hid HIN
      have HXE:=Lib.hid (HX8.out.trans X)
      clear hlt HL HO X hfin
      go_wp2_with fail
      go_ret3
      refine ⟨_,rfl,?_⟩
      unfold BstPost
      rw [HVV.out,HOT.out,HGG.out,HPP.out,HCC.out]
      exact ⟨HXE.out,.inr (.inr ⟨HE.out,rfl,_,rfl,HIN.out⟩)⟩
 · have hb:(oe != 0)=true:=by rw [bne_iff_ne]; exact hoe
   go_wp2_with fail
   go_ret3
   refine ⟨_,rfl,?_⟩
   unfold BstPost
   rw [HVV.out,HOT.out]
   exact ⟨HX7.out,.inr (.inl ⟨HE.out,hoe,rfl⟩)⟩
theorem bestE_recall {T:List Nd} {p:Int} {S:List Ch} (h:recallE T p ≠ 0):bestE T p S=recallE T p:=by unfold bestE; rw [if_pos h]
theorem bestE_str {T:List Nd} {p:Int} {S:List Ch} (h:recallE T p=0):bestE T p S=strategyE T (1 - p) S:=by unfold bestE; rw [if_neg (by simpa using h)]
set_option maxHeartbeats 3200000 in
set_option maxRecDepth 100000 in
theorem replyBest_any (v o:Value) (T:List Nd) (p:Int) (S:List Ch) (w:World) (htab:TabPow w) (hv:TreeIn w v T) (hz:TreeSz T) (ho:StrIn w o S) (hzs:StrSz S) :
 Calls Tryz.prog 20 #[v,.int .i64 p,o] w fun e w' => ∃ u,e=.returned u ∧ BstPost T p S u w w':=by
 by_cases hE:bestE T p S=0
 · exact best_ok v o T p S w htab hE hv hz ho hzs
 have HPL:=Lib.hid (treePlayer_any v T p w htab hv hz)
 have HIP:=Lib.hid (fun (hT:Valid T) W (hX:Ext w W) => isPerfect_any v T p W (hv.ext hX) hT)
 have HST:=Lib.hid (fun (hT:Valid T) W (hX:Ext w W) => strategy_any v o T (1 - p) S W (tabPow_ext htab hX) (hv.ext hX) hT (ho.ext hX) hzs)
 have HVP:=Lib.hid (fun (h:playerE T p=0) => valid_player h)
 obtain ⟨ao,c,rfl,_,_⟩:=hv.open
 obtain ⟨so,sc,rfl,_,_⟩:=ho.open
 have HE:=Lib.hid hE
 by_cases h0:playerE T p=0
 · obtain ⟨hT,hp⟩:=HVP.out h0
   have HIP:=Lib.hid (HIP.out hT)
   have HST:=Lib.hid (HST.out hT)
   rw [h0] at HPL
   by_cases h1:remB T p=true
   · have hre:recallE T p=0:=by unfold recallE; rw [h0,if_neg (by simp),if_pos h1]
     have hbe:=bestE_str (S:=S) hre
     rw [h1] at HIP
     obtain ⟨Q,hQ⟩:∃ Q,strategyE T (1 - p) S=Q:=⟨_,rfl⟩
     rw [hQ] at HST hbe
     have HBE:=Lib.hid hbe
     rw [hbe] at hE
     have hb:(Q != 0)=true:=by rw [bne_iff_ne]; exact hE
     have hwp:IntKind.i64.wrap (1 - p)=1 - p:=by rw [IntKind.wrap_i64]; omega
     clear hT hre hbe hQ h0 h1 hv ho hz hzs htab hp
     go_enter Tryz.func20,Tryz.ntmps20
     go_wp2_with fail
     refine HPL.out.mono ?_
     rintro e w2 ⟨rfl,X2⟩
     go_wp2_with fail
     refine (HIP.out _ X2).mono ?_
     rintro e w3 ⟨rfl,X3⟩
     go_wp2_with fail
     refine (HST.out _ (X2.trans X3)).mono ?_
     rintro e w4 ⟨rfl,X4⟩
     go_wp2_with fail
     go_ret3
     refine ⟨_,rfl,?_⟩
     unfold BstPost
     exact ⟨(X2.trans X3).trans X4,.inl ⟨HE.out,by rw [HBE.out]; first | done | rfl⟩⟩
   · have hre:recallE T p=10:=by unfold recallE; rw [h0,if_neg (by simp),if_neg h1]
     have HBE:=Lib.hid (bestE_recall (S:=S) (by rw [hre]; decide:recallE T p ≠ 0))
     have HRE:=Lib.hid hre
     have h2:remB T p=false:=by simpa using h1
     rw [h2] at HIP
     clear hT hre h0 h1 h2 hv ho hz hzs htab hp hE
     go_enter Tryz.func20,Tryz.ntmps20
     go_wp2_with fail
     refine HPL.out.mono ?_
     rintro e w2 ⟨rfl,X2⟩
     go_wp2_with fail
     refine (HIP.out _ X2).mono ?_
     rintro e w3 ⟨rfl,X3⟩
     go_wp2_with fail
     go_ret3
     refine ⟨_,rfl,?_⟩
     unfold BstPost
     exact ⟨X2.trans X3,.inl ⟨HE.out,by rw [HBE.out,HRE.out]; first | done | rfl⟩⟩
 · have hre:recallE T p=playerE T p:=by unfold recallE; rw [if_pos h0]
   have HBE:=Lib.hid (bestE_recall (S:=S) (by rw [hre]; exact h0:recallE T p ≠ 0))
   rw [hre] at HBE
   obtain ⟨E,hEE⟩:∃ E,playerE T p=E:=⟨_,rfl⟩
   rw [hEE] at HPL HBE h0
   have hb:(E != 0)=true:=by rw [bne_iff_ne]; exact h0
   clear hre h0 hEE hv ho hz hzs htab hE
   go_enter Tryz.func20,Tryz.ntmps20
   go_wp2_with fail
   refine HPL.out.mono ?_
   rintro e w2 ⟨rfl,X2⟩
   go_wp2_with fail
   go_ret3
   refine ⟨_,rfl,?_⟩
   unfold BstPost
   exact ⟨X2,.inl ⟨HE.out,by rw [HBE.out]; first | done | rfl⟩⟩
theorem pf_out0:outF 0=(⟨#[48]⟩,0):=by decide +kernel
theorem pf_out1:outF 1=(⟨#[49]⟩,0):=by decide +kernel
theorem pfact_both0:bothE guessT (halfS 0) (halfS 3)=0:=by decide +kernel
theorem pfact_bothn:bothE guessT [] (halfS 3)=3:=by decide +kernel
theorem pfact_beste:bestE guessT 0 (sureS 3)=0:=by decide +kernel
theorem pfact_bestv:bestV guessT 0 (sureS 3)=1:=pfact_best
theorem sure_sz (q:Int):StrSz (sureS q):=fun x hx s hs => by
 unfold sureS at hx
 rw [List.mem_singleton] at hx
 subst hx
 simp only [List.mem_cons,List.not_mem_nil,or_false] at hs
 rcases hs with rfl | rfl <;> decide
theorem strSz_nil:StrSz []:=fun x hx => by cases hx
theorem lit_sure {w:World} {k:Nat} (hk:w.heap.size=k) (q:Int):StrIn ((w.alloc (.cells #[.string ⟨#[49]⟩,.string ⟨#[48]⟩] 28)).alloc (.cells #[.int .i64 q,.slice (some ⟨k,0,none⟩) 2 2] 73)) (.slice (some ⟨k + 1,0,none⟩) 1 1) (sureS q):=by
 obtain ⟨W1,hW1⟩:∃ W1,w.alloc (.cells #[.string ⟨#[49]⟩,.string ⟨#[48]⟩] 28)=W1:=⟨_,rfl⟩
 have k1:W1.heap.size=k + 1:=by rw [← hW1,World.size_alloc,hk]
 have h1:Strs W1 (.slice (some ⟨k,0,none⟩) 2 2) [⟨#[49]⟩,⟨#[48]⟩]:=by
  rw [← hW1,← hk]
  exact lit_strs w 28 [⟨#[49]⟩,⟨#[48]⟩] (by simp)
 rw [hW1]
 refine ⟨some ⟨k + 1,0,none⟩,1,rfl,Nat.le_refl _,(fun h => by cases h),by simp [sureS],fun i x hx => ?_⟩
 match i,hx with
 | 0,hx =>
   cases hx
   refine ⟨k + 1,0,.slice (some ⟨k,0,none⟩) 2 2,rfl,?_,?_,h1.ext ((Ext.refl _).alloc _)⟩
   · rw [← k1]; simp [go_sem]
   · rw [← k1]; simp [go_sem]
set_option maxHeartbeats 6400000 in
set_option maxRecDepth 100000 in
theorem replyFact_any (w:World) (htab:TabPow w):Calls Tryz.prog 7 #[] w fun e w' => e=.returned (.bool true) ∧ Ext w w':=by
 have HTB:=Lib.hid htab
 clear htab
 go_enter Tryz.func7,Tryz.ntmps7
 go_wp2_with fail
 refine (guess_any w).mono ?_
 rintro e w1 ⟨u1,rfl,hT1,X1⟩
 have HT1:=Lib.hid hT1
 clear hT1
 go_wp2_with fail
 refine (half_any 0 w1).mono ?_
 rintro e w2 ⟨u2,rfl,hS2,X2⟩
 have HS2:=Lib.hid hS2
 clear hS2
 go_wp2_with fail
 refine (half_any 3 w2).mono ?_
 rintro e w3 ⟨u3,rfl,hS3,X3⟩
 have Y3:=(X1.trans X2).trans X3
 have HV:=Lib.hid (replyValue_any u1 u2 u3 guessT (halfS 0) (halfS 3) w3 (tabPow_ext HTB.out Y3) (HT1.out.ext (X2.trans X3)) rguess_sz (HS2.out.ext X3) hS3 (rhalf_sz 0) (rhalf_sz 3))
 clear hS3 X1 X2 X3 HT1 HS2
 go_wp2_with fail
 refine HV.out.mono ?_
 rintro e w4 ⟨u4,rfl,⟨h,_⟩ | ⟨_,rfl⟩,X4⟩
 · exact absurd pfact_both0 h
 rw [pfact_v,pf_out0]
 dsimp only
 have Y4:=Y3.trans X4
 clear HV X4 Y3
 go_wp2_with fail
 refine (guess_any w4).mono ?_
 rintro e w5 ⟨u5,rfl,hT5,X5⟩
 have HT5:=Lib.hid hT5
 clear hT5
 go_wp2_with fail
 refine (half_any 0 w5).mono ?_
 rintro e w6 ⟨u6,rfl,hS6,X6⟩
 have HS6:=Lib.hid hS6
 clear hS6
 go_wp2_with fail
 refine (half_any 3 w6).mono ?_
 rintro e w7 ⟨u7,rfl,hS7,X7⟩
 have Y7:=((Y4.trans X5).trans X6).trans X7
 have HO:=Lib.hid (replyOdds_any u5 u6 u7 guessT (halfS 0) (halfS 3) w7 (tabPow_ext HTB.out Y7) (HT5.out.ext (X6.trans X7)) rguess_sz (HS6.out.ext X7) hS7 (rhalf_sz 0) (rhalf_sz 3))
 clear hS7 X5 X6 X7 HT5 HS6 Y4
 go_wp2_with fail
 refine HO.out.mono ?_
 rintro e w8 ⟨u8,rfl,⟨h,_⟩ | ⟨_,⟨h,_⟩ | ⟨os,a8,ho,rfl,ha8⟩⟩,X8⟩
 · exact absurd pfact_both0 h
 · rw [pfact_odds] at h; cases h
 rw [pfact_odds] at ho
 obtain rfl:=Option.some.inj ho
 have HA:=Lib.hid ha8
 have Y8:=Y7.trans X8
 clear ha8 ho X8 Y7 HO
 go_wp2_with fail
 refine (guess_any w8).mono ?_
 rintro e w9 ⟨u9,rfl,hT9,X9⟩
 obtain ⟨K9,hK9⟩:∃ K9,w9.heap.size=K9:=⟨_,rfl⟩
 obtain ⟨W10,hW10⟩:∃ W10,w9.alloc (.cells #[.string ⟨#[49]⟩,.string ⟨#[48]⟩] 28)=W10:=⟨_,rfl⟩
 obtain ⟨W11,hW11⟩:∃ W11,W10.alloc (.cells #[.int .i64 3,.slice (some ⟨K9,0,none⟩) 2 2] 73)=W11:=⟨_,rfl⟩
 have hs10:W10.heap.size=K9 + 1:=by rw [← hW10,← hK9]; simp
 have Z11:Ext w9 W11:=by rw [← hW11,← hW10]; exact ((Ext.refl w9).alloc _).alloc _
 have hst:StrIn W11 (.slice (some ⟨K9 + 1,0,none⟩) 1 1) (sureS 3):=by rw [← hW11,← hW10]; exact lit_sure hK9 3
 have Y11:=(Y8.trans X9).trans Z11
 have HB:=Lib.hid (replyBest_any u9 (.slice (some ⟨K9 + 1,0,none⟩) 1 1) guessT 0 (sureS 3) W11 (tabPow_ext HTB.out Y11) (hT9.ext Z11) rguess_sz hst (sure_sz 3))
 have HA:=Lib.hid (HA.out.ext (X9.trans Z11))
 clear hT9 hst Z11 X9 Y8
 go_wp2_with fail
 clear hK9 hW10 hW11 hs10
 refine HB.out.mono ?_
 rintro e w12 ⟨u12,rfl,h12⟩
 unfold BstPost at h12
 rw [pfact_beste,pfact_bestv,pf_out1,pfact_cert] at h12
 obtain ⟨X12,⟨h,_⟩ | ⟨_,h,_⟩ | ⟨_,_,a12,rfl,ha12⟩⟩:=h12
 · exact absurd rfl h
 · exact absurd rfl h
 have HA:=Lib.hid (HA.out.ext X12)
 have HC:=Lib.hid ha12
 have Y12:=Y11.trans X12
 clear ha12 X12 Y11 HB
 go_wp2_with fail
 refine (fine_any _ [0,0,0] _ (by exact lit_ints_at w12 _ ([0,0,0]:List Int) (by decide) _ (by first | rfl | simp)) true rfl).mono ?_
 rintro e w13 ⟨rfl,X13⟩
 have Z13:=((Ext.refl w12).alloc _).trans X13
 have Y13:=Y12.trans Z13
 obtain ⟨ao,ac,rfl,_,hA⟩:=(HA.out.ext Z13).open
 obtain ⟨ab,aoff,rfl,hA3⟩:=hA.at (i:=3) (x:=(⟨#[49,47,52]⟩:ByteArray)) rfl
 have hA3:w13.cell? ⟨ab,aoff + 3,none⟩=some (.string ⟨#[49,47,52]⟩):=hA3
 obtain ⟨co,cc,rfl,_,hC⟩:=(HC.out.ext Z13).open
 obtain ⟨cb,coff,oo,oc,rfl,_,hC1,hCS⟩:=hC.at (i:=0) (x:=((0:Int),[(⟨#[48]⟩:ByteArray),⟨#[49]⟩])) rfl
 have hC1:w13.cell? ⟨cb,coff + 1,none⟩=some (.slice oo 2 oc):=by simpa using hC1
 have HCS:=Lib.hid hCS
 clear X13 Z13 Y12 HA HC hA hC hCS
 go_wp2_with fail
 refine (equal_rats _ _ ([(⟨#[48]⟩:ByteArray),⟨#[49]⟩]:List ByteArray) _ (by exact HCS.out.ext ((Ext.refl w13).alloc _)) (by exact lit_strs_at _ _ ([(⟨#[48]⟩:ByteArray),⟨#[49]⟩]:List ByteArray) (by simp) _ (by first | rfl | simp))).mono ?_
 rintro e w14 ⟨rfl,X14⟩
 have Z14:=((Ext.refl w13).alloc _).trans X14
 have Y14:=Y13.trans Z14
 clear X14 Z14 Y13 hA3 hC1
 go_wp2_with fail
 refine (guess_any w14).mono ?_
 rintro e w15 ⟨u15,rfl,hT15,X15⟩
 have HT15:=Lib.hid hT15
 clear hT15
 go_wp2_with fail
 refine (half_any 3 w15).mono ?_
 rintro e w16 ⟨u16,rfl,hS16,X16⟩
 have Y16:=(Y14.trans X15).trans X16
 have HRC:=Lib.hid (replyCheck_any u15 (.slice none 0 0) u16 guessT [] (halfS 3) w16 (tabPow_ext HTB.out Y16) (HT15.out.ext X16) rguess_sz (strIn_nil w16) hS16 strSz_nil (rhalf_sz 3))
 rw [pfact_bothn] at HRC
 clear hS16 X15 X16 HT15 Y14
 go_wp2_with fail
 refine HRC.out.mono ?_
 rintro e w17 ⟨rfl,X17⟩
 have Y17:=Y16.trans X17
 clear X17 Y16 HRC
 go_wp2_with fail
 go_ret
 exact ⟨rfl,Y17⟩
end Go.Proofs.YtcggohkbmhdohaaGreatDoor
