/- texts merged: RcE RcF RcG RcH -/
import Derived.Test.YtkfheeffbombhaaGreatDoorRcAD
import Derived.IntWalk
import Derived.BigRegion
/- the memory of recall.Of: its form, its slices, its map -/
namespace Go.Proofs.YtkfheeffbombhaaGreatDoor
open Go.RowKit
set_option linter.unusedVariables false

/-! ### slices of sequences -/
def flat3 : List (Int × Int × Int) → List Value
  | [] => []
  | s :: t => .int .i64 s.1 :: .int .i64 s.2.1 :: .int .i64 s.2.2 :: flat3 t
theorem flat3_app : ∀ (a b : List (Int × Int × Int)), flat3 (a ++ b) = flat3 a ++ flat3 b
  | [], b => rfl
  | s :: t, b => by simp only [List.cons_append, flat3, flat3_app t b]
theorem flat3_get : ∀ (l : List (Int × Int × Int)) (i : Nat) (s : Int × Int × Int), l[i]? = some s → (flat3 l)[i * 3]? = some (.int .i64 s.1) ∧ (flat3 l)[i * 3 + 1]? = some (.int .i64 s.2.1) ∧ (flat3 l)[i * 3 + 2]? = some (.int .i64 s.2.2)
  | [], i, s, h => by simp at h
  | a :: t, 0, s, h => by
    simp only [List.getElem?_cons_zero, Option.some.injEq] at h
    subst h
    exact ⟨rfl, rfl, rfl⟩
  | a :: t, i + 1, s, h => by
    have := flat3_get t i s (by simpa using h)
    rw [show (i + 1) * 3 = i * 3 + 3 by omega]
    exact this
/-- the slice value reads as sequences -/
def SqOf (w : World) (ao : Option Addr) (l : List (Int × Int × Int)) : Prop := ∀ (j : Nat) (u : Value), (flat3 l)[j]? = some u → ∃ b off, ao = some ⟨b, off, none⟩ ∧ w.cell? ⟨b, off + j, none⟩ = some u
def SqIn (w : World) (v : Value) (l : List (Int × Int × Int)) : Prop := ∃ ao c, v = .slice ao l.length c ∧ SqOf w ao l
theorem SqOf.ext {w w' : World} {ao : Option Addr} {l : List (Int × Int × Int)} (h : SqOf w ao l) (hx : Ext w w') : SqOf w' ao l := fun j u hu => by
  obtain ⟨b, off, e, hc⟩ := h j u hu
  exact ⟨b, off, e, hx.cell hc⟩
theorem SqIn.ext {w w' : World} {v : Value} {l : List (Int × Int × Int)} (h : SqIn w v l) (hx : Ext w w') : SqIn w' v l := by
  obtain ⟨ao, c, e, h2⟩ := h
  exact ⟨ao, c, e, h2.ext hx⟩
theorem SqOf.at {w : World} {ao : Option Addr} {l : List (Int × Int × Int)} (h : SqOf w ao l) {i : Nat} {s : Int × Int × Int} (hs : Hid (l[i]? = some s)) : ∃ b off, ao = some ⟨b, off, none⟩ ∧ w.cell? ⟨b, off + i * 3, none⟩ = some (.int .i64 s.1) ∧ w.cell? ⟨b, off + i * 3 + 1, none⟩ = some (.int .i64 s.2.1) ∧ w.cell? ⟨b, off + i * 3 + 2, none⟩ = some (.int .i64 s.2.2) := by
  obtain ⟨g0, g1, g2⟩ := flat3_get l i s hs.out
  obtain ⟨b, off, e, c0⟩ := h _ _ g0
  obtain ⟨b', off', e', c1⟩ := h _ _ g1
  obtain ⟨b3, off3, e3, c2⟩ := h _ _ g2
  rw [e] at e' e3
  simp only [Option.some.injEq, Addr.mk.injEq, and_true] at e' e3
  obtain ⟨rfl, rfl⟩ := e'
  obtain ⟨rfl, rfl⟩ := e3
  exact ⟨b, off, e, c0, c1, c2⟩
/-- an own slice of sequences -/
def SqO (w : World) (B : Nat) (v : Value) (l : List (Int × Int × Int)) : Prop := w.ownsRow B 62 3 v l.length (flat3 l)
theorem SqO.toIn {w : World} {B : Nat} {v : Value} {l : List (Int × Int × Int)} (h : SqO w B v l) : SqIn w v l := by
  rcases h.2 with ⟨rfl, h0⟩ | ⟨g, cap, cur, rfl, hb, hg, hc, _⟩
  · have : l = [] := List.eq_nil_of_length_eq_zero h0
    subst this
    exact ⟨none, 0, rfl, fun j u hu => by simp [flat3] at hu⟩
  · refine ⟨_, _, rfl, fun j u hu => ⟨g, 0, rfl, ?_⟩⟩
    have := h.cells (g := g) rfl j u hu
    rwa [Addr.add_lit] at this
theorem info_sq : (Tryz.prog.info? 62).map (fun i => (i.zero, i.size, i.bytes)) = some (some (.agg #[.int .i64 0, .int .i64 0, .int .i64 0]), 3, 24) := by kernel_rfl
theorem ei_sq : EI Tryz.prog 52 62 (.agg #[.int .i64 0, .int .i64 0, .int .i64 0]) 3 24 := ⟨Tryz.underlying52, info_parts info_sq, by decide, by decide⟩
theorem src_cell3 {w : World} {k : Nat} {x y z : Value} (h1 : x.oneCell' = true) (h2 : y.oneCell' = true) (h3 : z.oneCell' = true) (hc : w.cell? ⟨k, 0, none⟩ = some x) (hd : w.cell? ⟨k, 1, none⟩ = some y) (he : w.cell? ⟨k, 2, none⟩ = some z) : Src w (.slice (some ⟨k, 0, none⟩) 1 1) 1 3 [x, y, z] := by
  refine ⟨_, _, rfl, rfl, ?_, fun _ => ⟨_, _, rfl, fun j u hu => ?_⟩⟩
  · intro u hu
    simp only [List.mem_cons, List.not_mem_nil, or_false] at hu
    rcases hu with rfl | rfl | rfl
    · exact h1
    · exact h2
    · exact h3
  · match j, hu with
    | 0, hu => simp at hu; subst hu; exact hc
    | 1, hu => simp at hu; subst hu; exact hd
    | 2, hu => simp at hu; subst hu; exact he
/-- append of a box's three cells, in a region that draws -/
theorem step_app3 {P : Program} {ops : Array Oper} {o : Oper} {a : Act} {w : World} {K : Act → World → Prop} {Q : Exit → Act → World → Prop} {E : Prop} (hg : o.guard = none) {s x : Operand} {t e : TypeId} {z : Value} {bytes : Nat}
    (ho : o.op = .call { callee := .builtin .append, args := #[s, x], argTypes := #[t, t] }) (ei : EI P t e z 3 bytes) {v : Value} (hs : a.eval s = v) {k : Nat} (hx : a.eval x = .slice (some ⟨k, 0, none⟩) 1 1) {y1 y2 y3 : Value} (h1 : y1.oneCell' = true) (h2 : y2.oneCell' = true) (h3 : y3.oneCell' = true)
    {B n : Nat} {xs : List Value} (hown : w.ownsRow B e 3 v n xs) (hc : w.cell? ⟨k, 0, none⟩ = some y1) (hd : w.cell? ⟨k, 1, none⟩ = some y2) (he : w.cell? ⟨k, 2, none⟩ = some y3) (hlen : n + 1 ≤ 17592186044416) (hby : (n + 1) * bytes ≤ 140737488355328) (hB : B ≤ w.heap.size)
    (h : ∀ v' w', w'.ownsRow B e 3 v' (n + 1) (xs ++ [y1, y2, y3]) → Grew w v w' v' → K (a.put o.dst v') w') : if Region.wanted o (yielded ops a.tmps) = true then Oper.wp P o a w K Q else E :=
  step_app hg ho ei hs hown hx (src_cell3 h1 h2 h3 hc hd he) hlen hby hB h
theorem Grew.away {w w' : World} {v v' : Value} {k : Nat} (h : Grew w v w' v') (hne : v.ownBlock ≠ some k) (hk : k < w.heap.size) : v'.ownBlock ≠ some k := by
  rcases h.blk with e | e
  · rw [e]; exact hne
  · intro e2
    have := e k e2
    omega

/-! ### a node's box -/
structure NB4 (w : World) (k : Nat) (a b c : Int) (nv : Value) : Prop where
  c0 : w.cell? ⟨k, 0, none⟩ = some (.int .i64 a)
  c1 : w.cell? ⟨k, 1, none⟩ = some (.int .i64 b)
  c2 : w.cell? ⟨k, 2, none⟩ = some (.int .i64 c)
  c3 : w.cell? ⟨k, 3, none⟩ = some nv
theorem NB4.ext {w w' : World} {k : Nat} {a b c : Int} {nv : Value} (h : NB4 w k a b c nv) (hx : Ext w w') : NB4 w' k a b c nv := ⟨hx.cell h.c0, hx.cell h.c1, hx.cell h.c2, hx.cell h.c3⟩
theorem NB4.kept {w w' : World} {row : Option Nat} {k : Nat} {a b c : Int} {nv : Value} (h : NB4 w k a b c nv) (hg : w.grownBy w' row) (hne : some k ≠ row) : NB4 w' k a b c nv :=
  ⟨hg.cell h.c0 hne, hg.cell h.c1 hne, hg.cell h.c2 hne, hg.cell h.c3 hne⟩
theorem NB4.lt {w : World} {k : Nat} {a b c : Int} {nv : Value} (h : NB4 w k a b c nv) : k < w.heap.size := World.block_lt_of_cell? w _ h.c0

/-! ### the form under way -/
abbrev domI64 (i : Int) : Prop := (Lit.int .i64 i).wf = true
structure OfS (B G A M : Nat) (w : World) (sv : Value) (n : Nat) (xs : List Value) (N : Nat) (ats : List Value) (m : Nat) (f : Int → Option Value) : Prop where
  frm : w.ownsRow B 119 2 (.slice (some ⟨G, 0, none⟩) 1 1) 1 [sv, .slice (some ⟨A, 0, none⟩) N N]
  seq : w.ownsRow B 62 3 sv n xs
  ats : w.ownsRow B 3 1 (.slice (some ⟨A, 0, none⟩) N N) N ats
  mp : MapG Tryz.prog 3 (Value.int .i64) domI64 w M m f
  sG : sv.ownBlock ≠ some G
  sA : sv.ownBlock ≠ some A
  sM : sv.ownBlock ≠ some M
  GA : G ≠ A
  GM : G ≠ M
  AM : A ≠ M
  bM : B ≤ M
section
variable {B G A M : Nat} {w w' : World} {sv : Value} {n : Nat} {xs : List Value} {N : Nat} {ats : List Value} {m : Nat} {f : Int → Option Value}
theorem OfS.ext (h : OfS B G A M w sv n xs N ats m f) (hx : Ext w w') : OfS B G A M w' sv n xs N ats m f :=
  ⟨own_ext h.frm hx, own_ext h.seq hx, own_ext h.ats hx, h.mp.ext hx, h.sG, h.sA, h.sM, h.GA, h.GM, h.AM, h.bM⟩
theorem OfS.mono (h : OfS B G A M w sv n xs N ats m f) {m2 : Nat} (hm : m ≤ m2) : OfS B G A M w sv n xs N ats m2 f :=
  ⟨h.frm, h.seq, h.ats, h.mp.mono hm, h.sG, h.sA, h.sM, h.GA, h.GM, h.AM, h.bM⟩
theorem OfS.cells (h : OfS B G A M w sv n xs N ats m f) : w.cell? ⟨G, 0, none⟩ = some sv ∧ w.cell? ⟨G, 1, none⟩ = some (.slice (some ⟨A, 0, none⟩) N N) := by
  have cc : ∀ {j : Nat} {u : Value}, [sv, .slice (some ⟨A, 0, none⟩) N N][j]? = some u → w.cell? ⟨G, j, none⟩ = some u := by
    intro j u hj
    have := h.frm.cells (g := G) rfl j u hj
    rwa [Addr.add_lit, Nat.zero_add] at this
  exact ⟨cc rfl, cc rfl⟩
theorem OfS.at' (h : OfS B G A M w sv n xs N ats m f) {i : Nat} {u : Value} (hu : ats[i]? = some u) : w.cell? ⟨A, i, none⟩ = some u := by
  have := h.ats.cells (g := A) rfl i u hu
  rwa [Addr.add_lit, Nat.zero_add] at this
/-- the map is written -/
theorem OfS.put (h : OfS B G A M w sv n xs N ats m f) (hm : m < maxLen) {q : Int} (hq : domI64 q) (u : Value) :
    ∃ w', (Instr.mapUpdate 154 (.map (some M)) (.int .i64 q) u).run Tryz.prog w = .ok () w' ∧ OfS B G A M w' sv n xs N ats (m + 1) (fun j => if j = q then some u else f j) ∧ w.grownBy w' (some M) := by
  obtain ⟨w', h1, h2, h3⟩ := h.mp.set (keyE_int Tryz.underlying3) Tryz.underlying154 hm (i := q) hq u
  refine ⟨w', h1, ⟨own_kept h.frm h3 (.inl fun e => h.GM (Option.some.inj e)), own_kept h.seq h3 (.inl h.sM), own_kept h.ats h3 (.inl fun e => h.AM (Option.some.inj e)), h2, h.sG, h.sA, h.sM, h.GA, h.GM, h.AM, h.bM⟩, h3⟩
/-- a node's place is written -/
theorem OfS.set (h : OfS B G A M w sv n xs N ats m f) (i : Nat) (u : Value) :
    w.frozen? ⟨A, i, none⟩ = false ∧ w.grownBy (w.setCell ⟨A, i, none⟩ u) (some A) ∧ OfS B G A M (w.setCell ⟨A, i, none⟩ u) sv n xs N (ats.set i u) m f := by
  have h1 := (h.ats.stored i u).1
  have h2 := (h.ats.stored i u).2
  exact ⟨h.ats.frozenAt i, h2, own_kept h.frm h2 (.inl fun e => h.GA (Option.some.inj e)), own_kept h.seq h2 (.inl h.sA), h1, h.mp.kept h2 (fun e => h.AM (Option.some.inj e).symm), h.sG, h.sA, h.sM, h.GA, h.GM, h.AM, h.bM⟩
/-- a sequence more -/
theorem OfS.app (h : OfS B G A M w sv n xs N ats m f) {sv' : Value} {news : List Value} {n' : Nat} (ho : w'.ownsRow B 62 3 sv' n' (xs ++ news)) (hg : Grew w sv w' sv') :
    w'.frozen? ⟨G, 0, none⟩ = false ∧ w'.cell? ⟨G, 0, none⟩ = some sv ∧ w'.grownBy (w'.setCell ⟨G, 0, none⟩ sv') (some G) ∧ OfS B G A M (w'.setCell ⟨G, 0, none⟩ sv') sv' n' (xs ++ news) N ats m f := by
  have hG := (h.frm.lt G rfl).2
  have hA := (h.ats.lt A rfl).2
  have hM := h.mp.lt
  have f1 := own_kept h.frm hg.by' (.inl fun e => h.sG e.symm)
  have a1 := own_kept h.ats hg.by' (.inl fun e => h.sA e.symm)
  have m1 := h.mp.kept hg.by' (fun e => h.sM e.symm)
  have s1 := hg.away h.sG hG
  have t1 := (f1.stored 0 sv').1
  have t2 := (f1.stored 0 sv').2
  have hc := f1.cells (g := G) rfl 0 sv rfl
  rw [Addr.add_lit, Nat.zero_add] at hc
  exact ⟨f1.frozenAt 0, hc, t2, t1, own_kept ho t2 (.inl s1), own_kept a1 t2 (.inl fun e => h.GA (Option.some.inj e).symm), m1.kept t2 (fun e => h.GM (Option.some.inj e).symm), s1, hg.away h.sA hA, hg.away h.sM hM, h.GA, h.GM, h.AM, h.bM⟩
theorem OfS.look (h : OfS B G A M w sv n xs N ats m f) {q : Int} (hq : domI64 q) {o : Option Value} (ho : f q = o) : (Instr.lookup 154 (.map (some M)) (.int .i64 q) false).run Tryz.prog w = .ok (o.getD (.int .i64 0)) w :=
  h.mp.look1 (keyE_int Tryz.underlying3) Tryz.underlying154 (zeroI w) (i := q) hq ho
theorem OfS.gB (h : OfS B G A M w sv n xs N ats m f) : B ≤ G ∧ G < w.heap.size := h.frm.lt G rfl
theorem OfS.aB (h : OfS B G A M w sv n xs N ats m f) : B ≤ A ∧ A < w.heap.size := h.ats.lt A rfl
end
end Go.Proofs.YtkfheeffbombhaaGreatDoor/- the walk of recall.Of -/
namespace Go.Proofs.YtkfheeffbombhaaGreatDoor
open Go.RowKit
set_option linter.unusedVariables false

/-- the number of the first sequence of an information set -/
def startM (T : List Nd) (p : Int) (i : Nat) (q : Int) : Option Nat := (firstI T p i q).map fun j => (waysL T p j).length
def startF (T : List Nd) (p : Int) (i : Nat) (q : Int) : Option Value := (startM T p i q).map fun n => Value.int .i64 (n : Int)
theorem startF_put {T : List Nd} {p : Int} {i : Nat} {x : Nd} (hx : T[i]? = some x) (hk : x.kind = 2) (hp : x.player = p) (hf : firstI T p i x.info = none) : startF T p (i + 1) = fun q => if q = x.info then some (.int .i64 (((seqsL T p i).length : Nat) : Int)) else startF T p i q := by
  funext q
  unfold startF startM
  rw [firstI_put hx hk hp hf, seqsL_len]
  dsimp only
  split <;> rfl
theorem startF_keep {T : List Nd} {p : Int} {i : Nat} (h : firstI T p (i + 1) = firstI T p i) : startF T p (i + 1) = startF T p i := by
  funext q
  unfold startF startM
  rw [h]
theorem seqs_fresh {T : List Nd} {p : Int} {i : Nat} {x : Nd} (hx : T[i]? = some x) (hk : x.kind = 2) (hp : x.player = p) (hf : firstI T p i x.info = none) : seqsL T p (i + 1) = seqsL T p i ++ (List.range x.next.length).map (fun c : Nat => (x.info, (c : Int), ((idxL (waysL T p i) (own T p i) : Nat) : Int))) := by
  rw [seqsL_succ hx, if_pos ((fresh_first hk hp).2 hf)]
theorem seqs_stale {T : List Nd} {p : Int} {i : Nat} {x : Nd} (hx : T[i]? = some x) (h : ¬ (x.kind = 2 ∧ x.player = p) ∨ (x.kind = 2 ∧ x.player = p ∧ firstI T p i x.info ≠ none)) : seqsL T p (i + 1) = seqsL T p i := by
  rw [seqsL_succ hx, if_neg]
  intro hf
  obtain ⟨f1, f2, f3⟩ := freshB_iff.1 hf
  rcases h with h | ⟨h1, h2, h3⟩
  · exact h ⟨f1, f2⟩
  · exact h3 ((fresh_first h1 h2).1 hf)
/-- the sequences of each node -/
def atL (T : List Nd) (p : Int) : List Int := (List.range T.length).map fun k : Nat => ((atN T p k : Nat) : Int)
/-- what Of leaves -/
def OfPost (T : List Nd) (p : Int) (u : Value) (w w' : World) : Prop := ∃ G sv av, u = .pointer (some ⟨G, 0, none⟩) ∧ w'.cell? ⟨G, 0, none⟩ = some sv ∧ w'.cell? ⟨G, 1, none⟩ = some av ∧ SqIn w' sv (seqsL T p T.length) ∧ Ints w' av (atL T p) ∧ Ext w w'

set_option maxHeartbeats 12800000 in
set_option maxRecDepth 100000 in
theorem of_any (v : Value) (T : List Nd) (p : Int) (w : World) (hv : TreeIn w v T) (hT : Valid T) (hr : remB T p = true) :
    Calls Tryz.prog 68 #[v, .int .i64 p] w fun e w' => ∃ u, e = .returned u ∧ OfPost T p u w w' := by
  obtain ⟨wo, rfl⟩ : ∃ wo : World, wo = w := ⟨_, rfl⟩
  have hl := hT.len
  have hpos := hT.pos
  have HDS := Lib.hid (fun (i c n k : Nat) (x : Nd) (hx : T[i]? = some x) (hn : x.next[c]? = some (n : Int)) (hd : doneP T i (c + 1) k) => hT.done_succ hx hn hd)
  have HDI := Lib.hid (fun (i : Nat) (hi : i < T.length) (c : Nat) => hT.done_self hi c)
  have HDA := Lib.hid (fun (k : Nat) (hk : k < T.length) => hT.done_all hk)
  have HCH := Lib.hid (fun (i c : Nat) (x : Nd) (k : Int) (hx : T[i]? = some x) (hk : x.next[c]? = some k) => hT.child hx (List.mem_of_getElem? hk))
  have HN6 := Lib.hid (fun (i : Nat) (x : Nd) (hx : T[i]? = some x) => hT.next6 hx)
  have HW1 := Lib.hid (fun (i : Nat) (x : Nd) (hx : T[i]? = some x) (hk : x.kind = 2) => hT.wide1 hx hk)
  have HBF := Lib.hid (fun (i : Nat) (hi : i < T.length) => atN_before hT hr hi)
  have HSZL := Lib.hid (fun (i : Nat) (hi : i ≤ T.length) => (by rw [seqsL_len]; have := ways_size hT p i hi; omega : (seqsL T p i).length ≤ 721))
  have HWL := Lib.hid (fun (j : Nat) (hj : j ≤ T.length) => (by have := ways_size hT p j hj; omega : (waysL T p j).length ≤ 721))
  have HA0 : Hid (atN T p 0 = 0) := atN_zero T p
  obtain ⟨ao, c, rfl, hlen, hn⟩ := hv.open
  have HN := Lib.hid hn
  obtain ⟨N, hN⟩ : ∃ N, T.length = N := ⟨_, rfl⟩
  have HNN := Lib.hid hN
  rw [hN] at hl hpos hlen ⊢
  obtain ⟨W0, hW0⟩ : ∃ W0, wo.alloc (.cells #[.int .i64 (-1), .int .i64 (-1), .int .i64 (-1)] 62) = W0 := ⟨_, rfl⟩
  obtain ⟨S0, hS0⟩ : ∃ S0, wo.heap.size = S0 := ⟨_, rfl⟩
  have HSQ0 : Hid (W0.ownsRow wo.heap.size 62 3 (.slice (some ⟨S0, 0, none⟩) 1 1) 1 (flat3 (seqsL T p 0))) := by
    show World.ownsRow _ _ _ _ _ _ _
    rw [← hW0, ← hS0]
    exact World.ownsRow_lit wo #[.int .i64 (-1), .int .i64 (-1), .int .i64 (-1)] 1 (Nat.le_refl _) (by unfold maxLen; omega) rfl
  have HX0 : Hid (Ext wo W0) := by show Ext _ _; rw [← hW0]; exact (Ext.refl wo).alloc _
  clear hn hv hN
  have hmm := @run_makeMap Tryz.prog
  go_enter Tryz.func68, Tryz.ntmps68
  go_wp2_with (first | (at_make; go_must (refine wp_make1 rfl rfl ei_ints rfl rfl rfl N rfl rfl (by omega) (by omega) ?_); intro w2 hO2 hX2))
  have hszW0 : W0.heap.size = S0 + 1 := by rw [← hW0, ← hS0]; simp
  obtain ⟨A, hA⟩ : ∃ A, W0.heap.size = A := ⟨_, rfl⟩
  obtain ⟨G, hG⟩ : ∃ G, w2.heap.size = G := ⟨_, rfl⟩
  rw [hA] at hO2 hszW0
  have hAG : A < G := by rw [← hG]; exact (hO2.lt A rfl).2
  have HOF : Hid (OfS wo.heap.size G A (G + 1) ((w2.alloc (.cells #[.slice (some ⟨S0, 0, none⟩) 1 1, .slice (some ⟨A, 0, none⟩) N N] 119)).alloc (.map #[] 0)) (.slice (some ⟨S0, 0, none⟩) 1 1) (seqsL T p 0).length (flat3 (seqsL T p 0)) N (List.replicate N (.int .i64 0)) 0 (startF T p 0)) := by
    have h1 : (w2.alloc (.cells #[.slice (some ⟨S0, 0, none⟩) 1 1, .slice (some ⟨A, 0, none⟩) N N] 119)).ownsRow w2.heap.size 119 2 (.slice (some ⟨w2.heap.size, 0, none⟩) 1 1) 1 [.slice (some ⟨S0, 0, none⟩) 1 1, .slice (some ⟨A, 0, none⟩) N N] :=
      World.ownsRow_lit w2 #[.slice (some ⟨S0, 0, none⟩) 1 1, .slice (some ⟨A, 0, none⟩) N N] 1 (Nat.le_refl _) (by unfold maxLen; omega) rfl
    have hM := MapG.made (P := Tryz.prog) (k := 3) (enc := Value.int .i64) (dom := domI64) (w2.alloc (.cells #[.slice (some ⟨S0, 0, none⟩) 1 1, .slice (some ⟨A, 0, none⟩) N N] 119))
    rw [World.size_alloc, hG] at hM
    rw [hG] at h1
    have hwo : wo.heap.size ≤ G := by omega
    have hwo2 : wo.heap.size ≤ A := by omega
    have XF : Ext w2 (w2.alloc (.cells #[.slice (some ⟨S0, 0, none⟩) 1 1, .slice (some ⟨A, 0, none⟩) N N] 119)) := (Ext.refl _).alloc _
    have XM : Ext (w2.alloc (.cells #[.slice (some ⟨S0, 0, none⟩) 1 1, .slice (some ⟨A, 0, none⟩) N N] 119)) ((w2.alloc (.cells #[.slice (some ⟨S0, 0, none⟩) 1 1, .slice (some ⟨A, 0, none⟩) N N] 119)).alloc (.map #[] 0)) := (Ext.refl _).alloc _
    refine ⟨own_ext (own_mono h1 hwo) XM, own_ext (own_ext (own_ext HSQ0.out hX2) XF) XM, own_ext (own_ext (own_mono hO2 hwo2) XF) XM, hM, ?_, ?_, ?_, by omega, by omega, by omega, by omega⟩
    · intro e; simp only [Value.ownBlock, Option.some.injEq] at e; omega
    · intro e; simp only [Value.ownBlock, Option.some.injEq] at e; omega
    · intro e; simp only [Value.ownBlock, Option.some.injEq] at e; omega
  rw [hG, hA]
  obtain ⟨W9, hW9⟩ : ∃ W9, (w2.alloc (.cells #[.slice (some ⟨S0, 0, none⟩) 1 1, .slice (some ⟨A, 0, none⟩) N N] 119)).alloc (.map #[] 0) = W9 := ⟨_, rfl⟩
  rw [hW9] at HOF ⊢
  have HX9 : Hid (Ext wo W9) := by show Ext _ _; rw [← hW9]; exact ((HX0.out.trans hX2).alloc _).alloc _
  obtain ⟨M, hM⟩ : ∃ M, G + 1 = M := ⟨_, rfl⟩
  rw [hM] at HOF ⊢
  obtain ⟨Wb, hWb⟩ : ∃ Wb, W9.heap.size = Wb := ⟨_, rfl⟩
  have hMb : M < Wb := by rw [← hWb]; exact HOF.out.mp.lt
  have hGb : G < Wb := by omega
  have hAb : A < Wb := by omega
  clear hW9 hO2 hX2 HX0 HSQ0 hW0 hS0 hszW0 hA hG hmm
  go_loopw [25] (fun iv wr => ∃ (i : Nat) (sv : Value) (ats : List Value), i ≤ N ∧ iv = .int .i64 i ∧ Hid (OfS wo.heap.size G A M wr sv (seqsL T p i).length (flat3 (seqsL T p i)) N ats i (startF T p i)) ∧ Hid (ats.length = N) ∧ Hid (∀ k, k < N → doneP T i 0 k → ats[k]? = some (.int .i64 ((atN T p k : Nat) : Int))) ∧ Hid (Wb ≤ wr.heap.size) ∧ Ext wo wr) (fun iv _ => N - (intOf iv).toNat)
  case atStart => exact ⟨0, _, List.replicate N (.int .i64 0), Nat.zero_le _, rfl, HOF.out, List.length_replicate, (fun k hk hd => by rw [hd.zero, List.getElem?_replicate, if_pos hpos, HA0.out]; rfl), (by show _ ≤ _; rw [← hWb]; exact Nat.le_refl _), HX9.out⟩
  case round =>
    clear HOF HX9
    obtain ⟨i, sv, ats, hi, rfl, HO, HAL, HDN, HSZ, X⟩ := hrel
    by_cases hlt : i < N
    · obtain ⟨x, d1, _, _⟩ := get_lt (xs := T) (k := i) (by rw [HNN.out]; exact hlt)
      obtain ⟨b, off, no, nc, oo, oc, rfl, c0, c1, c2, c3, c4, c5, hnc, _, _⟩ := HN.out.at d1
      have c0 := X.cell c0
      have c1 := X.cell c1
      have c2 := X.cell c2
      have c3 := X.cell c3
      have c4 := X.cell c4
      have c5 := X.cell c5
      have hii : (i : Int) < (N : Int) := by omega
      have HXI := Lib.hid d1.out
      have HNC := Lib.hid hnc
      have hn6 := HN6.out i x d1.out
      have HWX := Lib.hid (HW1.out i x d1.out)
      have HBI := Lib.hid (HBF.out i (by rw [HNN.out]; exact hlt))
      have HSI := HSZL.out i (by rw [HNN.out]; omega)
      obtain ⟨kx, hkx⟩ : ∃ kx, x.kind = kx := ⟨_, rfl⟩
      obtain ⟨px, hpx⟩ : ∃ px, x.player = px := ⟨_, rfl⟩
      obtain ⟨qx, hqx⟩ : ∃ qx, x.info = qx := ⟨_, rfl⟩
      obtain ⟨nx, hnx⟩ : ∃ nx, x.next.length = nx := ⟨_, rfl⟩
      obtain ⟨ox, hox⟩ : ∃ ox, x.odds.length = ox := ⟨_, rfl⟩
      obtain ⟨yx, hyx⟩ : ∃ yx, x.pay = yx := ⟨_, rfl⟩
      have HKX := Lib.hid hkx
      have HPX := Lib.hid hpx
      have HQX := Lib.hid hqx
      have HNX := Lib.hid hnx
      rw [hkx] at c0 HWX
      rw [hpx] at c1 HWX
      rw [hqx] at c2 HWX
      rw [hnx] at c3 hn6 HWX
      rw [hox] at c4
      rw [hyx] at c5
      obtain ⟨T7, hT7⟩ : ∃ T7, wr.heap.size = T7 := ⟨_, rfl⟩
      obtain ⟨W1, hW1⟩ : ∃ W1, wr.alloc (.cells #[.int .i64 kx, .int .i64 px, .int .i64 qx, .slice no nx nc, .slice oo ox oc, .string yx] 38) = W1 := ⟨_, rfl⟩
      have X1 : Ext wr W1 := by rw [← hW1]; exact (Ext.refl wr).alloc _
      have y0 : W1.cell? ⟨T7, 0, none⟩ = some (.int .i64 kx) := by rw [← hW1, ← hT7]; simp [go_sem]
      have y1 : W1.cell? ⟨T7, 1, none⟩ = some (.int .i64 px) := by rw [← hW1, ← hT7]; simp [go_sem]
      have y2 : W1.cell? ⟨T7, 2, none⟩ = some (.int .i64 qx) := by rw [← hW1, ← hT7]; simp [go_sem]
      have y3 : W1.cell? ⟨T7, 3, none⟩ = some (.slice no nx nc) := by rw [← hW1, ← hT7]; simp [go_sem]
      have HB1 : Hid (NB4 W1 T7 kx px qx (.slice no nx nc)) := ⟨y0, y1, y2, y3⟩
      have hszb := HSZ.out
      have hTA : T7 ≠ A := by omega
      have hTG : T7 ≠ G := by omega
      have hTM : T7 ≠ M := by omega
      have HST : Hid (sv.ownBlock ≠ some T7) := fun e => by have := (HO.out.seq.lt T7 e).2; omega
      have HX1 := Lib.hid (X.trans X1)
      have HO1 := Lib.hid (HO.out.ext X1)
      have HS1 : Hid (Wb ≤ W1.heap.size) := Nat.le_trans HSZ.out X1.size
      clear hkx hpx hqx hnx hox hyx d1 hnc hszb X1 X HO HSZ
      have hlen2 := hlen
      obtain ⟨wq, rfl⟩ : ∃ wq : World, wq = wr := ⟨_, rfl⟩
      by_cases hkp : kx = 2 ∧ px = p
      · obtain ⟨rfl, rfl⟩ := hkp
        obtain ⟨hw1, hw2, hq1, hq2, _⟩ := HWX.out rfl
        have HDM : Hid (domI64 qx) := wf_small (by omega) (by omega)
        have hb1 : (px == px) = true := by simp
        have him0 : i < maxLen := by unfold maxLen; omega
        cases hf : firstI T px i qx with
        | none =>
          have HF2 : Hid (startF T px i qx = none) := by show _ = _; unfold startF startM; rw [hf]; rfl
          have hfx : firstI T px i x.info = none := by rw [HQX.out]; exact hf
          have HFI : Hid (firstI T px (i + 1) x.info = some i) := by show _ = _; rw [firstI_put HXI.out HKX.out HPX.out hfx]; exact if_pos rfl
          have HSQ := Lib.hid (seqs_fresh HXI.out HKX.out HPX.out hfx)
          have HFE := Lib.hid (startF_put HXI.out HKX.out HPX.out hfx)
          have HSNL : Hid ((waysL T px i).length = (seqsL T px i).length) := (seqsL_len T px i).symm
          rw [HBI.out, HQX.out, HNX.out] at HSQ
          rw [HQX.out] at HFE
          obtain ⟨SQ0, hSQ0⟩ : ∃ SQ0, seqsL T px i = SQ0 := ⟨_, rfl⟩
          rw [hSQ0] at HO1 HSQ HFE HSI HSNL
          obtain ⟨SN, hSN⟩ : ∃ SN, SQ0.length = SN := ⟨_, rfl⟩
          rw [hSN] at HO1 HFE HSI HSNL
          have HSNE := Lib.hid HSNL.out
          have HSN := Lib.hid HSI
          have HSN0 := Lib.hid hSN
          obtain ⟨so, sc, rfl⟩ := own_isS HO1.out.seq
          obtain ⟨Wp, hput, op, gp⟩ := (HO1.out.ext ((Ext.refl W1).drew)).put him0 HDM.out (.int .i64 (SN : Int))
          have HOP := Lib.hid op
          have HBP := Lib.hid ((HB1.out.ext ((Ext.refl W1).drew)).kept gp (fun e => hTM (Option.some.inj e)))
          have HXP := Lib.hid ((HX1.out.trans ((Ext.refl W1).drew)).grown gp HO1.out.bM)
          have HSP : Hid (Wb ≤ Wp.heap.size) := Nat.le_trans HS1.out gp.size
          obtain ⟨AI, hAI⟩ : ∃ AI, atN T px i = AI := ⟨_, rfl⟩
          rw [hAI] at HSQ
          have HAI : Hid (ats[i]? = some (.int .i64 (AI : Int))) := by show _ = _; rw [← hAI]; exact HDN.out i hlt (HDI.out _ (by rw [HNN.out]; exact hlt) 0)
          obtain ⟨d0, d1⟩ := HO1.out.cells
          obtain ⟨FF, hFF⟩ : ∃ FF, startF T px (i + 1) = FF := ⟨_, rfl⟩
          have HFF := Lib.hid hFF
          have HFL : Hid (FF qx = some (.int .i64 (SN : Int))) := by show _ = _; rw [← hFF, HFE.out]; exact if_pos rfl
          have hsn721 := HSI
          have HOP : Hid (OfS wo.heap.size G A M Wp (.slice so SN sc) SN (flat3 SQ0) N ats (i + 1) FF) := by
            show OfS _ _ _ _ _ _ _ _ _ _ _ _
            rw [← hFF, HFE.out]
            exact HOP.out
          clear op gp hSQ0 hSN hAI hf hfx hFF HFE HSI hw1 hw2 hq1 hq2 HB1 HX1 HS1 HSNL
          go_wp2_with (first | (at_lookup; go_must (refine wp_look rfl rfl (keyE_int Tryz.underlying3) Tryz.underlying154 (zeroI _) rfl HO1.out.mp rfl HDM.out HF2.out ?_)))
          go_region
          clear hput d0 d1 y0 y1 y2 y3 HO1 HF2 c0 c1 c2 c3 c4 c5 hW1 hT7
          have y3 := HBP.out.c3
          go_wp2_with fail
          clear y3
          go_loopw [60] (fun jv wr => ∃ (c : Nat) (sv : Value) (n : Nat), c ≤ nx ∧ jv = .int .i64 c ∧ Hid (OfS wo.heap.size G A M wr sv n (flat3 (SQ0 ++ (List.range c).map (fun c : Nat => (qx, (c : Int), (AI : Int))))) N ats (i + 1) FF) ∧ Hid (n = SN + c) ∧ Hid (sv.ownBlock ≠ some T7) ∧ Hid (NB4 wr T7 2 px qx (.slice no nx nc)) ∧ Hid (Wb ≤ wr.heap.size) ∧ Ext wo wr) (fun jv _ => nx - (intOf jv).toNat)
          case atStart => exact ⟨0, _, SN, Nat.zero_le _, rfl, by show OfS _ _ _ _ _ _ _ _ _ _ _ _; rw [List.range_zero, List.map_nil, List.append_nil]; exact HOP.out, rfl, HST.out, HBP.out, HSP.out, HXP.out⟩
          case round =>
            clear HOP HST HBP HSP HXP
            obtain ⟨c, sv, n, hc, rfl, HO, HNE, HST, HB, HSZ, X⟩ := hrel
            by_cases hlc : c < nx
            · obtain ⟨so2, sc2, rfl⟩ := own_isS HO.out.seq
              obtain ⟨d0, d1⟩ := HO.out.cells
              have e1 := HO.out.at' HAI.out
              have y2 := HB.out.c2
              have hn9 := HNE.out
              have hcx : c ≤ 6 := by omega
              have hL1 : n + 1 ≤ 17592186044416 := by omega
              have hL2 : (n + 1) * 24 ≤ 140737488355328 := by omega
              have hci : (c : Int) < (nx : Int) := by omega
              have hn6i : (nx : Int) ≤ 6 := by omega
              have hiN : (i : Int) < (N : Int) := by omega
              have HXC := Lib.hid X
              have hHB := Lib.hid X.size
              have d0a := ((Ext.refl wr).alloc (.cells #[.int .i64 qx, .int .i64 (c : Int), .int .i64 (AI : Int)] 62)).cell d0
              clear hn9 X hcx hlc
              go_wp2_with fail
              go_region_law (first
                | (refine step_app3 (s := .tmp 67) (x := .tmp 79) rfl rfl ei_sq rfl rfl (y1 := .int .i64 qx) (y2 := .int .i64 (c : Int)) (y3 := .int .i64 (AI : Int)) rfl rfl rfl (B := wo.heap.size) (n := n) (by exact own_ext HO.out.seq (by repeat' (first | with_reducible exact Ext.refl _ | with_reducible apply Ext.alloc | with_reducible apply Ext.drew))) (by simp [go_sem]; done) (by simp [go_sem]; done) (by simp [go_sem]; done) hL1 hL2 (by exact Ext.size (HXC.out.trans (by repeat' (first | with_reducible exact Ext.refl _ | with_reducible apply Ext.alloc | with_reducible apply Ext.drew)))) ?_; intro v9 w9 hown hgrew; obtain ⟨po9, pc9, rfl⟩ := own_isS hown; have HST9 := Lib.hid (hgrew.away HST.out (NB4.lt (HB.out.ext (by repeat' (first | with_reducible exact Ext.refl _ | with_reducible apply Ext.alloc | with_reducible apply Ext.drew))))); have HB9 := Lib.hid ((HB.out.ext (by repeat' (first | with_reducible exact Ext.refl _ | with_reducible apply Ext.alloc | with_reducible apply Ext.drew))).kept hgrew.by' (fun e => HST.out e.symm)); have HX9 := Lib.hid (hgrew.extNew (HXC.out.trans (by repeat' (first | with_reducible exact Ext.refl _ | with_reducible apply Ext.alloc | with_reducible apply Ext.drew))) (own_ext HO.out.seq (by repeat' (first | with_reducible exact Ext.refl _ | with_reducible apply Ext.alloc | with_reducible apply Ext.drew))) (Nat.le_refl _)); obtain ⟨f9, g9, gr9, o9⟩ := (HO.out.ext (by repeat' (first | with_reducible exact Ext.refl _ | with_reducible apply Ext.alloc | with_reducible apply Ext.drew))).app hown hgrew; have HO9 := Lib.hid o9; have HG9 := Lib.hid gr9; have HSW : Hid (Wb ≤ w9.heap.size) := Nat.le_trans HSZ.out (Nat.le_trans (Ext.size (by repeat' (first | with_reducible exact Ext.refl _ | with_reducible apply Ext.alloc | with_reducible apply Ext.drew))) hgrew.by'.size); clear o9 gr9 hown hgrew))
              all_goals
                have HFE : Hid (flat3 (SQ0 ++ (List.range (c + 1)).map (fun c : Nat => (qx, (c : Int), (AI : Int)))) = flat3 (SQ0 ++ (List.range c).map (fun c : Nat => (qx, (c : Int), (AI : Int)))) ++ [.int .i64 qx, .int .i64 (c : Int), .int .i64 (AI : Int)]) := by
                  show _ = _
                  rw [List.range_succ, List.map_append, ← List.append_assoc, flat3_app]; rfl
                obtain ⟨WA, hWA⟩ : ∃ WA, w9.setCell ⟨G, 0, none⟩ (.slice po9 (n + 1) pc9) = WA := ⟨_, rfl⟩
                rw [hWA] at HO9 HG9 ⊢
                have HXA := Lib.hid (HX9.out.grown HG9.out HO.out.gB.1)
                have HBA := Lib.hid (HB9.out.kept HG9.out (fun e => hTG (Option.some.inj e)))
                have HSA : Hid (Wb ≤ WA.heap.size) := Nat.le_trans HSW.out HG9.out.size
                have HN1 : Hid (n + 1 = SN + (c + 1)) := by show _ = _; rw [HNE.out]; omega
                clear f9 g9 HG9 HX9 HB9 HSW hWA d0 d0a d1 e1 y2
                go_wp2_with fail
                go_roundw
                case rel => exact ⟨c + 1, _, n + 1, by omega, by go_num, by rw [HFE.out]; exact HO9.out, HN1.out, HST9.out, HBA.out, HSA.out, HXA.out⟩
                case measure => simp [intOf]; omega
            · have hce : c = nx := by omega
              subst hce
              have hge : ¬ (c : Int) < (c : Int) := by omega
              obtain ⟨c0x, rfl⟩ : ∃ c0x : Nat, c0x = c := ⟨_, rfl⟩
              obtain ⟨wq2, rfl⟩ : ∃ wq2 : World, wq2 = wr := ⟨_, rfl⟩
              have HSXE : Hid ((seqsL T px (i + 1)).length = n ∧ flat3 (seqsL T px (i + 1)) = flat3 (SQ0 ++ (List.range c0x).map (fun c : Nat => (qx, (c : Int), (AI : Int))))) := by
                rw [HSQ.out]
                exact ⟨by rw [List.length_append, List.length_map, List.length_range, HSN0.out, HNE.out], rfl⟩
              obtain ⟨SX, hSX⟩ : ∃ SX, flat3 (SQ0 ++ (List.range c0x).map (fun c : Nat => (qx, (c : Int), (AI : Int)))) = SX := ⟨_, rfl⟩
              rw [hSX] at HO HSXE
              obtain ⟨SL, rfl⟩ : ∃ SL, SL = n := ⟨_, rfl⟩
              have HO2 := HO
              have HX2 := Lib.hid X
              have HB2 := HB
              have HS2 := HSZ
              have y0 := HB.out.c0
              have y1 := HB.out.c1
              have y2 := HB.out.c2
              have y3 := HB.out.c3
              clear hlc hSX HO X HB HSZ HNE HSQ
              go_wp2_with fail
              clear y0 y1 y2 y3
              go_loopw [87] (fun jv wr => ∃ (c : Nat) (ats : List Value), c ≤ c0x ∧ jv = .int .i64 c ∧ Hid (OfS wo.heap.size G A M wr sv SL SX N ats (i + 1) FF) ∧ Hid (ats.length = N) ∧ Hid (∀ k, k < N → doneP T i c k → ats[k]? = some (.int .i64 ((atN T px k : Nat) : Int))) ∧ Hid (NB4 wr T7 2 px qx (.slice no c0x nc)) ∧ Hid (Wb ≤ wr.heap.size) ∧ Ext wo wr) (fun jv _ => c0x - (intOf jv).toNat)
              case atStart => exact ⟨0, ats, Nat.zero_le _, rfl, HO2.out, HAL.out, HDN.out, HB2.out, HS2.out, HX2.out⟩
              case round =>
                clear HO2 HAL HDN HB2 HS2 HX2
                obtain ⟨c, ats, hc, rfl, HO, HAL, HDN, HB, HSZ, X⟩ := hrel
                by_cases hlc : c < c0x
                · obtain ⟨kk, k1, _, _⟩ := get_lt (xs := x.next) (k := c) (by rw [HNX.out]; exact hlc)
                  have hch := HCH.out _ _ _ _ HXI.out k1.out
                  obtain ⟨m, rfl⟩ : ∃ m : Nat, kk = (m : Int) := ⟨kk.toNat, by omega⟩
                  obtain ⟨nb, noff, rfl, hk0⟩ := (HNC.out.ext X).at k1
                  have hk0 : wr.cell? ⟨nb, noff + c, none⟩ = some (.int .i64 (m : Int)) := hk0
                  have hmN : m < N := by have := HNN.out; omega
                  have him : i < m := by omega
                  have HEI := Lib.hid (HDN.out i hlt (HDI.out _ (by rw [HNN.out]; exact hlt) c))
                  have HDS2 := Lib.hid (fun (k : Nat) (hd : doneP T i (c + 1) k) => HDS.out _ _ _ _ _ HXI.out k1.out hd)
                  have HATM := Lib.hid (atN_own hT hr HXI.out k1.out HKX.out HPX.out HFI.out)
                  obtain ⟨AI, hAI⟩ : ∃ AI, atN T px i = AI := ⟨_, rfl⟩
                  have HAI := Lib.hid hAI
                  rw [hAI] at HEI
                  obtain ⟨d0, d1⟩ := HO.out.cells
                  have e1 := HO.out.at' HEI.out
                  obtain ⟨f1, g1, o1⟩ := (HO.out.ext ((Ext.refl wr).drew)).set m (.int .i64 (AI : Int))
                  have hold : ∃ u0, ats[m]? = some u0 := ⟨ats[m]'(by have := HAL.out; omega), List.getElem?_eq_getElem _⟩
                  obtain ⟨u0, hu0⟩ := hold
                  have e2 := HO.out.at' hu0
                  have f1 : wr.frozen? ⟨A, m, none⟩ = false := f1
                  have hci : (c : Int) < (c0x : Int) := by omega
                  have hn6i : (c0x : Int) ≤ 6 := by omega
                  have hiN : (i : Int) < (N : Int) := by omega
                  have hmi : (m : Int) < (N : Int) := by omega
                  have y0 := HB.out.c0
                  have y1 := HB.out.c1
                  have y2 := HB.out.c2
                  obtain ⟨W8, hW8⟩ : ∃ W8, wr.drew.setCell ⟨A, m, none⟩ (.int .i64 (AI : Int)) = W8 := ⟨_, rfl⟩
                  rw [hW8] at g1 o1
                  have HO8 := Lib.hid o1
                  have HB8 := Lib.hid ((HB.out.ext ((Ext.refl wr).drew)).kept g1 (fun e => hTA (Option.some.inj e)))
                  have HX8 := Lib.hid ((X.trans ((Ext.refl wr).drew)).grown g1 HO.out.aB.1)
                  have HS8 : Hid (Wb ≤ W8.heap.size) := Nat.le_trans HSZ.out g1.size
                  have HAL8 : Hid ((ats.set m (.int .i64 (AI : Int))).length = N) := by show _ = _; rw [List.length_set]; exact HAL.out
                  have HDR : Hid (∀ k, k ≠ m → k < N → doneP T i (c + 1) k → ats[k]? = some (.int .i64 ((atN T px k : Nat) : Int))) := fun k hkm hk hd => by
                    rcases HDS2.out _ hd with e | ⟨_, hd2⟩
                    · exact absurd e hkm
                    · exact HDN.out k hk hd2
                  clear hlc hch k1 HDN HDS2 hAI g1 o1 HSZ hu0 HAL
                  go_wp2_with fail
                  go_region
                  clear f1 e1 e2 hk0 y0 y1 y2 hW8 d0 d1
                  have y0 := HB8.out.c0
                  have y1 := HB8.out.c1
                  have y2 := HB8.out.c2
                  obtain ⟨d0, d1⟩ := HO8.out.cells
                  obtain ⟨f2, g2, o2⟩ := (HO8.out.ext ((Ext.refl W8).drew)).set m (.int .i64 ((SN : Int) + (c : Int)))
                  have f2 : W8.frozen? ⟨A, m, none⟩ = false := f2
                  have e3 := HO8.out.at' (i := m) (u := .int .i64 (AI : Int)) (by rw [List.getElem?_set_self (by have := HAL8.out; rw [List.length_set] at this; omega)])
                  have hlk := (HO8.out.ext ((Ext.refl W8).drew)).look HDM.out HFL.out
                  have hlk2 : (Instr.lookup 154 (.map (some M)) (.int .i64 qx) false).run Tryz.prog W8.drew = .ok (.int .i64 (SN : Int)) W8.drew := hlk
                  have hsn := HSN.out
                  have hsum : IntKind.i64.wrap ((SN : Int) + (c : Int)) = (SN : Int) + (c : Int) := IntWalk.i64_in _ (by omega)
                  obtain ⟨W9, hW9⟩ : ∃ W9, W8.drew.setCell ⟨A, m, none⟩ (.int .i64 ((SN : Int) + (c : Int))) = W9 := ⟨_, rfl⟩
                  rw [hW9] at g2 o2
                  rw [List.set_set] at o2
                  have HO9 := Lib.hid o2
                  have HB9 := Lib.hid ((HB8.out.ext ((Ext.refl W8).drew)).kept g2 (fun e => hTA (Option.some.inj e)))
                  have HX9 := Lib.hid ((HX8.out.trans ((Ext.refl W8).drew)).grown g2 HO8.out.aB.1)
                  have HS9 : Hid (Wb ≤ W9.heap.size) := Nat.le_trans HS8.out g2.size
                  have HAL9 : Hid ((ats.set m (.int .i64 ((SN : Int) + (c : Int)))).length = N) := by have := HAL8.out; show _ = _; rw [List.length_set] at this ⊢; exact this
                  have HDF : Hid (∀ k, k < N → doneP T i (c + 1) k → (ats.set m (.int .i64 ((SN : Int) + (c : Int))))[k]? = some (.int .i64 ((atN T px k : Nat) : Int))) := fun k hk hd => by
                    by_cases hkm : k = m
                    · subst hkm
                      rw [List.getElem?_set_self (by have := HAL8.out; rw [List.length_set] at this; omega), HATM.out, HSNE.out, Int.natCast_add]
                    · rw [List.getElem?_set_ne (fun e => hkm e.symm)]
                      exact HDR.out k hkm hk hd
                  clear hlk g2 o2
                  go_wp2_with fail
                  go_region
                  clear f2 e3 hlk2 hsum y0 y1 y2 hW9 d0 d1 hsn
                  go_wp2_with fail
                  go_roundw
                  case rel => exact ⟨c + 1, _, by omega, by go_num, HO9.out, HAL9.out, HDF.out, HB9.out, HS9.out, HX9.out⟩
                  case measure => simp [intOf]; omega
                · have hce : c = c0x := by omega
                  subst hce
                  have HDF : Hid (∀ k, k < N → doneP T (i + 1) 0 k → ats[k]? = some (.int .i64 ((atN T px k : Nat) : Int))) := fun k hk hd => HDN.out k hk (by have := hd.next HXI.out; rwa [HNX.out] at this)
                  have hge : ¬ (c : Int) < (c : Int) := by omega
                  clear hlc HDN
                  go_wp2_with fail
                  go_roundw
                  case rel => exact ⟨i + 1, sv, ats, by omega, by go_num, by rw [HSXE.out.1, HSXE.out.2, HFF.out]; exact HO.out, HAL.out, HDF.out, HSZ.out, X⟩
                  case measure => simp [intOf]; omega

        | some j =>
          have HF2 : Hid (startF T px i qx = some (.int .i64 (((waysL T px j).length : Nat) : Int))) := by show _ = _; unfold startF startM; rw [hf]; rfl
          have hfx : firstI T px i x.info = some j := by rw [HQX.out]; exact hf
          have hji : j < i := by obtain ⟨_, h, _⟩ := firstI_some hfx; exact h
          have hkeep := firstI_keep HXI.out hfx
          have HFI : Hid (firstI T px (i + 1) x.info = some j) := by show _ = _; rw [hkeep]; exact hfx
          have HSXE := Lib.hid (seqs_stale (p := px) HXI.out (.inr ⟨HKX.out, HPX.out, by rw [hfx]; simp⟩))
          have HFE := Lib.hid (startF_keep hkeep)
          have hwl := HWL.out j (by rw [HNN.out]; omega)
          obtain ⟨SN, hSN⟩ : ∃ SN, (waysL T px j).length = SN := ⟨_, rfl⟩
          have HSNE := Lib.hid hSN
          rw [hSN] at HF2 hwl
          have HSN := Lib.hid hwl
          have HFL : Hid (startF T px (i + 1) qx = some (.int .i64 (SN : Int))) := by show _ = _; rw [HFE.out]; exact HF2.out
          obtain ⟨SL, hSL⟩ : ∃ SL, (seqsL T px i).length = SL := ⟨_, rfl⟩
          obtain ⟨SX, hSX⟩ : ∃ SX, flat3 (seqsL T px i) = SX := ⟨_, rfl⟩
          have HO2 : Hid (OfS wo.heap.size G A M W1 sv SL SX N ats (i + 1) (startF T px (i + 1))) := by
            show OfS _ _ _ _ _ _ _ _ _ _ _ _
            rw [HFE.out, ← hSL, ← hSX]
            exact HO1.out.mono (Nat.le_succ i)
          have HSXE : Hid ((seqsL T px (i + 1)).length = SL ∧ flat3 (seqsL T px (i + 1)) = SX) := by rw [HSXE.out]; exact ⟨hSL, hSX⟩
          obtain ⟨FF, hFF⟩ : ∃ FF, startF T px (i + 1) = FF := ⟨_, rfl⟩
          have HFF := Lib.hid hFF
          rw [hFF] at HO2 HFL
          have HX2 := HX1
          have HB2 := HB1
          have HS2 := HS1
          clear HB1 HX1 HS1 hSL hSX hFF HFE HSI hf hfx hkeep hSN hwl hw1 hw2 hq1 hq2 hji
          go_wp2_with (first | (at_lookup; go_must (refine wp_look rfl rfl (keyE_int Tryz.underlying3) Tryz.underlying154 (zeroI _) rfl HO1.out.mp rfl HDM.out HF2.out ?_)))
          clear y0 y1 y2 y3 HO1 HF2
          go_loopw [87] (fun jv wr => ∃ (c : Nat) (ats : List Value), c ≤ nx ∧ jv = .int .i64 c ∧ Hid (OfS wo.heap.size G A M wr sv SL SX N ats (i + 1) FF) ∧ Hid (ats.length = N) ∧ Hid (∀ k, k < N → doneP T i c k → ats[k]? = some (.int .i64 ((atN T px k : Nat) : Int))) ∧ Hid (NB4 wr T7 2 px qx (.slice no nx nc)) ∧ Hid (Wb ≤ wr.heap.size) ∧ Ext wo wr) (fun jv _ => nx - (intOf jv).toNat)
          case atStart => exact ⟨0, ats, Nat.zero_le _, rfl, HO2.out, HAL.out, HDN.out, HB2.out, HS2.out, HX2.out⟩
          case round =>
            clear HO2 HAL HDN HB2 HS2 HX2
            obtain ⟨c, ats, hc, rfl, HO, HAL, HDN, HB, HSZ, X⟩ := hrel
            by_cases hlc : c < nx
            · obtain ⟨kk, k1, _, _⟩ := get_lt (xs := x.next) (k := c) (by rw [HNX.out]; exact hlc)
              have hch := HCH.out _ _ _ _ HXI.out k1.out
              obtain ⟨m, rfl⟩ : ∃ m : Nat, kk = (m : Int) := ⟨kk.toNat, by omega⟩
              obtain ⟨nb, noff, rfl, hk0⟩ := (HNC.out.ext X).at k1
              have hk0 : wr.cell? ⟨nb, noff + c, none⟩ = some (.int .i64 (m : Int)) := hk0
              have hmN : m < N := by have := HNN.out; omega
              have him : i < m := by omega
              have HEI := Lib.hid (HDN.out i hlt (HDI.out _ (by rw [HNN.out]; exact hlt) c))
              have HDS2 := Lib.hid (fun (k : Nat) (hd : doneP T i (c + 1) k) => HDS.out _ _ _ _ _ HXI.out k1.out hd)
              have HATM := Lib.hid (atN_own hT hr HXI.out k1.out HKX.out HPX.out HFI.out)
              obtain ⟨AI, hAI⟩ : ∃ AI, atN T px i = AI := ⟨_, rfl⟩
              have HAI := Lib.hid hAI
              rw [hAI] at HEI
              obtain ⟨d0, d1⟩ := HO.out.cells
              have e1 := HO.out.at' HEI.out
              obtain ⟨f1, g1, o1⟩ := (HO.out.ext ((Ext.refl wr).drew)).set m (.int .i64 (AI : Int))
              have hold : ∃ u0, ats[m]? = some u0 := ⟨ats[m]'(by have := HAL.out; omega), List.getElem?_eq_getElem _⟩
              obtain ⟨u0, hu0⟩ := hold
              have e2 := HO.out.at' hu0
              have f1 : wr.frozen? ⟨A, m, none⟩ = false := f1
              have hci : (c : Int) < (nx : Int) := by omega
              have hn6i : (nx : Int) ≤ 6 := by omega
              have hiN : (i : Int) < (N : Int) := by omega
              have hmi : (m : Int) < (N : Int) := by omega
              have y0 := HB.out.c0
              have y1 := HB.out.c1
              have y2 := HB.out.c2
              obtain ⟨W8, hW8⟩ : ∃ W8, wr.drew.setCell ⟨A, m, none⟩ (.int .i64 (AI : Int)) = W8 := ⟨_, rfl⟩
              rw [hW8] at g1 o1
              have HO8 := Lib.hid o1
              have HB8 := Lib.hid ((HB.out.ext ((Ext.refl wr).drew)).kept g1 (fun e => hTA (Option.some.inj e)))
              have HX8 := Lib.hid ((X.trans ((Ext.refl wr).drew)).grown g1 HO.out.aB.1)
              have HS8 : Hid (Wb ≤ W8.heap.size) := Nat.le_trans HSZ.out g1.size
              have HAL8 : Hid ((ats.set m (.int .i64 (AI : Int))).length = N) := by show _ = _; rw [List.length_set]; exact HAL.out
              have HDR : Hid (∀ k, k ≠ m → k < N → doneP T i (c + 1) k → ats[k]? = some (.int .i64 ((atN T px k : Nat) : Int))) := fun k hkm hk hd => by
                rcases HDS2.out _ hd with e | ⟨_, hd2⟩
                · exact absurd e hkm
                · exact HDN.out k hk hd2
              clear hlc hch k1 HDN HDS2 hAI g1 o1 HSZ hu0 HAL
              go_wp2_with fail
              go_region
              clear f1 e1 e2 hk0 y0 y1 y2 hW8 d0 d1
              have y0 := HB8.out.c0
              have y1 := HB8.out.c1
              have y2 := HB8.out.c2
              obtain ⟨d0, d1⟩ := HO8.out.cells
              obtain ⟨f2, g2, o2⟩ := (HO8.out.ext ((Ext.refl W8).drew)).set m (.int .i64 ((SN : Int) + (c : Int)))
              have f2 : W8.frozen? ⟨A, m, none⟩ = false := f2
              have e3 := HO8.out.at' (i := m) (u := .int .i64 (AI : Int)) (by rw [List.getElem?_set_self (by have := HAL8.out; rw [List.length_set] at this; omega)])
              have hlk := (HO8.out.ext ((Ext.refl W8).drew)).look HDM.out HFL.out
              have hlk2 : (Instr.lookup 154 (.map (some M)) (.int .i64 qx) false).run Tryz.prog W8.drew = .ok (.int .i64 (SN : Int)) W8.drew := hlk
              have hsn := HSN.out
              have hsum : IntKind.i64.wrap ((SN : Int) + (c : Int)) = (SN : Int) + (c : Int) := IntWalk.i64_in _ (by omega)
              obtain ⟨W9, hW9⟩ : ∃ W9, W8.drew.setCell ⟨A, m, none⟩ (.int .i64 ((SN : Int) + (c : Int))) = W9 := ⟨_, rfl⟩
              rw [hW9] at g2 o2
              rw [List.set_set] at o2
              have HO9 := Lib.hid o2
              have HB9 := Lib.hid ((HB8.out.ext ((Ext.refl W8).drew)).kept g2 (fun e => hTA (Option.some.inj e)))
              have HX9 := Lib.hid ((HX8.out.trans ((Ext.refl W8).drew)).grown g2 HO8.out.aB.1)
              have HS9 : Hid (Wb ≤ W9.heap.size) := Nat.le_trans HS8.out g2.size
              have HAL9 : Hid ((ats.set m (.int .i64 ((SN : Int) + (c : Int)))).length = N) := by have := HAL8.out; show _ = _; rw [List.length_set] at this ⊢; exact this
              have HDF : Hid (∀ k, k < N → doneP T i (c + 1) k → (ats.set m (.int .i64 ((SN : Int) + (c : Int))))[k]? = some (.int .i64 ((atN T px k : Nat) : Int))) := fun k hk hd => by
                by_cases hkm : k = m
                · subst hkm
                  rw [List.getElem?_set_self (by have := HAL8.out; rw [List.length_set] at this; omega), HATM.out, HSNE.out, Int.natCast_add]
                · rw [List.getElem?_set_ne (fun e => hkm e.symm)]
                  exact HDR.out k hkm hk hd
              clear hlk g2 o2
              go_wp2_with fail
              go_region
              clear f2 e3 hlk2 hsum y0 y1 y2 hW9 d0 d1 hsn
              go_wp2_with fail
              go_roundw
              case rel => exact ⟨c + 1, _, by omega, by go_num, HO9.out, HAL9.out, HDF.out, HB9.out, HS9.out, HX9.out⟩
              case measure => simp [intOf]; omega
            · have hce : c = nx := by omega
              subst hce
              have HDF : Hid (∀ k, k < N → doneP T (i + 1) 0 k → ats[k]? = some (.int .i64 ((atN T px k : Nat) : Int))) := fun k hk hd => HDN.out k hk (by have := hd.next HXI.out; rwa [HNX.out] at this)
              have hge : ¬ (c : Int) < (c : Int) := by omega
              clear hlc HDN
              go_wp2_with fail
              go_roundw
              case rel => exact ⟨i + 1, sv, ats, by omega, by go_num, by rw [HSXE.out.1, HSXE.out.2, HFF.out]; exact HO.out, HAL.out, HDF.out, HSZ.out, X⟩
              case measure => simp [intOf]; omega
      · have HNO : Hid (¬ (x.kind = 2 ∧ x.player = p)) := by rw [HKX.out, HPX.out]; exact hkp
        have HSXE := Lib.hid (seqs_stale HXI.out (.inl HNO.out))
        have HFE := Lib.hid (startF_keep (firstI_skip HXI.out HNO.out))
        obtain ⟨SL, hSL⟩ : ∃ SL, (seqsL T p i).length = SL := ⟨_, rfl⟩
        obtain ⟨SX, hSX⟩ : ∃ SX, flat3 (seqsL T p i) = SX := ⟨_, rfl⟩
        have HO2 : Hid (OfS wo.heap.size G A M W1 sv SL SX N ats (i + 1) (startF T p (i + 1))) := by
          show OfS _ _ _ _ _ _ _ _ _ _ _ _
          rw [HFE.out, ← hSL, ← hSX]
          exact HO1.out.mono (Nat.le_succ i)
        have HSXE : Hid ((seqsL T p (i + 1)).length = SL ∧ flat3 (seqsL T p (i + 1)) = SX) := by rw [HSXE.out]; exact ⟨hSL, hSX⟩
        obtain ⟨FF, hFF⟩ : ∃ FF, startF T p (i + 1) = FF := ⟨_, rfl⟩
        have HFF := Lib.hid hFF
        rw [hFF] at HO2
        have HX2 := HX1
        have HB2 := HB1
        have HS2 := HS1
        clear HO1 HB1 HX1 HS1 hSL hSX hFF HFE HSI
        by_cases hk : kx = 2
        · subst hk
          have bf : (px == p) = false := by rw [beq_eq_false_iff_ne]; exact fun e => hkp ⟨rfl, e⟩
          clear hkp
          go_wp2_with fail
          clear y0 y1 y2 y3
          go_loopw [87] (fun jv wr => ∃ (c : Nat) (ats : List Value), c ≤ nx ∧ jv = .int .i64 c ∧ Hid (OfS wo.heap.size G A M wr sv SL SX N ats (i + 1) FF) ∧ Hid (ats.length = N) ∧ Hid (∀ k, k < N → doneP T i c k → ats[k]? = some (.int .i64 ((atN T p k : Nat) : Int))) ∧ Hid (NB4 wr T7 2 px qx (.slice no nx nc)) ∧ Hid (Wb ≤ wr.heap.size) ∧ Ext wo wr) (fun jv _ => nx - (intOf jv).toNat)
          case atStart => exact ⟨0, ats, Nat.zero_le _, rfl, HO2.out, HAL.out, HDN.out, HB2.out, HS2.out, HX2.out⟩
          case round =>
            clear HO2 HAL HDN HB2 HS2 HX2
            obtain ⟨c, ats, hc, rfl, HO, HAL, HDN, HB, HSZ, X⟩ := hrel
            by_cases hlc : c < nx
            · obtain ⟨kk, k1, _, _⟩ := get_lt (xs := x.next) (k := c) (by rw [HNX.out]; exact hlc)
              have hch := HCH.out _ _ _ _ HXI.out k1.out
              obtain ⟨m, rfl⟩ : ∃ m : Nat, kk = (m : Int) := ⟨kk.toNat, by omega⟩
              obtain ⟨nb, noff, rfl, hk0⟩ := (HNC.out.ext X).at k1
              have hk0 : wr.cell? ⟨nb, noff + c, none⟩ = some (.int .i64 (m : Int)) := hk0
              have hmN : m < N := by have := HNN.out; omega
              have him : i < m := by omega
              have HEI := Lib.hid (HDN.out i hlt (HDI.out _ (by rw [HNN.out]; exact hlt) c))
              have HDS2 := Lib.hid (fun (k : Nat) (hd : doneP T i (c + 1) k) => HDS.out _ _ _ _ _ HXI.out k1.out hd)
              have HATM := Lib.hid (atN_same hT (p := p) HXI.out k1.out HNO.out)
              obtain ⟨AI, hAI⟩ : ∃ AI, atN T p i = AI := ⟨_, rfl⟩
              have HAI := Lib.hid hAI
              rw [hAI] at HEI
              obtain ⟨d0, d1⟩ := HO.out.cells
              have e1 := HO.out.at' HEI.out
              obtain ⟨f1, g1, o1⟩ := (HO.out.ext ((Ext.refl wr).drew)).set m (.int .i64 (AI : Int))
              have hold : ∃ u0, ats[m]? = some u0 := ⟨ats[m]'(by have := HAL.out; omega), List.getElem?_eq_getElem _⟩
              obtain ⟨u0, hu0⟩ := hold
              have e2 := HO.out.at' hu0
              have f1 : wr.frozen? ⟨A, m, none⟩ = false := f1
              have hci : (c : Int) < (nx : Int) := by omega
              have hn6i : (nx : Int) ≤ 6 := by omega
              have hiN : (i : Int) < (N : Int) := by omega
              have hmi : (m : Int) < (N : Int) := by omega
              have y0 := HB.out.c0
              have y1 := HB.out.c1
              have y2 := HB.out.c2
              obtain ⟨W8, hW8⟩ : ∃ W8, wr.drew.setCell ⟨A, m, none⟩ (.int .i64 (AI : Int)) = W8 := ⟨_, rfl⟩
              rw [hW8] at g1 o1
              have HO8 := Lib.hid o1
              have HB8 := Lib.hid ((HB.out.ext ((Ext.refl wr).drew)).kept g1 (fun e => hTA (Option.some.inj e)))
              have HX8 := Lib.hid ((X.trans ((Ext.refl wr).drew)).grown g1 HO.out.aB.1)
              have HS8 : Hid (Wb ≤ W8.heap.size) := Nat.le_trans HSZ.out g1.size
              have HAL8 : Hid ((ats.set m (.int .i64 (AI : Int))).length = N) := by show _ = _; rw [List.length_set]; exact HAL.out
              have HDR : Hid (∀ k, k ≠ m → k < N → doneP T i (c + 1) k → ats[k]? = some (.int .i64 ((atN T p k : Nat) : Int))) := fun k hkm hk hd => by
                rcases HDS2.out _ hd with e | ⟨_, hd2⟩
                · exact absurd e hkm
                · exact HDN.out k hk hd2
              clear hlc hch k1 HDN HDS2 hAI g1 o1 HSZ hu0 HAL
              go_wp2_with fail
              go_region
              clear f1 e1 e2 hk0 y0 y1 y2 hW8 d0 d1
              have HDF : Hid (∀ k, k < N → doneP T i (c + 1) k → (ats.set m (.int .i64 (AI : Int)))[k]? = some (.int .i64 ((atN T p k : Nat) : Int))) := fun k hk hd => by
                by_cases hkm : k = m
                · subst hkm
                  rw [List.getElem?_set_self (by have := HAL8.out; rw [List.length_set] at this; omega), HATM.out, HAI.out]
                · rw [List.getElem?_set_ne (fun e => hkm e.symm)]
                  exact HDR.out k hkm hk hd
              go_wp2_with fail
              go_roundw
              case rel => exact ⟨c + 1, _, by omega, by go_num, HO8.out, HAL8.out, HDF.out, HB8.out, HS8.out, HX8.out⟩
              case measure => simp [intOf]; omega
            · have hce : c = nx := by omega
              subst hce
              have HDF : Hid (∀ k, k < N → doneP T (i + 1) 0 k → ats[k]? = some (.int .i64 ((atN T p k : Nat) : Int))) := fun k hk hd => HDN.out k hk (by have := hd.next HXI.out; rwa [HNX.out] at this)
              have hge : ¬ (c : Int) < (c : Int) := by omega
              clear hlc HDN
              go_wp2_with fail
              go_roundw
              case rel => exact ⟨i + 1, sv, ats, by omega, by go_num, by rw [HSXE.out.1, HSXE.out.2, HFF.out]; exact HO.out, HAL.out, HDF.out, HSZ.out, X⟩
              case measure => simp [intOf]; omega
        · have bf : (kx == 2) = false := by rw [beq_eq_false_iff_ne]; exact hk
          clear hkp hk
          go_wp2_with fail
          clear y0 y1 y2 y3
          go_loopw [87] (fun jv wr => ∃ (c : Nat) (ats : List Value), c ≤ nx ∧ jv = .int .i64 c ∧ Hid (OfS wo.heap.size G A M wr sv SL SX N ats (i + 1) FF) ∧ Hid (ats.length = N) ∧ Hid (∀ k, k < N → doneP T i c k → ats[k]? = some (.int .i64 ((atN T p k : Nat) : Int))) ∧ Hid (NB4 wr T7 kx px qx (.slice no nx nc)) ∧ Hid (Wb ≤ wr.heap.size) ∧ Ext wo wr) (fun jv _ => nx - (intOf jv).toNat)
          case atStart => exact ⟨0, ats, Nat.zero_le _, rfl, HO2.out, HAL.out, HDN.out, HB2.out, HS2.out, HX2.out⟩
          case round =>
            clear HO2 HAL HDN HB2 HS2 HX2
            obtain ⟨c, ats, hc, rfl, HO, HAL, HDN, HB, HSZ, X⟩ := hrel
            by_cases hlc : c < nx
            · obtain ⟨kk, k1, _, _⟩ := get_lt (xs := x.next) (k := c) (by rw [HNX.out]; exact hlc)
              have hch := HCH.out _ _ _ _ HXI.out k1.out
              obtain ⟨m, rfl⟩ : ∃ m : Nat, kk = (m : Int) := ⟨kk.toNat, by omega⟩
              obtain ⟨nb, noff, rfl, hk0⟩ := (HNC.out.ext X).at k1
              have hk0 : wr.cell? ⟨nb, noff + c, none⟩ = some (.int .i64 (m : Int)) := hk0
              have hmN : m < N := by have := HNN.out; omega
              have him : i < m := by omega
              have HEI := Lib.hid (HDN.out i hlt (HDI.out _ (by rw [HNN.out]; exact hlt) c))
              have HDS2 := Lib.hid (fun (k : Nat) (hd : doneP T i (c + 1) k) => HDS.out _ _ _ _ _ HXI.out k1.out hd)
              have HATM := Lib.hid (atN_same hT (p := p) HXI.out k1.out HNO.out)
              obtain ⟨AI, hAI⟩ : ∃ AI, atN T p i = AI := ⟨_, rfl⟩
              have HAI := Lib.hid hAI
              rw [hAI] at HEI
              obtain ⟨d0, d1⟩ := HO.out.cells
              have e1 := HO.out.at' HEI.out
              obtain ⟨f1, g1, o1⟩ := (HO.out.ext ((Ext.refl wr).drew)).set m (.int .i64 (AI : Int))
              have hold : ∃ u0, ats[m]? = some u0 := ⟨ats[m]'(by have := HAL.out; omega), List.getElem?_eq_getElem _⟩
              obtain ⟨u0, hu0⟩ := hold
              have e2 := HO.out.at' hu0
              have f1 : wr.frozen? ⟨A, m, none⟩ = false := f1
              have hci : (c : Int) < (nx : Int) := by omega
              have hn6i : (nx : Int) ≤ 6 := by omega
              have hiN : (i : Int) < (N : Int) := by omega
              have hmi : (m : Int) < (N : Int) := by omega
              have y0 := HB.out.c0
              have y1 := HB.out.c1
              have y2 := HB.out.c2
              obtain ⟨W8, hW8⟩ : ∃ W8, wr.drew.setCell ⟨A, m, none⟩ (.int .i64 (AI : Int)) = W8 := ⟨_, rfl⟩
              rw [hW8] at g1 o1
              have HO8 := Lib.hid o1
              have HB8 := Lib.hid ((HB.out.ext ((Ext.refl wr).drew)).kept g1 (fun e => hTA (Option.some.inj e)))
              have HX8 := Lib.hid ((X.trans ((Ext.refl wr).drew)).grown g1 HO.out.aB.1)
              have HS8 : Hid (Wb ≤ W8.heap.size) := Nat.le_trans HSZ.out g1.size
              have HAL8 : Hid ((ats.set m (.int .i64 (AI : Int))).length = N) := by show _ = _; rw [List.length_set]; exact HAL.out
              have HDR : Hid (∀ k, k ≠ m → k < N → doneP T i (c + 1) k → ats[k]? = some (.int .i64 ((atN T p k : Nat) : Int))) := fun k hkm hk hd => by
                rcases HDS2.out _ hd with e | ⟨_, hd2⟩
                · exact absurd e hkm
                · exact HDN.out k hk hd2
              clear hlc hch k1 HDN HDS2 hAI g1 o1 HSZ hu0 HAL
              go_wp2_with fail
              go_region
              clear f1 e1 e2 hk0 y0 y1 y2 hW8 d0 d1
              have HDF : Hid (∀ k, k < N → doneP T i (c + 1) k → (ats.set m (.int .i64 (AI : Int)))[k]? = some (.int .i64 ((atN T p k : Nat) : Int))) := fun k hk hd => by
                by_cases hkm : k = m
                · subst hkm
                  rw [List.getElem?_set_self (by have := HAL8.out; rw [List.length_set] at this; omega), HATM.out, HAI.out]
                · rw [List.getElem?_set_ne (fun e => hkm e.symm)]
                  exact HDR.out k hkm hk hd
              go_wp2_with fail
              go_roundw
              case rel => exact ⟨c + 1, _, by omega, by go_num, HO8.out, HAL8.out, HDF.out, HB8.out, HS8.out, HX8.out⟩
              case measure => simp [intOf]; omega
            · have hce : c = nx := by omega
              subst hce
              have HDF : Hid (∀ k, k < N → doneP T (i + 1) 0 k → ats[k]? = some (.int .i64 ((atN T p k : Nat) : Int))) := fun k hk hd => HDN.out k hk (by have := hd.next HXI.out; rwa [HNX.out] at this)
              have hge : ¬ (c : Int) < (c : Int) := by omega
              clear hlc HDN
              go_wp2_with fail
              go_roundw
              case rel => exact ⟨i + 1, sv, ats, by omega, by go_num, by rw [HSXE.out.1, HSXE.out.2, HFF.out]; exact HO.out, HAL.out, HDF.out, HSZ.out, X⟩
              case measure => simp [intOf]; omega
    · have hie : i = N := by omega
      subst hie
      have HSE : Hid (SqIn wr sv (seqsL T p T.length)) := by
        show SqIn _ _ _
        rw [HNN.out]
        exact SqO.toIn (B := wo.heap.size) HO.out.seq
      have HAE : Hid (Ints wr (.slice (some ⟨A, 0, none⟩) i i) (atL T p)) := by
        have h1 : ats = (atL T p).map (Value.int .i64) := by
          apply List.ext_getElem?
          intro k
          unfold atL
          rw [HNN.out]
          by_cases hk : k < i
          · rw [HDN.out k hk (by have := HDA.out k (by rw [HNN.out]; exact hk); rwa [HNN.out] at this), List.getElem?_map, List.getElem?_map, List.getElem?_range hk]; rfl
          · rw [List.getElem?_eq_none (by rw [HAL.out]; omega), List.getElem?_eq_none (by simp; omega)]
        have h2 := HO.out.ats
        rw [h1] at h2
        exact own_rowOf h2 (by omega)
      have HCE := Lib.hid HO.out.cells
      have hge : ¬ (i : Int) < (i : Int) := by omega
      clear hlt
      go_wp2_with fail
      go_ret
      exact ⟨_, rfl, G, sv, _, rfl, HCE.out.1, HCE.out.2, HSE.out, HAE.out, X⟩
end Go.Proofs.YtkfheeffbombhaaGreatDoor/- walks: recall.Sequences, At; the memory of the reference's Sequences; Way -/
namespace Go.Proofs.YtkfheeffbombhaaGreatDoor
open Go.RowKit
set_option linter.unusedVariables false

theorem valid_player {T : List Nd} {p : Int} (h : playerE T p = 0) : Valid T ∧ (p = 0 ∨ p = 1) := by
  unfold playerE at h
  by_cases h0 : treeE T = 0
  · rw [if_neg (by simpa using h0)] at h
    refine ⟨valid_of h0, ?_⟩
    by_cases h1 : p ≠ 0 ∧ p ≠ 1
    · rw [if_pos h1] at h; cases h
    · omega
  · rw [if_pos h0] at h; exact absurd h h0
theorem recall_ok {T : List Nd} {p : Int} (h : recallE T p = 0) : Valid T ∧ remB T p = true ∧ (p = 0 ∨ p = 1) ∧ playerE T p = 0 := by
  unfold recallE at h
  by_cases h0 : playerE T p = 0
  · rw [if_neg (by simpa using h0)] at h
    by_cases hr : remB T p = true
    · exact ⟨(valid_player h0).1, hr, (valid_player h0).2, h0⟩
    · rw [if_neg hr] at h; cases h
  · rw [if_pos h0] at h; exact absurd h h0

def SqsPost (T : List Nd) (p : Int) (u : Value) (w w' : World) : Prop := Ext w w' ∧ ((recallE T p ≠ 0 ∧ u = .tuple #[.slice none 0 0, .int .i64 (recallE T p)]) ∨ (recallE T p = 0 ∧ ∃ a, u = .tuple #[a, .int .i64 0] ∧ SqIn w' a (seqsL T p T.length)))
def AtPost (T : List Nd) (p : Int) (u : Value) (w w' : World) : Prop := Ext w w' ∧ ((recallE T p ≠ 0 ∧ u = .tuple #[.slice none 0 0, .int .i64 (recallE T p)]) ∨ (recallE T p = 0 ∧ ∃ a, u = .tuple #[a, .int .i64 0] ∧ Ints w' a (atL T p)))

set_option maxHeartbeats 1600000 in
set_option maxRecDepth 100000 in
theorem sequences_any (v : Value) (T : List Nd) (p : Int) (w : World) (htab : TabPow w) (hv : TreeIn w v T) (hz : TreeSz T) :
    Calls Tryz.prog 28 #[v, .int .i64 p] w fun e w' => ∃ u, e = .returned u ∧ SqsPost T p u w w' := by
  have HC := Lib.hid (rcheck_any v T p w htab hv hz)
  have HO := Lib.hid (fun (h : recallE T p = 0) W (hX : Ext w W) => of_any v T p W (hv.ext hX) (recall_ok h).1 (recall_ok h).2.1)
  obtain ⟨ao, c, rfl, _, _⟩ := hv.open
  obtain ⟨E, hE⟩ : ∃ E, recallE T p = E := ⟨_, rfl⟩
  have HE := Lib.hid hE
  rw [hE] at HC HO
  clear hv hz htab hE
  by_cases h0 : E = 0
  · subst h0
    have HO2 := Lib.hid (HO.out rfl)
    clear HO
    go_enter Tryz.func28, Tryz.ntmps28
    go_wp2_with fail
    refine HC.out.mono ?_
    rintro e w2 ⟨rfl, X2⟩
    go_wp2_with fail
    refine (HO2.out _ X2).mono ?_
    rintro e w3 ⟨u3, rfl, G, sv, av, rfl, c0, c1, hs, ha, X3⟩
    have HX3 := Lib.hid (X2.trans X3)
    have HS3 := Lib.hid hs
    have HA3 := Lib.hid ha
    clear hs ha X2 X3
    go_wp2_with fail
    go_ret2
    exact ⟨_, rfl, HX3.out, .inr ⟨HE.out, _, rfl, HS3.out⟩⟩
  · have hb : (E != 0) = true := by rw [bne_iff_ne]; exact h0
    go_enter Tryz.func28, Tryz.ntmps28
    go_wp2_with fail
    refine HC.out.mono ?_
    rintro e w2 ⟨rfl, X2⟩
    go_wp2_with fail
    go_ret2
    exact ⟨_, rfl, X2, .inl ⟨by rw [HE.out]; exact h0, by rw [HE.out]; rfl⟩⟩

set_option maxHeartbeats 1600000 in
set_option maxRecDepth 100000 in
theorem atNodes_any (v : Value) (T : List Nd) (p : Int) (w : World) (htab : TabPow w) (hv : TreeIn w v T) (hz : TreeSz T) :
    Calls Tryz.prog 29 #[v, .int .i64 p] w fun e w' => ∃ u, e = .returned u ∧ AtPost T p u w w' := by
  have HC := Lib.hid (rcheck_any v T p w htab hv hz)
  have HO := Lib.hid (fun (h : recallE T p = 0) W (hX : Ext w W) => of_any v T p W (hv.ext hX) (recall_ok h).1 (recall_ok h).2.1)
  obtain ⟨ao, c, rfl, _, _⟩ := hv.open
  obtain ⟨E, hE⟩ : ∃ E, recallE T p = E := ⟨_, rfl⟩
  have HE := Lib.hid hE
  rw [hE] at HC HO
  clear hv hz htab hE
  by_cases h0 : E = 0
  · subst h0
    have HO2 := Lib.hid (HO.out rfl)
    clear HO
    go_enter Tryz.func29, Tryz.ntmps29
    go_wp2_with fail
    refine HC.out.mono ?_
    rintro e w2 ⟨rfl, X2⟩
    go_wp2_with fail
    refine (HO2.out _ X2).mono ?_
    rintro e w3 ⟨u3, rfl, G, sv, av, rfl, c0, c1, hs, ha, X3⟩
    have HX3 := Lib.hid (X2.trans X3)
    have HS3 := Lib.hid hs
    have HA3 := Lib.hid ha
    clear hs ha X2 X3
    go_wp2_with fail
    go_ret2
    exact ⟨_, rfl, HX3.out, .inr ⟨HE.out, _, rfl, HA3.out⟩⟩
  · have hb : (E != 0) = true := by rw [bne_iff_ne]; exact h0
    go_enter Tryz.func29, Tryz.ntmps29
    go_wp2_with fail
    refine HC.out.mono ?_
    rintro e w2 ⟨rfl, X2⟩
    go_wp2_with fail
    go_ret2
    exact ⟨_, rfl, X2, .inl ⟨by rw [HE.out]; exact h0, by rw [HE.out]; rfl⟩⟩

/-! ### Way -/
set_option maxHeartbeats 3200000 in
set_option maxRecDepth 100000 in
theorem rWay_any {B : Nat} (g n cap : Nat) (u : Value) (pss : List (List (Int × Int))) (ps : List (Int × Int)) (w : World) (hg : PsG w B (.slice (some ⟨g, 0, none⟩) n cap) pss) (hu : P2In w u ps) (hl : pss.length ≤ 100000) (hm : ps ∈ pss) :
    Calls Tryz.prog 33 #[.slice (some ⟨g, 0, none⟩) n cap, u] w fun e w' => e = .returned (.int .i64 ((idxL pss ps : Nat) : Int)) ∧ Ext w w' := by
  obtain ⟨wo, rfl⟩ : ∃ wo : World, wo = w := ⟨_, rfl⟩
  have hn := hg.len
  subst hn
  have HG := Lib.hid hg
  have HU := Lib.hid hu
  obtain ⟨ao, c, rfl, _, _⟩ := hu.open
  have HM := Lib.hid (idxL_get hm)
  have HNE := Lib.hid (fun (j : Nat) (qs : List (Int × Int)) (hj : j < idxL pss ps) (hq : pss[j]? = some qs) (e : qs = ps) => (by
    have h1 := List.idxOf_lt_length_iff.2 hm
    obtain ⟨h2, h3⟩ := List.getElem?_eq_some_iff.1 hq
    have := List.not_of_lt_findIdx (p := (· == ps)) (xs := pss) hj
    simp [h3, e] at this : False))
  obtain ⟨K, hK⟩ : ∃ K, idxL pss ps = K := ⟨_, rfl⟩
  rw [hK] at HM HNE ⊢
  have hKl : K < pss.length := (List.getElem?_eq_some_iff.1 HM.out).1
  clear hg hu hm hK
  go_enter Tryz.func33, Tryz.ntmps33
  go_wp2_with fail
  go_loopw [9] (fun jv wr => ∃ (j : Nat), j ≤ K ∧ jv = .int .i64 j ∧ Ext wo wr) (fun jv _ => pss.length - (intOf jv).toNat)
  case atStart => exact ⟨0, Nat.zero_le _, rfl, Ext.refl _⟩
  case round =>
    obtain ⟨j, hj, rfl, X⟩ := hrel
    obtain ⟨qs, d1, _, _⟩ := get_lt (xs := pss) (k := j) (by omega)
    obtain ⟨a2, c2, e0, hq, _⟩ := (HG.out.ext X).at d1.out
    have HQ := Lib.hid hq
    have HSA := Lib.hid (rSame_any _ _ qs ps wr hq (HU.out.ext X))
    have hjj : (j : Int) < (pss.length : Int) := by omega
    obtain ⟨L1, hL1⟩ : ∃ L1, qs.length = L1 := ⟨_, rfl⟩
    obtain ⟨L2, hL2⟩ : ∃ L2, ps.length = L2 := ⟨_, rfl⟩
    rw [hL1] at e0 HSA
    rw [hL2] at HSA ⊢
    by_cases hjk : j = K
    · subst hjk
      have hqe : qs = ps := by have h1 := HM.out; rw [d1.out] at h1; exact Option.some.inj h1
      rw [decide_eq_true hqe] at HSA
      clear hq hL1 hL2 hqe d1 HNE
      go_wp2_with fail
      refine HSA.out.mono ?_
      rintro e w2 ⟨rfl, X2⟩
      go_wp2_with fail
      go_ret
      exact ⟨rfl, X.trans X2⟩
    · have hqe : ¬ qs = ps := fun e => HNE.out j qs (by omega) d1.out e
      rw [decide_eq_false hqe] at HSA
      clear hq hL1 hL2 hqe d1
      go_wp2_with fail
      refine HSA.out.mono ?_
      rintro e w2 ⟨rfl, X2⟩
      go_wp2_with fail
      go_roundw
      case rel => exact ⟨j + 1, by omega, by go_num, X.trans X2⟩
      case measure => simp [intOf]; omega
end Go.Proofs.YtkfheeffbombhaaGreatDoor/- the walk of the reference's Sequences -/
namespace Go.Proofs.YtkfheeffbombhaaGreatDoor
open Go.RowKit
set_option linter.unusedVariables false

set_option maxHeartbeats 3200000 in
set_option maxRecDepth 100000 in
theorem rOwnF_any (v : Value) (T : List Nd) (p : Int) (k : Nat) (w : World) (hv : TreeIn w v T) (hT : Valid T) (hk : k < T.length) :
    Calls Tryz.prog 34 #[v, .int .i64 p, .int .i64 (k : Int)] w fun e w' => ∃ u, e = .returned u ∧ P2O w' w.heap.size u (own T p k) ∧ Ext w w' := by
  obtain ⟨wo, rfl⟩ : ∃ wo : World, wo = w := ⟨_, rfl⟩
  have HPA := Lib.hid (fun W (hx : Ext wo W) => rPath_any v T k W (hv.ext hx) hT hk)
  have HPM := Lib.hid (path_mem hT k k (Nat.le_refl _) hk)
  have HPL := Lib.hid (path_len hT k k (Nat.le_refl _) hk)
  have hl := hT.len
  have hkl : k ≤ 120 := by omega
  obtain ⟨ao, c, rfl, hlen, hn⟩ := hv.open
  have HN := Lib.hid hn
  unfold own
  unfold pathI at HPA
  obtain ⟨l, hll⟩ : ∃ l, path T k = l := ⟨_, rfl⟩
  rw [hll] at HPA HPM HPL ⊢
  have hl9 : l.length ≤ 120 := by have := HPL.out; omega
  clear hv hT hn hll hk
  go_enter Tryz.func34, Tryz.ntmps34
  go_wp2_with fail
  refine (HPA.out _ (Ext.refl _)).mono ?_
  rintro e w1 ⟨u, rfl, hu, X1⟩
  obtain ⟨po, pc, rfl, _, hu2⟩ := hu.open
  have HU := Lib.hid hu2
  have hml : (l.map nI).length = l.length := List.length_map ..
  rw [hml]
  clear hu hu2 hml
  go_wp2_with fail
  go_loopw [7, 15] (fun ov iv wr => ∃ (i : Nat), i ≤ l.length ∧ iv = .int .i64 i ∧ Hid (P2O wr w1.heap.size ov ((l.take i).filterMap (ownS T p))) ∧ Ext w1 wr) (fun _ iv _ => l.length - (intOf iv).toNat)
  case atStart => exact ⟨0, Nat.zero_le _, rfl, P2O.nil _ _, Ext.refl _⟩
  case round =>
    obtain ⟨i, hi, rfl, HO, Z⟩ := hrel
    by_cases hlt : i < l.length
    · obtain ⟨s, d1, d2, d3⟩ := get_lt hlt
      obtain ⟨b, off, rfl, f0, f1⟩ := (HU.out.ext Z).at (i := i) (p := nI s) (by show _ = _; rw [List.getElem?_map, d1.out]; rfl)
      obtain ⟨x, hx, hsx, hsk⟩ := HPM.out s (List.mem_of_getElem? d1.out)
      obtain ⟨b2, off2, no, nc, oo, oc, rfl, c0, c1, c2, c3, c4, c5, _, _, _⟩ := (HN.out.ext (X1.trans Z)).at (show Hid (T[s.1]? = some x) from hx)
      have hii : (i : Int) < (l.length : Int) := by omega
      have HOT := Lib.hid (own_take (T := T) (p := p) d1.out)
      have hsl := Valid.lt hx
      have hsi : ((s.1 : Nat) : Int) < (T.length : Int) := by omega
      obtain ⟨s1, s2⟩ := s
      unfold nI at f0 f1
      dsimp only at f0 f1 c0 c1 c2 c3 c4 c5 hsi
      have hlo : ((l.take i).filterMap (ownS T p)).length ≤ 120 := by
        have h1 := List.length_filterMap_le (ownS T p) (l.take i)
        rw [List.length_take] at h1
        have := HPL.out
        omega
      by_cases hm : x.kind = 2 ∧ x.player = p
      · rw [ownS_yes hx hm] at HOT
        dsimp only at HOT
        obtain ⟨h2, h3⟩ := hm
        rw [h2] at c0
        rw [h3] at c1
        have HO3 := Lib.hid HO.out
        unfold P2O at HO3
        obtain ⟨os, hos⟩ : ∃ os, (l.take i).filterMap (ownS T p) = os := ⟨_, rfl⟩
        rw [hos] at HO3 HOT hlo
        obtain ⟨N, hN⟩ : ∃ N, os.length = N := ⟨_, rfl⟩
        rw [hN] at HO3 hlo
        have HN2 := Lib.hid hN
        obtain ⟨qq, hqq⟩ : ∃ qq, x.info = qq := ⟨_, rfl⟩
        rw [hqq] at c2 HOT
        obtain ⟨nl, hnl⟩ : ∃ nl, x.next.length = nl := ⟨_, rfl⟩
        rw [hnl] at c3
        obtain ⟨ol, hol⟩ : ∃ ol, x.odds.length = ol := ⟨_, rfl⟩
        rw [hol] at c4
        obtain ⟨py, hpy⟩ : ∃ py, x.pay = py := ⟨_, rfl⟩
        rw [hpy] at c5
        have hbk : w1.heap.size ≤ wr.heap.size := Z.size
        have hb1 : (p == p) = true := by simp
        have c0 := (Ext.alloc (Ext.refl wr) (.cells #[.int .i64 (s1 : Int), .int .i64 (s2 : Int)] 72)).cell c0
        have c1 := (Ext.alloc (Ext.refl wr) (.cells #[.int .i64 (s1 : Int), .int .i64 (s2 : Int)] 72)).cell c1
        have c2 := (Ext.alloc (Ext.refl wr) (.cells #[.int .i64 (s1 : Int), .int .i64 (s2 : Int)] 72)).cell c2
        have c3 := (Ext.alloc (Ext.refl wr) (.cells #[.int .i64 (s1 : Int), .int .i64 (s2 : Int)] 72)).cell c3
        have c4 := (Ext.alloc (Ext.refl wr) (.cells #[.int .i64 (s1 : Int), .int .i64 (s2 : Int)] 72)).cell c4
        have c5 := (Ext.alloc (Ext.refl wr) (.cells #[.int .i64 (s1 : Int), .int .i64 (s2 : Int)] 72)).cell c5
        clear d1 d2 d3 hx hsx hsk hlt hos hN hqq hnl hol hpy HO h2 h3 hsl
        go_wp2_with (first | (at_builtin; go_must (refine wp_app2 rfl rfl ei_p2 (own_ext HO3.out (by repeat' (first | with_reducible exact Ext.refl _ | with_reducible apply Ext.alloc))) rfl rfl (by simp) rfl rfl (by omega) (by omega) (by simp; omega) ?_); intro v' w' hown hgrew))
        go_roundw
        case rel =>
          refine ⟨i + 1, by omega, by go_num, ?_, hgrew.extNew (Z.trans (by repeat' (first | with_reducible exact Ext.refl _ | with_reducible apply Ext.alloc))) (own_ext HO3.out (by repeat' (first | with_reducible exact Ext.refl _ | with_reducible apply Ext.alloc))) (Nat.le_refl _)⟩
          show P2O _ _ _ _
          unfold P2O
          rw [HOT.out, flat2_app, List.length_append, HN2.out]
          exact hown
        case measure => simp [intOf]; omega
      · rw [ownS_no hx hm] at HOT
        dsimp only at HOT
        rw [List.append_nil] at HOT
        obtain ⟨os, hos⟩ : ∃ os, (l.take i).filterMap (ownS T p) = os := ⟨_, rfl⟩
        rw [hos] at HO HOT
        obtain ⟨kd, hkd⟩ : ∃ kd, x.kind = kd := ⟨_, rfl⟩
        rw [hkd] at c0 hm
        obtain ⟨pp, hpp⟩ : ∃ pp, x.player = pp := ⟨_, rfl⟩
        rw [hpp] at c1 hm
        obtain ⟨qq, hqq⟩ : ∃ qq, x.info = qq := ⟨_, rfl⟩
        rw [hqq] at c2
        obtain ⟨nl, hnl⟩ : ∃ nl, x.next.length = nl := ⟨_, rfl⟩
        rw [hnl] at c3
        obtain ⟨ol, hol⟩ : ∃ ol, x.odds.length = ol := ⟨_, rfl⟩
        rw [hol] at c4
        obtain ⟨py, hpy⟩ : ∃ py, x.pay = py := ⟨_, rfl⟩
        rw [hpy] at c5
        have c0 := (Ext.alloc (Ext.refl wr) (.cells #[.int .i64 (s1 : Int), .int .i64 (s2 : Int)] 72)).cell c0
        have c1 := (Ext.alloc (Ext.refl wr) (.cells #[.int .i64 (s1 : Int), .int .i64 (s2 : Int)] 72)).cell c1
        have c2 := (Ext.alloc (Ext.refl wr) (.cells #[.int .i64 (s1 : Int), .int .i64 (s2 : Int)] 72)).cell c2
        have c3 := (Ext.alloc (Ext.refl wr) (.cells #[.int .i64 (s1 : Int), .int .i64 (s2 : Int)] 72)).cell c3
        have c4 := (Ext.alloc (Ext.refl wr) (.cells #[.int .i64 (s1 : Int), .int .i64 (s2 : Int)] 72)).cell c4
        have c5 := (Ext.alloc (Ext.refl wr) (.cells #[.int .i64 (s1 : Int), .int .i64 (s2 : Int)] 72)).cell c5
        by_cases h2 : kd = 2
        · subst h2
          have h3 : (pp == p) = false := by rw [beq_eq_false_iff_ne]; exact fun e => hm ⟨rfl, e⟩
          clear d1 d2 d3 hx hsx hsk hlt hos hqq hnl hol hpy hkd hpp hsl hm
          go_wp2_with fail
          go_roundw
          case rel => exact ⟨i + 1, by omega, by go_num, by show P2O _ _ _ _; rw [HOT.out]; exact HO.out.ext (by repeat' (first | with_reducible exact Ext.refl _ | with_reducible apply Ext.alloc)), Z.trans (by repeat' (first | with_reducible exact Ext.refl _ | with_reducible apply Ext.alloc))⟩
          case measure => simp [intOf]; omega
        · clear d1 d2 d3 hx hsx hsk hlt hos hqq hnl hol hpy hkd hpp hsl hm
          go_wp2_with fail
          go_roundw
          case rel => exact ⟨i + 1, by omega, by go_num, by show P2O _ _ _ _; rw [HOT.out]; exact HO.out.ext (by repeat' (first | with_reducible exact Ext.refl _ | with_reducible apply Ext.alloc)), Z.trans (by repeat' (first | with_reducible exact Ext.refl _ | with_reducible apply Ext.alloc))⟩
          case measure => simp [intOf]; omega
    · have hil : l.length = i := by omega
      have HO2 := HO.out
      rw [List.take_of_length_le (by omega)] at HO2
      have h1 := List.length_filterMap_le (ownS T p) l
      have h2 := HPL.out
      have HO3 : Hid (P2O wr wo.heap.size u7 (l.filterMap (ownS T p))) := own_mono (show World.ownsRow _ _ _ _ _ _ _ from HO2) X1.size
      have hge : ¬ (i : Int) < (l.length : Int) := by omega
      clear hlt HO2 h1 h2
      go_wp2_with fail
      go_ret
      exact ⟨_, rfl, HO3.out, X1.trans Z⟩

/-! ### two slices that grow: sequences and lists of choices -/
structure SW (B : Nat) (w : World) (sv wv : Value) (n : Nat) (xs : List Value) (pss : List (List (Int × Int))) (us : List Value) : Prop where
  seq : w.ownsRow B 62 3 sv n xs
  way : w.ownsRow B 64 1 wv pss.length us
  len : us.length = pss.length
  row : ∀ (i : Nat) (u : Value) (ps : List (Int × Int)), us[i]? = some u → pss[i]? = some ps → P2In w u ps ∧ (ps = [] ∨ (u.ownBlock ≠ wv.ownBlock ∧ u.ownBlock ≠ sv.ownBlock))
  dis : ∀ k, sv.ownBlock = some k → wv.ownBlock ≠ some k
section
variable {B : Nat} {w w' : World} {sv wv : Value} {n : Nat} {xs : List Value} {pss : List (List (Int × Int))} {us : List Value}
theorem SW.ext (h : SW B w sv wv n xs pss us) (hx : Ext w w') : SW B w' sv wv n xs pss us :=
  ⟨own_ext h.seq hx, own_ext h.way hx, h.len, fun i u ps a b => ⟨(h.row i u ps a b).1.ext hx, (h.row i u ps a b).2⟩, h.dis⟩
theorem SW.toG (h : SW B w sv wv n xs pss us) : PsG w B wv pss :=
  ⟨us, by rw [h.len]; exact h.way, h.len, fun i u ps a b => ⟨(h.row i u ps a b).1, (h.row i u ps a b).2.imp id (·.1)⟩⟩
theorem P2In.grewAway {u : Value} {ps : List (Int × Int)} {v v' : Value} (hp : P2In w u ps) (hg : Grew w v w' v') (hne : ps = [] ∨ u.ownBlock ≠ v.ownBlock) : ps = [] ∨ u.ownBlock ≠ v'.ownBlock := by
  rcases hne with h | h
  · exact .inl h
  · rcases hg.blk with e | e
    · exact .inr (by rw [e]; exact h)
    · rcases hp.blk with h2 | ⟨k, h2, h3⟩
      · exact .inl h2
      · exact .inr fun e2 => by have := e k (by rw [← e2]; exact h2); omega
/-- a sequence more -/
theorem SW.stepS (h : SW B w sv wv n xs pss us) {sv' : Value} {news : List Value} {n' : Nat} (ho : w'.ownsRow B 62 3 sv' n' (xs ++ news)) (hg : Grew w sv w' sv') : SW B w' sv' wv n' (xs ++ news) pss us := by
  refine ⟨ho, own_kept h.way hg.by' (apart_of h.dis), h.len, fun i u ps a b => ?_, fun k hk => ?_⟩
  · obtain ⟨p1, p2⟩ := h.row i u ps a b
    refine ⟨p1.kept hg.by' (p2.imp id (·.2)), ?_⟩
    rcases p2 with p2 | p2
    · exact .inl p2
    · rcases p1.grewAway hg (.inr p2.2) with e | e
      · exact .inl e
      · exact .inr ⟨p2.1, e⟩
  · rcases hg.blk with e | e
    · exact h.dis k (by rw [← e]; exact hk)
    · intro e2
      have := (h.way.lt k e2).2
      have := e k hk
      omega
/-- a list of choices more -/
theorem SW.stepW (h : SW B w sv wv n xs pss us) {wv' u : Value} {ps : List (Int × Int)} (ho : w'.ownsRow B 64 1 wv' (pss.length + 1) (us ++ [u])) (hg : Grew w wv w' wv') (hu : P2In w u ps) (hn : ps = [] ∨ (u.ownBlock ≠ wv.ownBlock ∧ u.ownBlock ≠ sv.ownBlock)) : SW B w' sv wv' n xs (pss ++ [ps]) (us ++ [u]) := by
  have key : ∀ (x : Value) (qs : List (Int × Int)), P2In w x qs → (qs = [] ∨ (x.ownBlock ≠ wv.ownBlock ∧ x.ownBlock ≠ sv.ownBlock)) → P2In w' x qs ∧ (qs = [] ∨ (x.ownBlock ≠ wv'.ownBlock ∧ x.ownBlock ≠ sv.ownBlock)) := fun x qs p1 p2 => by
    refine ⟨p1.kept hg.by' (p2.imp id (·.1)), ?_⟩
    rcases p2 with p2 | p2
    · exact .inl p2
    · rcases p1.grewAway hg (.inr p2.1) with e | e
      · exact .inl e
      · exact .inr ⟨e, p2.2⟩
  refine ⟨own_kept h.seq hg.by' (apart_of fun k a b => h.dis k b a), by rw [List.length_append, List.length_singleton]; exact ho, by simp [h.len], fun i x qs a b => ?_, fun k hk => ?_⟩
  · by_cases hi : i < us.length
    · rw [List.getElem?_append_left hi] at a
      rw [List.getElem?_append_left (by rw [← h.len]; exact hi)] at b
      exact key x qs (h.row i x qs a b).1 (h.row i x qs a b).2
    · rw [List.getElem?_append_right (by omega)] at a
      rw [List.getElem?_append_right (by rw [← h.len]; omega), ← h.len] at b
      have : i - us.length = 0 := by
        have := (List.getElem?_eq_some_iff.1 a).1
        simp at this; exact this
      rw [this] at a b
      simp at a b
      subst a; subst b
      exact key u ps hu hn
  · rcases hg.blk with e | e
    · rw [e]; exact h.dis k hk
    · intro e2
      have := (h.seq.lt k hk).2
      have := e k e2
      omega
end
/-- is an information set among the first sequences? -/
def seenQ (l : List (Int × Int × Int)) (q : Int) (j : Nat) : Bool := (l.take j).any fun s => s.1 == q
theorem seenQ_succ {l : List (Int × Int × Int)} {q : Int} {j : Nat} {s : Int × Int × Int} (h : l[j]? = some s) : seenQ l q (j + 1) = (seenQ l q j || (s.1 == q)) := by
  obtain ⟨h1, h2⟩ := List.getElem?_eq_some_iff.1 h
  unfold seenQ
  rw [List.take_succ_eq_append_getElem h1, h2, List.any_append]; simp
/-- the last place below k that is K, or 0 -/
def befN (K k : Nat) : Nat := if K < k then K else 0
theorem befN_pos {K k : Nat} (h : K < k) : befN K k = K := if_pos h
theorem befN_neg {K k : Nat} (h : ¬ K < k) : befN K k = 0 := if_neg h
theorem idx_iff {pss : List (List (Int × Int))} (hn : pss.Nodup) {ps qs : List (Int × Int)} (hm : ps ∈ pss) {j : Nat} (h : pss[j]? = some qs) : qs = ps ↔ j = idxL pss ps := by
  constructor
  · intro e
    rw [e] at h
    exact (idxL_at hn h).symm
  · intro e
    have := idxL_get hm
    rw [← e, h] at this
    exact Option.some.inj this
theorem step_app0p {P : Program} {ops : Array Oper} {o : Oper} {a : Act} {w : World} {K : Act → World → Prop} {Q : Exit → Act → World → Prop} {E : Prop} (hg : o.guard = none) {s x : Operand} {t e : TypeId} {z : Value} {bytes sz : Nat}
    (ho : o.op = .call { callee := .builtin .append, args := #[s, x], argTypes := #[t, t] }) (ei : EI P t e z sz bytes) {k : Nat} (hs : a.eval s = .slice (some ⟨k, 0, none⟩) 0 0) {u : Value} (hx : a.eval x = u) (B : Nat)
    (hk : w.heap[k]? = some (.cells #[] e (0, 0))) (hB : B ≤ k) {m : Nat} {news : List Value} (hsrc : Src w u m sz news) (hlen : m ≤ 17592186044416) (hby : m * bytes ≤ 140737488355328)
    (h : ∀ v' w', w'.ownsRow B e sz v' m news → Grew w (.slice (some ⟨k, 0, none⟩) 0 0) w' v' → K (a.put o.dst v') w') : if Region.wanted o (yielded ops a.tmps) = true then Oper.wp P o a w K Q else E := by
  have hlt := (Array.getElem?_eq_some_iff.1 hk).1
  have hown : w.ownsRow B e sz (.slice (some ⟨k, 0, none⟩) 0 0) 0 [] := ⟨by simp, .inr ⟨k, 0, #[], rfl, hB, hk, Nat.le_refl _, by unfold maxLen; omega, by simp, by simp⟩⟩
  refine step_app (n := 0) (xs := []) hg ho ei hs hown hx hsrc (by rwa [Nat.zero_add]) (by rwa [Nat.zero_add]) (by omega) fun v' w' h2 h3 => h v' w' (by rwa [Nat.zero_add, List.nil_append] at h2) h3

theorem own_apart {w1 w2 : World} {B1 B2 : Nat} {e1 e2 : TypeId} {s1 s2 : Nat} {v1 v2 : Value} {n1 n2 : Nat} {xs1 xs2 : List Value} (h1 : w1.ownsRow B1 e1 s1 v1 n1 xs1) (hn : 0 < n1) (h2 : w2.ownsRow B2 e2 s2 v2 n2 xs2) (hB : w2.heap.size ≤ B1) : v1.ownBlock ≠ v2.ownBlock := by
  obtain ⟨g, cap, rfl, hb, _⟩ := own_open h1 hn
  intro e
  have := (h2.lt g e.symm).2
  omega
theorem ne_step {w w' : World} {u v v' : Value} {a : Option Nat} {ps : List (Int × Int)} (hp : P2In w u ps) (hg : Grew w v w' v') (hne : ps = [] ∨ (u.ownBlock ≠ a ∧ u.ownBlock ≠ v.ownBlock)) : ps = [] ∨ (u.ownBlock ≠ a ∧ u.ownBlock ≠ v'.ownBlock) := by
  rcases hne with h | h
  · exact .inl h
  · rcases hp.grewAway hg (.inr h.2) with e | e
    · exact .inl e
    · exact .inr ⟨h.1, e⟩
theorem bxA {w w' : World} {x y v' : Value} {e : TypeId} {o : Obj} (h : Grew ((w.alloc (.cells #[x, y] e)).alloc o) (.slice (some ⟨w.heap.size + 1, 0, none⟩) 0 0) w' v') : w'.cell? ⟨w.heap.size, 0, none⟩ = some x ∧ w'.cell? ⟨w.heap.size, 1, none⟩ = some y := by
  obtain ⟨h1, h2⟩ := bx2 ((Ext.refl (w.alloc (.cells #[x, y] e))).alloc o)
  exact ⟨h.by'.cell h1 (by simp [Value.ownBlock]), h.by'.cell h2 (by simp [Value.ownBlock])⟩
theorem bxB {w w' : World} {x y v' : Value} {e : TypeId} {o : Obj} (h : Grew ((w.alloc o).alloc (.cells #[x, y] e)) (.slice (some ⟨w.heap.size, 0, none⟩) 0 0) w' v') : w'.cell? ⟨w.heap.size + 1, 0, none⟩ = some x ∧ w'.cell? ⟨w.heap.size + 1, 1, none⟩ = some y := by
  obtain ⟨h1, h2⟩ := bx2 (Ext.refl ((w.alloc o).alloc (.cells #[x, y] e)))
  rw [World.size_alloc] at h1 h2
  exact ⟨h.by'.cell h1 (by simp [Value.ownBlock]), h.by'.cell h2 (by simp [Value.ownBlock])⟩
theorem bxAd {w w' : World} {x y v' : Value} {e : TypeId} {o : Obj} (h : Grew ((w.alloc (.cells #[x, y] e)).alloc o).drew (.slice (some ⟨w.heap.size + 1, 0, none⟩) 0 0) w' v') : w'.cell? ⟨w.heap.size, 0, none⟩ = some x ∧ w'.cell? ⟨w.heap.size, 1, none⟩ = some y := by
  obtain ⟨h1, h2⟩ := bx2 (((Ext.refl (w.alloc (.cells #[x, y] e))).alloc o).drew)
  exact ⟨h.by'.cell h1 (by simp [Value.ownBlock]), h.by'.cell h2 (by simp [Value.ownBlock])⟩
theorem bxBd {w w' : World} {x y v' : Value} {e : TypeId} {o : Obj} (h : Grew ((w.alloc o).alloc (.cells #[x, y] e)).drew (.slice (some ⟨w.heap.size, 0, none⟩) 0 0) w' v') : w'.cell? ⟨w.heap.size + 1, 0, none⟩ = some x ∧ w'.cell? ⟨w.heap.size + 1, 1, none⟩ = some y := by
  obtain ⟨h1, h2⟩ := bx2 ((Ext.refl ((w.alloc o).alloc (.cells #[x, y] e))).drew)
  rw [World.size_alloc] at h1 h2
  exact ⟨h.by'.cell h1 (by simp [Value.ownBlock]), h.by'.cell h2 (by simp [Value.ownBlock])⟩
/-- what the reference's Sequences leaves -/
def RSqPost (T : List Nd) (p : Int) (u : Value) (w w' : World) : Prop := ∃ sv g n cap, u = .tuple #[sv, .slice (some ⟨g, 0, none⟩) n cap] ∧ SqIn w' sv (seqsL T p T.length) ∧ PsG w' w.heap.size (.slice (some ⟨g, 0, none⟩) n cap) (waysL T p T.length) ∧ Ext w w'
theorem WaysRow {T : List Nd} (hT : Valid T) (p : Int) : ∀ i, i ≤ T.length → ∀ ps ∈ waysL T p i, ps.length ≤ 121
  | 0, _, ps, h => by rw [waysL, List.mem_singleton] at h; subst h; exact Nat.zero_le _
  | i + 1, hi, ps, h => by
    obtain ⟨x, hx⟩ : ∃ x, T[i]? = some x := ⟨T[i], List.getElem?_eq_getElem (by omega)⟩
    rw [waysL_succ hx] at h
    by_cases hf : freshB T p i x = true
    · rw [if_pos hf] at h
      rcases List.mem_append.1 h with h | h
      · exact WaysRow hT p i (by omega) ps h
      · obtain ⟨c, _, rfl⟩ := List.mem_map.1 h
        have := own_len hT p (k := i) (by omega)
        rw [List.length_append, List.length_singleton]; omega
    · rw [if_neg hf] at h
      exact WaysRow hT p i (by omega) ps h

set_option maxHeartbeats 12800000 in
set_option maxRecDepth 100000 in
theorem rSequences_any (v : Value) (T : List Nd) (p : Int) (w : World) (hv : TreeIn w v T) (hT : Valid T) (hr : remB T p = true) :
    Calls Tryz.prog 31 #[v, .int .i64 p] w fun e w' => ∃ u, e = .returned u ∧ RSqPost T p u w w' := by
  obtain ⟨wo, rfl⟩ : ∃ wo : World, wo = w := ⟨_, rfl⟩
  have hl := hT.len
  have HOWN := Lib.hid (fun (k : Nat) (hk : k < T.length) W (hX : Ext wo W) => rOwnF_any v T p k W (hv.ext hX) hT hk)
  have HN6 := Lib.hid (fun (i : Nat) (x : Nd) (hx : T[i]? = some x) => hT.next6 hx)
  have HW1 := Lib.hid (fun (i : Nat) (x : Nd) (hx : T[i]? = some x) (hk : x.kind = 2) => hT.wide1 hx hk)
  have HIN := Lib.hid (fun (i : Nat) (hi : i < T.length) => own_in hT hr hi)
  have HOL := Lib.hid (fun (i : Nat) (hi : i < T.length) => own_len hT p hi)
  have HKN := Lib.hid (fun (q : Int) (hq : 0 ≤ q) (i : Nat) => seqs_known hT p q hq i)
  have HWL := Lib.hid (fun (j : Nat) (hj : j ≤ T.length) => (by have := ways_size hT p j hj; omega : (waysL T p j).length ≤ 721))
  obtain ⟨ao, c, rfl, hlen, hn⟩ := hv.open
  have HN := Lib.hid hn
  clear hn hv hT hr
  go_enter Tryz.func31, Tryz.ntmps31
  go_wp2_with fail
  obtain ⟨S0, hS0⟩ : ∃ S0, wo.heap.size = S0 := ⟨_, rfl⟩
  have HSW0 : Hid (SW wo.heap.size ((wo.alloc (.cells #[.int .i64 (-1), .int .i64 (-1), .int .i64 (-1)] 62)).alloc (.cells #[.slice none 0 0] 64)) (.slice (some ⟨S0, 0, none⟩) 1 1) (.slice (some ⟨S0 + 1, 0, none⟩) 1 1) 1 (flat3 (seqsL T p 0)) (waysL T p 0) [.slice none 0 0]) := by
    have h1 : (wo.alloc (.cells #[.int .i64 (-1), .int .i64 (-1), .int .i64 (-1)] 62)).ownsRow wo.heap.size 62 3 (.slice (some ⟨wo.heap.size, 0, none⟩) 1 1) 1 [.int .i64 (-1), .int .i64 (-1), .int .i64 (-1)] :=
      World.ownsRow_lit wo #[.int .i64 (-1), .int .i64 (-1), .int .i64 (-1)] 1 (Nat.le_refl _) (by unfold maxLen; omega) rfl
    have h2 := own_lit1 (wo.alloc (.cells #[.int .i64 (-1), .int .i64 (-1), .int .i64 (-1)] 62)) (.slice none 0 0) 64
    rw [World.size_alloc, hS0] at h2
    rw [hS0] at h1
    rw [hS0]
    refine ⟨own_ext h1 ((Ext.refl _).alloc _), own_mono h2 (by omega), rfl, fun i u ps a b => ?_, fun k hk e => ?_⟩
    · match i, a, b with
      | 0, a, b =>
        cases a
        cases b
        exact ⟨P2In.nil _, .inl rfl⟩
    · simp only [Value.ownBlock, Option.some.injEq] at hk e
      omega
  rw [hS0]
  obtain ⟨W0, hW0⟩ : ∃ W0, (wo.alloc (.cells #[.int .i64 (-1), .int .i64 (-1), .int .i64 (-1)] 62)).alloc (.cells #[.slice none 0 0] 64) = W0 := ⟨_, rfl⟩
  rw [hW0] at HSW0 ⊢
  have HX0 : Hid (Ext wo W0) := by show Ext _ _; rw [← hW0]; exact ((Ext.refl wo).alloc _).alloc _
  clear hS0 hW0
  go_loopw [6, 7, 23] (fun sv wv iv wr => ∃ (i : Nat) (us : List Value), i ≤ T.length ∧ iv = .int .i64 i ∧ Hid (SW wo.heap.size wr sv wv (seqsL T p i).length (flat3 (seqsL T p i)) (waysL T p i) us) ∧ Ext wo wr) (fun _ _ iv _ => T.length - (intOf iv).toNat)
  case atStart => exact ⟨0, _, Nat.zero_le _, rfl, HSW0.out, HX0.out⟩
  case round =>
    clear HSW0 HX0
    obtain ⟨i, us, hi, rfl, HS, X⟩ := hrel
    by_cases hlt : i < T.length
    · obtain ⟨x, d1, _, _⟩ := get_lt hlt
      obtain ⟨b, off, no, nc, oo, oc, rfl, c0, c1, c2, c3, c4, c5, _, _, _⟩ := HN.out.at d1
      have c0 := X.cell c0
      have c1 := X.cell c1
      have c2 := X.cell c2
      have c3 := X.cell c3
      have c4 := X.cell c4
      have c5 := X.cell c5
      have hii : (i : Int) < (T.length : Int) := by omega
      have HXI := Lib.hid d1.out
      have hn6 := HN6.out i x d1.out
      have HWX := Lib.hid (HW1.out i x d1.out)
      have hwl := HWL.out i hi
      obtain ⟨kx, hkx⟩ : ∃ kx, x.kind = kx := ⟨_, rfl⟩
      obtain ⟨px, hpx⟩ : ∃ px, x.player = px := ⟨_, rfl⟩
      obtain ⟨qx, hqx⟩ : ∃ qx, x.info = qx := ⟨_, rfl⟩
      obtain ⟨nx, hnx⟩ : ∃ nx, x.next.length = nx := ⟨_, rfl⟩
      obtain ⟨ox, hox⟩ : ∃ ox, x.odds.length = ox := ⟨_, rfl⟩
      obtain ⟨yx, hyx⟩ : ∃ yx, x.pay = yx := ⟨_, rfl⟩
      have HKX := Lib.hid hkx
      have HPX := Lib.hid hpx
      have HQX := Lib.hid hqx
      have HNX := Lib.hid hnx
      have HSS := Lib.hid (seqsL_succ (p := p) HXI.out)
      have HWS := Lib.hid (waysL_succ (p := p) HXI.out)
      have HLS := Lib.hid (seqsL_len T p i)
      rw [hkx] at c0 HWX
      rw [hpx] at c1 HWX
      rw [hqx] at c2 HWX HSS HWS
      rw [hnx] at c3 hn6 HWX HSS HWS
      rw [hox] at c4
      rw [hyx] at c5
      obtain ⟨SQ, hSQ⟩ : ∃ SQ, seqsL T p i = SQ := ⟨_, rfl⟩
      obtain ⟨WY, hWY⟩ : ∃ WY, waysL T p i = WY := ⟨_, rfl⟩
      have HND : Hid (WY.Nodup) := by show List.Nodup _; rw [← hWY]; exact ways_nodup T p i
      have HPO : Hid (0 < WY.length) := by show _ < _; rw [← hWY]; exact (List.getElem?_eq_some_iff.1 (waysL_pos T p i)).1
      have HMI := Lib.hid (HIN.out i hlt)
      have HKQ := Lib.hid (fun (hq : 0 ≤ qx) => HKN.out qx hq i)
      rw [hSQ] at HS HSS HLS HKQ
      rw [hWY] at HS HSS HWS HLS hwl HMI
      obtain ⟨T7, hT7⟩ : ∃ T7, wr.heap.size = T7 := ⟨_, rfl⟩
      obtain ⟨W1, hW1⟩ : ∃ W1, wr.alloc (.cells #[.int .i64 kx, .int .i64 px, .int .i64 qx, .slice no nx nc, .slice oo ox oc, .string yx] 38) = W1 := ⟨_, rfl⟩
      have X1 : Ext wr W1 := by rw [← hW1]; exact (Ext.refl wr).alloc _
      have y0 : W1.cell? ⟨T7, 0, none⟩ = some (.int .i64 kx) := by rw [← hW1, ← hT7]; simp [go_sem]
      have y1 : W1.cell? ⟨T7, 1, none⟩ = some (.int .i64 px) := by rw [← hW1, ← hT7]; simp [go_sem]
      have y2 : W1.cell? ⟨T7, 2, none⟩ = some (.int .i64 qx) := by rw [← hW1, ← hT7]; simp [go_sem]
      have y3 : W1.cell? ⟨T7, 3, none⟩ = some (.slice no nx nc) := by rw [← hW1, ← hT7]; simp [go_sem]
      have HB1 : Hid (NB4 W1 T7 kx px qx (.slice no nx nc)) := ⟨y0, y1, y2, y3⟩
      have HX1 := Lib.hid (X.trans X1)
      have HS1 := Lib.hid (HS.out.ext X1)
      have HAW : Hid (u6.ownBlock ≠ some T7 ∧ u7.ownBlock ≠ some T7) := by
        refine ⟨fun e => ?_, fun e => ?_⟩
        · have := (HS.out.seq.lt T7 e).2; omega
        · have := (HS.out.way.lt T7 e).2; omega
      clear hkx hpx hqx hnx hox hyx d1 hSQ hWY X1 X HS
      obtain ⟨wq, rfl⟩ : ∃ wq : World, wq = wr := ⟨_, rfl⟩
      by_cases hkp : kx = 2 ∧ px = p
      · obtain ⟨rfl, rfl⟩ := hkp
        obtain ⟨hw1, hw2, hq1, hq2, _⟩ := HWX.out rfl
        have HKQ := Lib.hid (HKQ.out hq1)
        have hb1 : (px != px) = false := by simp
        obtain ⟨so, sc, rfl⟩ := own_isS HS1.out.seq
        obtain ⟨g, cap, rfl, hgB, hgl⟩ := own_open HS1.out.way HPO.out
        obtain ⟨n, hn⟩ : ∃ n, SQ.length = n := ⟨_, rfl⟩
        rw [hn] at HS1 HLS HAW ⊢
        have hnw : n ≤ 721 := by rw [HLS.out]; exact hwl
        have HSN := Lib.hid hn
        have HSQI : Hid (SqOf W1 so SQ) := by
          obtain ⟨a2, c2, e2, h2⟩ := SqO.toIn (B := wo.heap.size) (l := SQ) (by show World.ownsRow _ _ _ _ _ _ _; rw [hn]; exact HS1.out.seq)
          simp only [Value.slice.injEq] at e2
          rw [e2.1]; exact h2
        clear hw1 hw2 hq1 hq2 HWX hn
        go_wp2_with fail
        clear c0 c1 c2 c3 c4 c5 y0 y1 y2 y3 hW1 hT7
        go_loopw [10, 39] (fun kv jv wr => ∃ (j : Nat), j ≤ n ∧ jv = .int .i64 j ∧ kv = .bool (seenQ SQ qx j) ∧ Ext W1 wr) (fun _ jv _ => n - (intOf jv).toNat)
        case atStart => exact ⟨0, Nat.zero_le _, rfl, rfl, Ext.refl _⟩
        case round =>
          obtain ⟨j, hj, rfl, rfl, X⟩ := hrel
          by_cases hlj : j < n
          · obtain ⟨s, e1, _, _⟩ := get_lt (xs := SQ) (k := j) (by rw [HSN.out]; exact hlj)
            obtain ⟨sb, soff, rfl, g0, g1, g2⟩ := (HSQI.out.ext X).at e1
            have HSE := Lib.hid (seenQ_succ (q := qx) e1.out)
            obtain ⟨s1, s2, s3⟩ := s
            dsimp only at g0 g1 g2 HSE
            have y2 := X.cell HB1.out.c2
            have hjj : (j : Int) < (n : Int) := by omega
            obtain ⟨T8, hT8⟩ : ∃ T8, wr.heap.size = T8 := ⟨_, rfl⟩
            obtain ⟨W2, hW2⟩ : ∃ W2, wr.alloc (.cells #[.int .i64 s1, .int .i64 s2, .int .i64 s3] 62) = W2 := ⟨_, rfl⟩
            have X2 : Ext wr W2 := by rw [← hW2]; exact (Ext.refl wr).alloc _
            have z0 : W2.cell? ⟨T8, 0, none⟩ = some (.int .i64 s1) := by rw [← hW2, ← hT8]; simp [go_sem]
            have y2 := X2.cell y2
            have HX2 := Lib.hid (X.trans X2)
            cases hse : seenQ SQ qx j with
            | true =>
              have hs1 : Hid (seenQ SQ qx (j + 1) = true) := by show _ = _; rw [HSE.out, hse]; rfl
              clear HSE hse e1 hlj X X2
              go_wp2_with fail
              go_roundw
              case rel => exact ⟨j + 1, by omega, by go_num, by rw [hs1.out], HX2.out⟩
              case measure => simp [intOf]; omega
            | false =>
              have hs1 : Hid (seenQ SQ qx (j + 1) = (s1 == qx)) := by show _ = _; rw [HSE.out, hse]; rfl
              clear HSE hse e1 hlj X X2
              go_wp2_with fail
              go_roundw
              case rel => exact ⟨j + 1, by omega, by go_num, by rw [hs1.out], HX2.out⟩
              case measure => simp [intOf]; omega
          · have hje : j = n := by omega
            subst hje
            have hge : ¬ (j : Int) < (j : Int) := by omega
            obtain ⟨wk, rfl⟩ : ∃ wk : World, wk = wr := ⟨_, rfl⟩
            have HSEK : Hid (seenQ SQ qx j = knownB T px i qx) := by
              show _ = _
              rw [← HKQ.out]
              unfold seenQ
              rw [List.take_of_length_le (by rw [HSN.out]; exact Nat.le_refl _)]
            rw [HSEK.out]
            cases hkb : knownB T px i qx with
            | true =>
              have hnf : ¬ freshB T px i x = true := fun h => by
                have := (freshB_iff.1 h).2.2
                rw [HQX.out, hkb] at this; cases this
              have HSE : Hid (seqsL T px (i + 1) = SQ ∧ waysL T px (i + 1) = WY) := by rw [HSS.out, HWS.out, if_neg hnf, if_neg hnf]; exact ⟨rfl, rfl⟩
              have HSR := Lib.hid (HS1.out.ext X)
              clear hlj hkb hnf HSS HWS HSEK
              go_wp2_with fail
              go_roundw
              case rel => exact ⟨i + 1, us, by omega, by go_num, by rw [HSE.out.1, HSE.out.2, HSN.out]; exact HSR.out, HX1.out.trans X⟩
              case measure => simp [intOf]; omega
            | false =>
              have hyf : freshB T px i x = true := freshB_iff.2 ⟨HKX.out, HPX.out, by rw [HQX.out]; exact hkb⟩
              have HSE : Hid (seqsL T px (i + 1) = SQ ++ (List.range nx).map (fun c : Nat => (qx, (c : Int), ((idxL WY (own T px i) : Nat) : Int))) ∧ waysL T px (i + 1) = WY ++ (List.range nx).map (fun c : Nat => own T px i ++ [(qx, (c : Int))])) := by rw [HSS.out, HWS.out, if_pos hyf, if_pos hyf]; exact ⟨rfl, rfl⟩
              have HSR := Lib.hid (HS1.out.ext X)
              have HBR := Lib.hid (HB1.out.ext X)
              have HXR := Lib.hid (HX1.out.trans X)
              have HOC := Lib.hid (HOWN.out i hlt wk (HX1.out.trans X))
              have HOLI := HOL.out i hlt
              obtain ⟨OI, hOI⟩ : ∃ OI, own T px i = OI := ⟨_, rfl⟩
              rw [hOI] at HSE HMI HOC HOLI
              obtain ⟨KI, hKI⟩ : ∃ KI, idxL WY OI = KI := ⟨_, rfl⟩
              rw [hKI] at HSE
              have HIX := Lib.hid (fun (j : Nat) (qs : List (Int × Int)) (hq : WY[j]? = some qs) => (by rw [idx_iff HND.out HMI.out hq, hKI] : qs = OI ↔ j = KI))
              have HKL : Hid (KI < WY.length) := by show _ < _; rw [← hKI]; exact List.idxOf_lt_length_iff.2 HMI.out
              clear hlj hkb hyf HSS HWS HSEK HS1 HB1 HX1 hOI hKI X HMI HND
              go_wp2_with fail
              refine HOC.out.mono ?_
              rintro e wm ⟨u, rfl, hu, Xm⟩
              have hub := own_mono (show World.ownsRow _ _ _ _ _ _ _ from hu) (Nat.le_refl _)
              have HU := Lib.hid (P2O.toIn hu (by omega))
              obtain ⟨uo, uc, rfl⟩ := HU.out.isSl
              have HUN : Hid (OI = [] ∨ ((Value.slice uo OI.length uc).ownBlock ≠ (Value.slice so j sc).ownBlock ∧ (Value.slice uo OI.length uc).ownBlock ≠ (Value.slice (some ⟨g, 0, none⟩) WY.length cap).ownBlock)) := by
                cases hoi : OI with
                | nil => exact .inl rfl
                | cons a t =>
                  rw [hoi] at hub
                  exact .inr ⟨own_apart hub (by simp) HSR.out.seq (Nat.le_refl _), own_apart hub (by simp) HSR.out.way (Nat.le_refl _)⟩
              have HSM := Lib.hid (HSR.out.ext Xm)
              have HBM := Lib.hid (HBR.out.ext Xm)
              have HXM := Lib.hid (HXR.out.trans Xm)
              obtain ⟨L, hL⟩ : ∃ L, OI.length = L := ⟨_, rfl⟩
              rw [hL] at HU HUN HOLI ⊢
              have HLL := Lib.hid hL
              obtain ⟨WN, hWN⟩ : ∃ WN, WY.length = WN := ⟨_, rfl⟩
              rw [hWN] at hwl HKL HUN HSM HAW ⊢
              have HWN := Lib.hid hWN
              clear hu hub Xm HSR HBR HXR hL hWN HOC
              go_wp2_with fail
              go_loopw [14, 59] (fun bv jv wr => ∃ (k : Nat), k ≤ WN ∧ jv = .int .i64 k ∧ bv = .int .i64 ((befN KI k : Nat) : Int) ∧ Ext wm wr) (fun _ jv _ => WN - (intOf jv).toNat)
              case atStart => exact ⟨0, Nat.zero_le _, rfl, by rw [befN_neg (by omega)]; rfl, Ext.refl _⟩
              case round =>
                obtain ⟨k, hk, rfl, rfl, X⟩ := hrel
                by_cases hlk : k < WN
                · obtain ⟨qs, e1, _, _⟩ := get_lt (xs := WY) (k := k) (by rw [HWN.out]; exact hlk)
                  have HGG := HSM.out.toG.ext X
                  obtain ⟨a2, c2, e0, hq, _⟩ := HGG.at e1.out
                  have HQP := Lib.hid hq
                  have HSA := Lib.hid (rSame_any _ _ qs OI wr hq (HU.out.ext X))
                  have hiff := HIX.out k qs e1.out
                  have hkk : (k : Int) < (WN : Int) := by omega
                  obtain ⟨L1, hL1⟩ : ∃ L1, qs.length = L1 := ⟨_, rfl⟩
                  rw [hL1] at e0 HSA
                  by_cases hkK : k = KI
                  · have hqe : qs = OI := hiff.2 hkK
                    rw [decide_eq_true hqe] at HSA
                    have hif : Hid (befN KI (k + 1) = k) := by show _ = _; rw [befN_pos (by omega)]; exact hkK.symm
                    clear hq hL1 hqe hiff e1 HGG hkK hlk
                    go_wp2_with fail
                    refine HSA.out.mono ?_
                    rintro e w2 ⟨rfl, X2⟩
                    go_wp2_with fail
                    go_roundw
                    case rel => exact ⟨k + 1, by omega, by go_num, by rw [hif.out], X.trans X2⟩
                    case measure => simp [intOf]; omega
                  · have hqe : ¬ qs = OI := fun e => hkK (hiff.1 e)
                    rw [decide_eq_false hqe] at HSA
                    have hif : Hid (befN KI (k + 1) = befN KI k) := by
                      show _ = _
                      by_cases h : KI < k
                      · rw [befN_pos (by omega), befN_pos h]
                      · rw [befN_neg (by omega), befN_neg h]
                    obtain ⟨BV, hBV⟩ : ∃ BV, befN KI k = BV := ⟨_, rfl⟩
                    rw [hBV] at hif ⊢
                    clear hq hL1 hqe hiff e1 HGG hkK hlk hBV
                    go_wp2_with fail
                    refine HSA.out.mono ?_
                    rintro e w2 ⟨rfl, X2⟩
                    go_wp2_with fail
                    go_roundw
                    case rel => exact ⟨k + 1, by omega, by go_num, by rw [hif.out], X.trans X2⟩
                    case measure => simp [intOf]; omega
                · have hke : k = WN := by omega
                  subst hke
                  have hge : ¬ (k : Int) < (k : Int) := by omega
                  rw [befN_pos HKL.out]
                  obtain ⟨wz, rfl⟩ : ∃ wz : World, wz = wr := ⟨_, rfl⟩
                  have HSZ := Lib.hid (HSM.out.ext X)
                  have HBZ := Lib.hid (HBM.out.ext X)
                  have HUZ := Lib.hid (HU.out.ext X)
                  have HXZ := Lib.hid (HXM.out.trans X)
                  have y3 := HBZ.out.c3
                  clear hlk X HSM HBM HXM HU
                  go_wp2_with fail
                  clear y3
                  obtain ⟨n1, rfl⟩ : ∃ n1 : Nat, n1 = j := ⟨_, rfl⟩
                  obtain ⟨k1, rfl⟩ : ∃ k1 : Nat, k1 = k := ⟨_, rfl⟩
                  go_loopw [6, 7, 72] (fun sv wv cv wr => ∃ (c : Nat) (us2 : List Value) (n2 : Nat), c ≤ nx ∧ cv = .int .i64 c ∧ Hid (SW wo.heap.size wr sv wv n2 (flat3 (SQ ++ (List.range c).map (fun c : Nat => (qx, (c : Int), (KI : Int))))) (WY ++ (List.range c).map (fun c : Nat => OI ++ [(qx, (c : Int))])) us2) ∧ Hid (n2 = n1 + c) ∧ Hid (NB4 wr T7 2 px qx (.slice no nx nc)) ∧ Hid (sv.ownBlock ≠ some T7 ∧ wv.ownBlock ≠ some T7) ∧ Hid (P2In wr (.slice uo L uc) OI) ∧ Hid (OI = [] ∨ ((Value.slice uo L uc).ownBlock ≠ sv.ownBlock ∧ (Value.slice uo L uc).ownBlock ≠ wv.ownBlock)) ∧ Ext wo wr) (fun _ _ cv _ => nx - (intOf cv).toNat)
                  case atStart => exact ⟨0, us, n1, Nat.zero_le _, rfl, by show SW _ _ _ _ _ _ _ _; rw [List.range_zero, List.map_nil, List.map_nil, List.append_nil, List.append_nil]; exact HSZ.out, rfl, HBZ.out, HAW.out, HUZ.out, HUN.out, HXZ.out⟩
                  case round =>
                    clear HSZ HBZ HAW HUZ HUN HXZ
                    obtain ⟨c, us2, n2, hc, rfl, HS, HNE, HB, HAW, HU, HUN, X⟩ := hrel
                    by_cases hlc : c < nx
                    · have hn9 := HNE.out
                      have hci : (c : Int) < (nx : Int) := by omega
                      have hn6i : (nx : Int) ≤ 6 := by omega
                      have hL1 : n2 + 1 ≤ 17592186044416 := by omega
                      have hL2 : (n2 + 1) * 24 ≤ 140737488355328 := by omega
                      have hM1 : L + 1 ≤ 17592186044416 := by omega
                      have hM2 : (L + 1) * 16 ≤ 140737488355328 := by omega
                      have hM3 : L ≤ 17592186044416 := by omega
                      have hM4 : L * 16 ≤ 140737488355328 := by omega
                      have HK1 : Hid ((WY ++ (List.range c).map (fun c : Nat => OI ++ [(qx, (c : Int))])).length + 1 ≤ 17592186044416 ∧ ((WY ++ (List.range c).map (fun c : Nat => OI ++ [(qx, (c : Int))])).length + 1) * 24 ≤ 140737488355328) := by
                        rw [List.length_append, List.length_map, List.length_range, HWN.out]
                        show _ ∧ _
                        omega
                      obtain ⟨s9, c9, rfl⟩ := own_isS HS.out.seq
                      have y2 := HB.out.c2
                      have HX := Lib.hid X
                      have hbk := X.size
                      clear hn9 hlc X
                      go_wp2_with (at_builtin; go_must (refine wp_app rfl rfl ei_sq rfl (own_ext HS.out.seq ((Ext.refl wr).alloc _)) rfl (src_cell3 (x := .int .i64 qx) (y := .int .i64 (c : Int)) (z := .int .i64 (KI : Int)) rfl rfl rfl (by simp [World.cell?_alloc_new]) (by simp [World.cell?_alloc_new]) (by simp [World.cell?_alloc_new])) hL1 hL2 (by simp; omega) ?_); intro v7 wy hown7 hg7)
                      have XA : Ext wr (wr.alloc (.cells #[.int .i64 qx, .int .i64 (c : Int), .int .i64 (KI : Int)] 62)) := (Ext.refl wr).alloc _
                      have HSY := Lib.hid ((HS.out.ext XA).stepS hown7 hg7)
                      have HBY := Lib.hid ((HB.out.ext XA).kept hg7.by' (fun e => HAW.out.1 e.symm))
                      have HUY := Lib.hid ((HU.out.ext XA).kept hg7.by' (HUN.out.imp id (·.1)))
                      have HNY := Lib.hid ((ne_step (HU.out.ext XA) hg7 (HUN.out.imp id (fun h => ⟨h.2, h.1⟩))).imp id (fun h => (⟨h.2, h.1⟩ : _ ∧ _)))
                      have HAY := Lib.hid (And.intro (hg7.away HAW.out.1 (NB4.lt (HB.out.ext XA))) HAW.out.2)
                      have HXY := Lib.hid (hg7.extNew (HX.out.trans XA) (own_ext HS.out.seq XA) (Nat.le_refl _))
                      clear XA hown7 hg7 hbk y2
                      have y2 := HBY.out.c2
                      have y2a := ((Ext.refl wy).alloc (.cells #[] 72)).cell y2
                      go_region_law (first
                        | (refine step_app0p (s := .tmp 84) (x := .tmp 85) rfl rfl ei_p2 rfl rfl wy.heap.size (by first | exact heap_new _ _ | exact heap_new2 _ _ _ | exact heap_old2 _ _ _) (by omega) (by exact (P2In.ext HUY.out (by repeat' (first | with_reducible exact Ext.refl _ | with_reducible apply Ext.alloc | with_reducible apply Ext.drew))).src) (by first | exact hM3 | (rw [HLL.out]; exact hM3)) (by first | exact hM4 | (rw [HLL.out]; exact hM4)) ?_; intro v8 w8 hown8 hg8; rw [HLL.out] at hown8; obtain ⟨po8, pc8, rfl⟩ := own_isS hown8; have X8 := Lib.hid (Grew.ext (w0 := wy) hg8 (by repeat' (first | with_reducible exact Ext.refl _ | with_reducible apply Ext.alloc | with_reducible apply Ext.drew)) (fun k e => by simp only [Value.ownBlock, Option.some.injEq] at e; omega)); (first | have HBX := Lib.hid (bxA hg8) | have HBX := Lib.hid (bxAd hg8) | have HBX := Lib.hid (bxB hg8) | have HBX := Lib.hid (bxBd hg8) | skip); have HV8 := Lib.hid hown8; have y2 := X8.out.cell y2; clear hown8 hg8)
                        | (refine step_app2 (s := .tmp 86) (x := .tmp 91) rfl rfl ei_p2 rfl rfl (y1 := .int .i64 qx) (y2 := .int .i64 (c : Int)) rfl rfl (B := wy.heap.size) (n := L) (by exact own_ext HV8.out (by repeat' (first | with_reducible exact Ext.refl _ | with_reducible apply Ext.alloc | with_reducible apply Ext.drew))) (by first | exact Ext.cell (by repeat' (first | with_reducible exact Ext.refl _ | with_reducible apply Ext.alloc | with_reducible apply Ext.drew)) HBX.out.1 | (simp [go_sem]; done)) (by first | exact Ext.cell (by repeat' (first | with_reducible exact Ext.refl _ | with_reducible apply Ext.alloc | with_reducible apply Ext.drew)) HBX.out.2 | (simp [go_sem]; done)) hM1 hM2 (by exact Ext.size (X8.out.trans (by repeat' (first | with_reducible exact Ext.refl _ | with_reducible apply Ext.alloc | with_reducible apply Ext.drew)))) ?_; intro v9 w9 hown9 hg9; obtain ⟨po9, pc9, rfl⟩ := own_isS hown9; have X9 := Lib.hid (hg9.extNew (X8.out.trans (by repeat' (first | with_reducible exact Ext.refl _ | with_reducible apply Ext.alloc | with_reducible apply Ext.drew))) (own_ext HV8.out (by repeat' (first | with_reducible exact Ext.refl _ | with_reducible apply Ext.alloc | with_reducible apply Ext.drew))) (Nat.le_refl _)); have HV9 := Lib.hid hown9; have HP9 := Lib.hid (P2O.toIn (ps := OI ++ [(qx, (c : Int))]) (B := wy.heap.size) (by show World.ownsRow _ _ _ _ _ _ _; rw [flat2_app, List.length_append, List.length_singleton, HLL.out]; exact hown9) (by rw [List.length_append, List.length_singleton, HLL.out]; exact hM1)); clear hown9 hg9)
                        | (refine step_app1 (s := .tmp 83) (x := .tmp 93) rfl rfl ei_ps rfl rfl (y := .slice po9 (L + 1) pc9) rfl (B := wo.heap.size) (by exact (SW.ext HSY.out (X9.out.trans (by repeat' (first | with_reducible exact Ext.refl _ | with_reducible apply Ext.alloc | with_reducible apply Ext.drew)))).way) (by first | exact cell_new _ _ _ | (simp [go_sem]; done)) HK1.out.1 HK1.out.2 (by exact Ext.size (HXY.out.trans (X9.out.trans (by repeat' (first | with_reducible exact Ext.refl _ | with_reducible apply Ext.alloc | with_reducible apply Ext.drew))))) ?_; intro v10 w10 hown10 hg10; have HS10 := Lib.hid ((SW.ext HSY.out (X9.out.trans (by repeat' (first | with_reducible exact Ext.refl _ | with_reducible apply Ext.alloc | with_reducible apply Ext.drew)))).stepW hown10 hg10 (P2In.ext HP9.out (by repeat' (first | with_reducible exact Ext.refl _ | with_reducible apply Ext.alloc | with_reducible apply Ext.drew))) (.inr ⟨own_apart HV9.out (by omega) HSY.out.way (Nat.le_refl _), own_apart HV9.out (by omega) HSY.out.seq (Nat.le_refl _)⟩)); have HB10 := Lib.hid ((HBY.out.ext (X9.out.trans (by repeat' (first | with_reducible exact Ext.refl _ | with_reducible apply Ext.alloc | with_reducible apply Ext.drew)))).kept hg10.by' (fun e => HAY.out.2 e.symm)); have HU10 := Lib.hid ((HUY.out.ext (X9.out.trans (by repeat' (first | with_reducible exact Ext.refl _ | with_reducible apply Ext.alloc | with_reducible apply Ext.drew)))).kept hg10.by' (HNY.out.imp id (·.2))); have HN10 := Lib.hid (ne_step (HUY.out.ext (X9.out.trans (by repeat' (first | with_reducible exact Ext.refl _ | with_reducible apply Ext.alloc | with_reducible apply Ext.drew)))) hg10 HNY.out); have HA10 := Lib.hid (And.intro HAY.out.1 (hg10.away HAY.out.2 (NB4.lt (HBY.out.ext (X9.out.trans (by repeat' (first | with_reducible exact Ext.refl _ | with_reducible apply Ext.alloc | with_reducible apply Ext.drew))))))); have HX10 := Lib.hid (hg10.extNew (HXY.out.trans (X9.out.trans (by repeat' (first | with_reducible exact Ext.refl _ | with_reducible apply Ext.alloc | with_reducible apply Ext.drew)))) (SW.ext HSY.out (X9.out.trans (by repeat' (first | with_reducible exact Ext.refl _ | with_reducible apply Ext.alloc | with_reducible apply Ext.drew)))).way (Nat.le_refl _)); clear hown10 hg10))
                      all_goals
                        have HF1 : Hid (flat3 (SQ ++ (List.range (c + 1)).map (fun c : Nat => (qx, (c : Int), (KI : Int)))) = flat3 (SQ ++ (List.range c).map (fun c : Nat => (qx, (c : Int), (KI : Int)))) ++ [.int .i64 qx, .int .i64 (c : Int), .int .i64 (KI : Int)]) := by
                          show _ = _
                          rw [List.range_succ, List.map_append, ← List.append_assoc, flat3_app]; rfl
                        have HF2 : Hid (WY ++ (List.range (c + 1)).map (fun c : Nat => OI ++ [(qx, (c : Int))]) = (WY ++ (List.range c).map (fun c : Nat => OI ++ [(qx, (c : Int))])) ++ [OI ++ [(qx, (c : Int))]]) := by
                          show _ = _
                          rw [List.range_succ, List.map_append, ← List.append_assoc]; rfl
                        have HN1 : Hid (n2 + 1 = n1 + (c + 1)) := by show _ = _; rw [HNE.out]; omega
                        clear y2 y2a
                        go_wp2_with fail
                        go_roundw
                        case rel => exact ⟨c + 1, _, n2 + 1, by omega, by go_num, by rw [HF1.out, HF2.out]; exact HS10.out, HN1.out, HB10.out, HA10.out, HU10.out, HN10.out, HX10.out⟩
                        case measure => simp [intOf]; omega
                    · have hce : c = nx := by omega
                      subst hce
                      have hge : ¬ (c : Int) < (c : Int) := by omega
                      have HLN : Hid ((seqsL T px (i + 1)).length = n2) := by
                        show _ = _
                        rw [HSE.out.1, List.length_append, List.length_map, List.length_range, HSN.out, HNE.out]
                      clear hlc
                      go_wp2_with fail
                      go_roundw
                      case rel => exact ⟨i + 1, us2, by omega, by go_num, by rw [HLN.out, HSE.out.1, HSE.out.2]; exact HS.out, X⟩
                      case measure => simp [intOf]; omega
      · have hnf : ¬ freshB T p i x = true := fun h => by
          obtain ⟨f1, f2, _⟩ := freshB_iff.1 h
          exact hkp ⟨by rw [← HKX.out]; exact f1, by rw [← HPX.out]; exact f2⟩
        have HSE : Hid (seqsL T p (i + 1) = SQ ∧ waysL T p (i + 1) = WY) := by rw [HSS.out, HWS.out, if_neg hnf, if_neg hnf]; exact ⟨rfl, rfl⟩
        by_cases hk : kx = 2
        · subst hk
          have bf : (px != p) = true := by rw [bne_iff_ne]; exact fun e => hkp ⟨rfl, e⟩
          clear hkp hnf HSS HWS HWX
          go_wp2_with fail
          go_roundw
          case rel => exact ⟨i + 1, us, by omega, by go_num, by rw [HSE.out.1, HSE.out.2]; exact HS1.out, HX1.out⟩
          case measure => simp [intOf]; omega
        · have bf : (kx != 2) = true := by rw [bne_iff_ne]; exact hk
          clear hkp hk hnf HSS HWS HWX
          go_wp2_with fail
          go_roundw
          case rel => exact ⟨i + 1, us, by omega, by go_num, by rw [HSE.out.1, HSE.out.2]; exact HS1.out, HX1.out⟩
          case measure => simp [intOf]; omega
    · have hie : i = T.length := by omega
      subst hie
      have HPO : Hid (0 < (waysL T p T.length).length) := (List.getElem?_eq_some_iff.1 (waysL_pos T p T.length)).1
      obtain ⟨g, cap, rfl, _, _⟩ := own_open HS.out.way HPO.out
      have HSE := Lib.hid (SqO.toIn (B := wo.heap.size) HS.out.seq)
      have HGE := Lib.hid HS.out.toG
      have hge : ¬ (T.length : Int) < (T.length : Int) := by omega
      clear hlt
      go_wp2_with fail
      go_ret2
      exact ⟨_, rfl, u6, g, _, cap, rfl, HSE.out, HGE.out, X⟩
end Go.Proofs.YtkfheeffbombhaaGreatDoor