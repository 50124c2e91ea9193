/- texts merged: Two MsA MsB MsP -/
import Derived.Test.YtnfmknjhkpgppaaGreatDoorStepApp
import Derived.Test.YtnfmknjhkpgppaaGreatDoorNatZ
import Derived.Laws.CopyOwn
import Derived.Test.YtnfmknjhkpgppaaGreatDoorMxY
import Derived.Test.YtnfmknjhkpgppaaGreatDoorMxZ
import Derived.IntWalk
import Derived.Test.YtnfmknjhkpgppaaGreatDoorMxSX
/- Two slices of the call's own that grow side by side. -/
namespace Go.Proofs.YtnfmknjhkpgppaaGreatDoor
open Go.RowKit
set_option linter.unusedVariables false

/-- two slices of the call's own that grow side by side: the first one has rows, the second one has cells; a row that waits for the first one -/
structure LR (B : Nat) (e1 e2 : TypeId) (w : World) (lv rv : Value) (ml mr : Nat) (xs : List Value) (vss : List (List Value)) (ys : List Value) (u : Value) (vs : List Value) : Prop where
  lo : w.ownsRow B e1 1 lv ml xs
  ro : w.ownsRow B e2 1 rv mr ys
  dis : ∀ k, lv.ownBlock = some k → rv.ownBlock ≠ some k
  lrow : RowsX B lv.ownBlock w xs vss
  rrow : RowsX B rv.ownBlock w xs vss
  pl : RowX lv.ownBlock w u vs
  pr : RowX rv.ownBlock w u vs
  pf : Fr B u vs

theorem LR.start (B : Nat) (e1 e2 : TypeId) (w : World) : LR B e1 e2 w (.slice none 0 0) (.slice none 0 0) 0 0 [] [] [] (.slice none 0 0) [] :=
  ⟨World.ownsRow_nil _ _ _ _, World.ownsRow_nil _ _ _ _, fun k h => by simp [Value.ownBlock] at h, RowsX.nil _ _ _, RowsX.nil _ _ _, ⟨Row.nil _, .inl rfl⟩, ⟨Row.nil _, .inl rfl⟩, .inl rfl⟩
variable {B : Nat} {e1 e2 : TypeId} {w w' : World} {lv rv : Value} {ml mr : Nat} {xs : List Value} {vss : List (List Value)} {ys : List Value} {u : Value} {vs : List Value}
theorem LR.ext (h : LR B e1 e2 w lv rv ml mr xs vss ys u vs) (he : Ext w w') : LR B e1 e2 w' lv rv ml mr xs vss ys u vs :=
  ⟨own_ext h.lo he, own_ext h.ro he, h.dis, h.lrow.ext he, h.rrow.ext he, h.pl.ext he, h.pr.ext he, h.pf⟩
/-- another row waits: one of a block that is new -/
theorem LR.wait (h : LR B e1 e2 w lv rv ml mr xs vss ys u vs) {u2 : Value} {vs2 : List Value} (hr : Row w u2 vs2) {B2 : Nat} (hf : Fr B2 u2 vs2) (hB : B ≤ B2) (hl : ∀ k, lv.ownBlock = some k → k < B2) (hr2 : ∀ k, rv.ownBlock = some k → k < B2) : LR B e1 e2 w lv rv ml mr xs vss ys u2 vs2 :=
  ⟨h.lo, h.ro, h.dis, h.lrow, h.rrow, ⟨hr, hf.away hl⟩, ⟨hr, hf.away hr2⟩, hf.mono hB⟩
theorem LR.idle (h : LR B e1 e2 w lv rv ml mr xs vss ys u vs) : LR B e1 e2 w lv rv ml mr xs vss ys (.slice none 0 0) [] :=
  ⟨h.lo, h.ro, h.dis, h.lrow, h.rrow, ⟨Row.nil _, .inl rfl⟩, ⟨Row.nil _, .inl rfl⟩, .inl rfl⟩
theorem apart_of {a b : Option Nat} (h : ∀ k, a = some k → b ≠ some k) : b ≠ a ∨ b = none := by
  cases a with
  | none => cases b with
    | none => exact .inr rfl
    | some k => exact .inl (by simp)
  | some k => exact .inl (h k rfl)
theorem LR.stepL (h : LR B e1 e2 w lv rv ml mr xs vss ys u vs) {lv' : Value} (ho : w'.ownsRow B e1 1 lv' (ml + 1) (xs ++ [u])) (hg : Grew w lv w' lv') : LR B e1 e2 w' lv' rv (ml + 1) mr (xs ++ [u]) (vss ++ [vs]) ys u vs := by
  refine ⟨ho, own_kept h.ro hg.by' (apart_of h.dis), fun k hk => ?_, (h.lrow.snoc h.pl h.pf).grew hg, ?_, hg.row h.pl, ⟨(hg.row h.pl).1, h.pr.2⟩, h.pf⟩
  · rcases hg.blk with e | e
    · exact h.dis k (by rw [← e]; exact hk)
    · intro e2
      have := (h.ro.lt k e2).2
      have := e k hk
      omega
  · have h1 := (h.lrow.snoc h.pl h.pf).grew hg
    have h2 := h.rrow.snoc h.pr h.pf
    exact ⟨h1.len, fun i x y a b => ⟨⟨(h1.row i x y a b).1.1, (h2.row i x y a b).1.2⟩, (h1.row i x y a b).2⟩⟩
theorem LR.stepR (h : LR B e1 e2 w lv rv ml mr xs vss ys u vs) {rv' y : Value} (ho : w'.ownsRow B e2 1 rv' (mr + 1) (ys ++ [y])) (hg : Grew w rv w' rv') : LR B e1 e2 w' lv rv' ml (mr + 1) xs vss (ys ++ [y]) u vs := by
  refine ⟨own_kept h.lo hg.by' (apart_of fun k a b => h.dis k b a), ho, fun k hk => ?_, ?_, h.rrow.grew hg, ⟨(hg.row h.pr).1, h.pl.2⟩, hg.row h.pr, h.pf⟩
  · rcases hg.blk with e | e
    · rw [e]; exact h.dis k hk
    · intro e2
      have := (h.lo.lt k hk).2
      have := e k e2
      omega
  · have h1 := h.rrow.grew hg
    exact ⟨h1.len, fun i x y a b => ⟨⟨(h1.row i x y a b).1.1, (h.lrow.row i x y a b).1.2⟩, (h1.row i x y a b).2⟩⟩
/-- a cell of a block that an append does not write -/
theorem Grew.cell {v v' : Value} (h : Grew w v w' v') {B2 k j : Nat} {x : Value} (hb : ∀ k, v.ownBlock = some k → k < B2) (hk : B2 ≤ k) (hc : w.cell? ⟨k, j, none⟩ = some x) : w'.cell? ⟨k, j, none⟩ = some x :=
  h.by'.cell hc (fun e => by have := hb k (by rw [e]); omega)
/-- a source: a box of one cell -/
theorem src_cell {k : Nat} {x : Value} (h1 : x.oneCell' = true) (hc : w.cell? ⟨k, 0, none⟩ = some x) : Src w (.slice (some ⟨k, 0, none⟩) 1 1) 1 1 [x] := by
  refine ⟨_, _, rfl, rfl, by simpa using h1, fun _ => ⟨_, _, rfl, fun j y hy => ?_⟩⟩
  match j, hy with
  | 0, hy =>
    simp at hy
    subst hy
    exact hc
/-- a box of one cell that neither slice holds -/
structure Box (w : World) (lv rv : Value) (k : Nat) (x : Value) : Prop where
  cell : w.cell? ⟨k, 0, none⟩ = some x
  nl : ∀ j, lv.ownBlock = some j → j ≠ k
  nr : ∀ j, rv.ownBlock = some j → j ≠ k
theorem Box.ext {k : Nat} {x : Value} (h : Box w lv rv k x) (he : Ext w w') : Box w' lv rv k x := ⟨he.cell h.cell, h.nl, h.nr⟩
theorem Box.stepL {k : Nat} {x lv' : Value} (h : Box w lv rv k x) (hg : Grew w lv w' lv') : Box w' lv' rv k x := by
  refine ⟨hg.by'.cell h.cell (fun e => h.nl k e.symm rfl), fun j hj => ?_, h.nr⟩
  rcases hg.blk with e | e
  · exact h.nl j (by rw [← e]; exact hj)
  · have h1 := World.block_lt_of_cell? w _ h.cell
    have h2 := e j hj
    simp only at h1
    omega
theorem Box.stepR {k : Nat} {x rv' : Value} (h : Box w lv rv k x) (hg : Grew w rv w' rv') : Box w' lv rv' k x := by
  refine ⟨hg.by'.cell h.cell (fun e => h.nr k e.symm rfl), h.nl, fun j hj => ?_⟩
  rcases hg.blk with e | e
  · exact h.nr j (by rw [← e]; exact hj)
  · have h1 := World.block_lt_of_cell? w _ h.cell
    have h2 := e j hj
    simp only at h1
    omega
theorem drew_cell (w : World) (p : Addr) : w.drew.cell? p = w.cell? p := rfl
theorem drew_heap (w : World) : w.drew.heap = w.heap := rfl
theorem heap_new (w : World) (o : Obj) : (w.alloc o).heap[w.heap.size]? = some o := by rw [← World.alloc_eq]; simp
theorem heap_new2 (w : World) (o1 o2 : Obj) : ((w.alloc o1).alloc o2).heap[w.heap.size + 1]? = some o2 := by
  have := heap_new (w.alloc o1) o2
  rwa [World.size_alloc] at this
theorem heap_old2 (w : World) (o1 o2 : Obj) : ((w.alloc o1).alloc o2).heap[w.heap.size]? = some o1 := by
  rw [Below.heap_alloc _ _ _ (by simp)]
  exact heap_new w o1
theorem cell_new2 (w : World) (o : Obj) (x : Value) (e : TypeId) : ((w.alloc o).alloc (.cells #[x] e)).cell? ⟨w.heap.size + 1, 0, none⟩ = some x := by
  have := cell_new (w.alloc o) x e
  rwa [World.size_alloc] at this
theorem cell_old2 (w : World) (o : Obj) (x : Value) (e : TypeId) : ((w.alloc (.cells #[x] e)).alloc o).cell? ⟨w.heap.size, 0, none⟩ = some x := Ext.cell ((Ext.refl _).alloc o) (cell_new w x e)
theorem LR.bx {k : Nat} {x : Value} (h : LR B e1 e2 w lv rv ml mr xs vss ys u vs) {W : World} (hk : w.heap.size ≤ k) (hc : W.cell? ⟨k, 0, none⟩ = some x) (hX : Ext W w') : Box w' lv rv k x := by
  refine ⟨hX.cell hc, fun j hj => ?_, fun j hj => ?_⟩
  · have := (h.lo.lt j hj).2; omega
  · have := (h.ro.lt j hj).2; omega
theorem LR.bxA {x : Value} {e : TypeId} (h : LR B e1 e2 w lv rv ml mr xs vss ys u vs) (hX : Ext (w.alloc (.cells #[x] e)) w') : Box w' lv rv w.heap.size x := h.bx (Nat.le_refl _) (cell_new _ _ _) hX
theorem LR.bxAd {x : Value} {e : TypeId} (h : LR B e1 e2 w lv rv ml mr xs vss ys u vs) (hX : Ext (w.alloc (.cells #[x] e)).drew w') : Box w' lv rv w.heap.size x := h.bx (W := (w.alloc (.cells #[x] e)).drew) (Nat.le_refl _) (cell_new _ _ _) hX
theorem LR.bxB {x : Value} {e : TypeId} {o : Obj} (h : LR B e1 e2 w lv rv ml mr xs vss ys u vs) (hX : Ext ((w.alloc o).alloc (.cells #[x] e)) w') : Box w' lv rv (w.heap.size + 1) x := h.bx (Nat.le_succ _) (cell_new2 _ _ _ _) hX
theorem LR.bxBd {x : Value} {e : TypeId} {o : Obj} (h : LR B e1 e2 w lv rv ml mr xs vss ys u vs) (hX : Ext ((w.alloc o).alloc (.cells #[x] e)).drew w') : Box w' lv rv (w.heap.size + 1) x := h.bx (W := ((w.alloc o).alloc (.cells #[x] e)).drew) (Nat.le_succ _) (cell_new2 _ _ _ _) hX
theorem LR.bxC {x : Value} {e : TypeId} {o : Obj} (h : LR B e1 e2 w lv rv ml mr xs vss ys u vs) (hX : Ext ((w.alloc (.cells #[x] e)).alloc o) w') : Box w' lv rv w.heap.size x := h.bx (Nat.le_refl _) (cell_old2 _ _ _ _) hX
theorem LR.bxCd {x : Value} {e : TypeId} {o : Obj} (h : LR B e1 e2 w lv rv ml mr xs vss ys u vs) (hX : Ext ((w.alloc (.cells #[x] e)).alloc o).drew w') : Box w' lv rv w.heap.size x := h.bx (W := ((w.alloc (.cells #[x] e)).alloc o).drew) (Nat.le_refl _) (cell_old2 _ _ _ _) hX
theorem own_heap2 {w : World} {B : Nat} {e : TypeId} {g n : Nat} {vs : List Value} (h : w.ownsRow B e 1 (.slice (some ⟨g, 0, none⟩) n n) n vs) : w.heap[g]? = some (.cells vs.toArray e (0, 0)) ∧ B ≤ g := by
  rcases h.2 with ⟨h1, _⟩ | ⟨g', cap, cur, h1, hb, hg, hc, _, hcs, ht⟩
  · cases h1
  · simp only [Value.slice.injEq, Option.some.injEq, Addr.mk.injEq, and_true, true_and] at h1
    obtain ⟨rfl, rfl⟩ := h1
    have : cur.toList = vs := by rw [← ht, List.take_of_length_le]; rw [Array.length_toList, hcs]; exact Nat.le_refl _
    rw [← this]
    exact ⟨hg, hb⟩
theorem heap_own2 {w : World} {B : Nat} {e : TypeId} {g n : Nat} {vs : List Value} (h : w.heap[g]? = some (.cells vs.toArray e (0, 0))) (hn : vs.length = n) (hb : n ≤ 17592186044416) (hB : B ≤ g) : w.ownsRow B e 1 (.slice (some ⟨g, 0, none⟩) n n) n vs := by
  subst hn
  exact ⟨by simp, .inr ⟨g, vs.length, vs.toArray, rfl, hB, h, Nat.le_refl _, by unfold maxLen; omega, by simp, by simp⟩⟩
/-- copy into a row that is known whole: that row alone is written -/
theorem wp_copy_grown {P : Program} {w : World} {ops : Array Oper} {rest : List Oper} {o : Oper} {a : Act} {Q : Exit → Act → World → Prop} (hgd : o.guard = none) (d s : Operand) (dT sT : TypeId)
    (ho : o.op = .call { callee := .builtin .copy, args := #[d, s], argTypes := #[dT, sT] }) (elem : TypeId) (hu : P.underlying dT = some (.slice elem)) (hsz : (P.info? elem).map (·.size) = some 1)
    (g off dLen dCap : Nat) (sp : Option Addr) (sLen sCap : Nat) (hd : a.eval d = .slice (some ⟨g, off, none⟩) dLen dCap) (hs : a.eval s = .slice sp sLen sCap)
    (cur : List Value) (t : TypeId) (hg : w.heap[g]? = some (.cells cur.toArray t (0, 0))) (cs : List Value) (hn : cs.length = Nat.min sLen dLen)
    (hsrc : Cells w sp cs) (hfit : off + cs.length ≤ cur.length) (h1 : ∀ v ∈ cs, v.oneCell' = true)
    (h : ∀ w', Hid (w'.heap[g]? = some (.cells (cur.take off ++ (cs ++ cur.drop (off + cs.length))).toArray t (0, 0))) → w.grownBy w' (some g) → wpList P ops Q rest (a.put o.dst (goInt cs.length)) w') :
    wpList P ops Q (o :: rest) a w := by
  by_cases h0 : cs.length = 0
  · obtain rfl : cs = [] := List.eq_nil_of_length_eq_zero h0
    refine wpList_copy_nothing hgd d s dT sT ho elem hu hsz _ sp dLen dCap sLen sCap hd hs (by simpa using hn.symm) ?_
    exact h w (show _ = _ by simpa using hg) ⟨rfl, rfl, rfl, Nat.le_refl _, fun _ _ _ => rfl⟩
  · obtain ⟨x, l, e⟩ := List.exists_cons_of_ne_nil (l := cs) (fun e => h0 (by rw [e]; rfl))
    obtain ⟨b, so, rfl, _⟩ := hsrc 0 x (by rw [e]; rfl)
    refine wpList_copy_own hgd d s dT sT ho elem hu hsz g off dLen dCap ⟨b, so, none⟩ sLen sCap hd hs cur.toArray t hg cs hn (fun j v hj => ?_) (by simpa using hfit) h1 ?_
    · obtain ⟨b2, so2, e2, hc⟩ := hsrc j v hj
      simp only [Option.some.injEq, Addr.mk.injEq, and_true] at e2
      obtain ⟨rfl, rfl⟩ := e2
      rw [Addr.add_lit]
      exact hc
    · exact h _ (show _ = _ by simpa using setRow_heap w g _ _ t _ hg) ⟨rfl, rfl, rfl, by simp, fun k _ hne => setRow_other w g k _ (fun e => hne (by rw [e]))⟩
/-- append of a box's cell, in a region that draws; all that hangs on the world comes behind the operands -/
theorem step_app1 {P : Program} {ops : Array Oper} {o : Oper} {a : Act} {w : World} {K : Act → World → Prop} {Q : Exit → Act → World → Prop} {E : Prop} (hg : o.guard = none) {s x : Operand} {t e : TypeId} {z : Value} {bytes : Nat}
    (ho : o.op = .call { callee := .builtin .append, args := #[s, x], argTypes := #[t, t] }) (ei : EI P t e z 1 bytes) {v : Value} (hs : a.eval s = v) {k : Nat} (hx : a.eval x = .slice (some ⟨k, 0, none⟩) 1 1) {y : Value} (h1 : y.oneCell' = true)
    {B n : Nat} {xs : List Value} (hown : w.ownsRow B e 1 v n xs) (hc : w.cell? ⟨k, 0, none⟩ = some y) (hlen : n + 1 ≤ 17592186044416) (hby : (n + 1) * bytes ≤ 140737488355328) (hB : B ≤ w.heap.size)
    (h : ∀ v' w', w'.ownsRow B e 1 v' (n + 1) (xs ++ [y]) → Grew w v w' v' → K (a.put o.dst v') w') : if Region.wanted o (yielded ops a.tmps) = true then Oper.wp P o a w K Q else E :=
  step_app hg ho ei hs hown hx (src_cell h1 hc) hlen hby hB h
/-- append to an empty literal, in a region that draws -/
theorem step_app0 {P : Program} {ops : Array Oper} {o : Oper} {a : Act} {w : World} {K : Act → World → Prop} {Q : Exit → Act → World → Prop} {E : Prop} (hg : o.guard = none) {s x : Operand} {t e : TypeId} {z : Value} {bytes : Nat}
    (ho : o.op = .call { callee := .builtin .append, args := #[s, x], argTypes := #[t, t] }) (ei : EI P t e z 1 bytes) {k : Nat} (hs : a.eval s = .slice (some ⟨k, 0, none⟩) 0 0) {u : Value} (hx : a.eval x = u) (B : Nat)
    (hk : w.heap[k]? = some (.cells #[] e (0, 0))) (hB : B ≤ k) {m : Nat} {news : List Value} (hsrc : Src w u m 1 news) (hlen : m ≤ 17592186044416) (hby : m * bytes ≤ 140737488355328)
    (h : ∀ v' w', w'.ownsRow B e 1 v' m news → Grew w (.slice (some ⟨k, 0, none⟩) 0 0) w' v' → K (a.put o.dst v') w') : if Region.wanted o (yielded ops a.tmps) = true then Oper.wp P o a w K Q else E := by
  have hlt := (Array.getElem?_eq_some_iff.1 hk).1
  refine step_app (n := 0) (xs := []) hg ho ei hs (heap_own2 (vs := []) hk rfl (by omega) hB) hx hsrc (by rwa [Nat.zero_add]) (by rwa [Nat.zero_add]) (by omega) fun v' w' h2 h3 => h v' w' (by rwa [Nat.zero_add, List.nil_append] at h2) h3
end Go.Proofs.YtnfmknjhkpgppaaGreatDoor
/- walks: the reference's Minor, Det -/
namespace Go.Proofs.YtnfmknjhkpgppaaGreatDoor
open Go.RowKit
set_option linter.unusedVariables false

/-- the matrix without its first row and a column -/
def minS (m : List (List ByteArray)) (k : Nat) : List (List ByteArray) := m.tail.map (·.eraseIdx k)
theorem erase_split {l : List ByteArray} (k : Nat) : l.eraseIdx k = l.take k ++ l.drop (k + 1) := List.eraseIdx_eq_take_drop_succ ..
theorem src_take {w : World} {ao : Option Addr} {c k : Nat} {l : List ByteArray} (h : Row w (.slice ao l.length c) (l.map Value.string)) (hk : k ≤ l.length) : Src w (.slice ao k c) k 1 ((l.take k).map Value.string) := by
  refine ⟨ao, c, rfl, by rw [List.length_map, List.length_take]; omega, fun x hx => by obtain ⟨y, _, rfl⟩ := List.mem_map.1 hx; rfl, fun hm => ?_⟩
  have hs := Row.src h (fun x hx => by obtain ⟨y, _, rfl⟩ := List.mem_map.1 hx; rfl)
  obtain ⟨ao2, c2, e, _, _, h4⟩ := hs
  simp only [Value.slice.injEq] at e
  obtain ⟨b, off, e2, hc⟩ := h4 (by rw [List.length_map]; omega)
  refine ⟨b, off, e.1.trans e2, fun j x hj => hc j x ?_⟩
  rw [List.map_take, List.getElem?_take] at hj
  split at hj
  · exact hj
  · cases hj
theorem src_drop {w : World} {ao : Option Addr} {c k b off : Nat} {l : List ByteArray} (h : Row w (.slice ao l.length c) (l.map Value.string)) (he : ao = some ⟨b, off, none⟩) (hk : k ≤ l.length) : Src w (.slice (some ⟨b, off + k, none⟩) (l.length - k) (c - k)) (l.length - k) 1 ((l.drop k).map Value.string) := by
  refine ⟨_, _, rfl, by rw [List.length_map, List.length_drop]; omega, fun x hx => by obtain ⟨y, _, rfl⟩ := List.mem_map.1 hx; rfl, fun hm => ?_⟩
  have hs := Row.src h (fun x hx => by obtain ⟨y, _, rfl⟩ := List.mem_map.1 hx; rfl)
  obtain ⟨ao2, c2, e, _, _, h4⟩ := hs
  simp only [Value.slice.injEq] at e
  obtain ⟨b2, off2, e2, hc⟩ := h4 (by rw [List.length_map]; omega)
  have e3 := he.symm.trans (e.1.trans e2)
  simp only [Option.some.injEq, Addr.mk.injEq, and_true] at e3
  obtain ⟨rfl, rfl⟩ := e3
  refine ⟨_, _, rfl, fun j x hj => ?_⟩
  rw [List.map_drop, List.getElem?_drop] at hj
  have := hc (k + j) x hj
  rwa [← Nat.add_assoc] at this
theorem own_any {W : World} {B : Nat} {e : TypeId} {s : Nat} {v : Value} {k : Nat} {xs : List Value} (h : W.ownsRow B e s v k xs) : ∃ po n pc, v = .slice po n pc := by
  obtain ⟨po, pc, e⟩ := own_isSlice h
  exact ⟨po, _, pc, e⟩
theorem src_zero (w : World) (ao : Option Addr) (c : Nat) : Src w (.slice ao 0 c) 0 1 [] := ⟨ao, c, rfl, rfl, (fun x hx => by cases hx), fun h => absurd rfl h⟩

set_option maxHeartbeats 6400000 in
set_option maxRecDepth 100000 in
theorem minor_any (v : Value) (m : List (List ByteArray)) (k n : Nat) (w : World) (hv : Rows Value.string w v m) (hw : ∀ l ∈ m, l.length = n) (hk : k < n) (hn : n ≤ 1000) (hm : m.length ≤ 1000) :
    Calls Tryz.prog 41 #[v, .int .i64 0, .int .i64 (k : Int)] w fun e w' => ∃ u, e = .returned u ∧ Rows Value.string w' u (minS m k) ∧ Ext w w' := by
  obtain ⟨us, hr, hul, hel⟩ := hv
  obtain ⟨ao, c, rfl, _, hlen, _, hc⟩ := hr
  have HC := Lib.hid hc
  have HEL := Lib.hid hel
  have HUL := Lib.hid hul
  have HWD := Lib.hid hw
  have hu1 : us.length ≤ 1000 := by omega
  have HML : Hid ((minS m k).length = us.length - 1) := by show _ = _; unfold minS; rw [List.length_map, List.length_tail, hul]
  have HMG : Hid (∀ i r, m[i + 1]? = some r → (minS m k)[i]? = some (r.eraseIdx k)) := fun i r h => by unfold minS; rw [List.getElem?_map, List.getElem?_tail, h]; rfl
  generalize minS m k = M at *
  obtain ⟨wo, rfl⟩ : ∃ wo : World, wo = w := ⟨_, rfl⟩
  clear hc hel hul hw hm
  go_enter Tryz.func41, Tryz.ntmps41
  go_wp2_with fail
  go_loopw [7, 12] (fun ov iv wr => ∃ (i : Nat) (xs : List Value), i ≤ us.length ∧ iv = .int .i64 i ∧ Hid (wr.ownsRow wo.heap.size 25 1 ov (i - 1) xs) ∧ Hid (RowsX wo.heap.size ov.ownBlock wr xs ((M.take (i - 1)).map (·.map Value.string))) ∧ Ext wo wr) (fun _ iv _ => us.length - (intOf iv).toNat)
  case atStart => exact ⟨0, [], Nat.zero_le _, rfl, World.ownsRow_nil _ _ _ _, RowsX.nil _ _ _, Ext.refl _⟩
  case round =>
    obtain ⟨i, xs, hi, rfl, HO, HRX, X⟩ := hrel
    by_cases hlt : i < us.length
    · obtain ⟨u, d1, d2, d3⟩ := get_lt hlt
      obtain ⟨r, q1, q2, q3⟩ := get_lt (xs := m) (k := i) (by rw [← HUL.out]; exact hlt)
      obtain ⟨b, off, rfl, hc0⟩ := HC.out.ext X i u d1.out
      have hcell : wr.cell? ⟨b, off + i, none⟩ = some u := hc0
      have hki : (i : Int) < (us.length : Int) := by omega
      by_cases h0 : i = 0
      · subst h0
        obtain ⟨ro, rc, rfl, _, _⟩ := (HEL.out 0 u r d1.out q1.out).open
        have hcell0 : wr.cell? ⟨b, off, none⟩ = some _ := hcell
        have h0l : 0 < us.length := by omega
        clear hc0 hcell hki d1 d2 d3 q1 q2 q3 hlt
        go_wp2_with fail
        go_roundw
        case rel => exact ⟨1, xs, by omega, by go_num, HO, HRX, X⟩
        case measure => simp [intOf] <;> omega
      · obtain ⟨j, rfl⟩ : ∃ j, i = j + 1 := ⟨i - 1, by omega⟩
        rw [Nat.add_sub_cancel] at HO HRX
        have hrl := HWD.out r (List.mem_of_getElem? q1.out)
        have hrow := (HEL.out (j + 1) u r d1.out q1.out).ext X
        have HMJ := HMG.out j r q1.out
        rw [erase_split] at HMJ
        obtain ⟨bo, rc, rfl, hr1, hr2, _, hr4⟩ := hrow.open'
        obtain ⟨x0, p0, _, _⟩ := get_lt (xs := r) (k := 0) (by omega)
        obtain ⟨rb, roff, rfl, _⟩ := hr4.at p0
        have HT1 := Lib.hid (src_take (k := k) (show Row wr _ _ from hrow) (by omega))
        have HT2 := Lib.hid (src_drop (k := k + 1) (show Row wr _ _ from hrow) rfl (by omega))
        have HMQ := Lib.hid HMJ
        have HRL := Lib.hid hrl
        have hr1000 : r.length ≤ 1000 := by omega
        have hk0 : (0 : Int) ≤ (k : Int) := by omega
        have hkn : (k : Int) + 1 ≤ (r.length : Int) := by omega
        have hkc : (k : Int) ≤ (rc : Int) := by omega
        have hrc : (r.length : Int) ≤ (rc : Int) := by omega
        have hneq : (((j + 1 : Nat) : Int) != 0) = true := by rw [bne_iff_ne]; omega
        clear hc0 d1 d2 d3 q1 q2 q3 p0 hrl hrow HMJ hr4
        go_wp2_with fail
        by_cases hcc : rc = k + 1
        · have hr1 : r.length = k + 1 := by omega
          have hdr : r.drop (k + 1) = [] := List.drop_eq_nil_of_le (by omega)
          have HT0 := Lib.hid (fun W A c => src_zero W A c)
          subst hcc
          have hkcc : (k : Int) ≤ (k : Int) + 1 := by omega
          have hkc2 : (k : Int) + 1 ≤ (k : Int) + 1 := by omega
          have hA1 : 0 + k ≤ 17592186044416 := by omega
          have hA2 : (0 + k) * 16 ≤ 140737488355328 := by omega
          have hA3 : 0 + k + 0 ≤ 17592186044416 := by omega
          have hA4 : (0 + k + 0) * 16 ≤ 140737488355328 := by omega
          have hA5 : j + 1 ≤ 17592186044416 := by omega
          have hA6 : (j + 1) * 24 ≤ 140737488355328 := by omega
          have hxs := X.size
          have hk1 : (0 : Int) ≤ (k : Int) + 1 := by omega
          have htn : ((k : Int) + 1).toNat = k + 1 := by omega
          have hwk : IntKind.i64.wrap ((k : Int) + 1) = (k : Int) + 1 := IntWalk.i64_in _ (by omega)
          go_region_held3 (fun _ => True) (trivial) (first
            | (refine step_app (s := .tmp 21) (x := .tmp 24) rfl rfl ei_vecs rfl (own_empty wr.drew _) rfl (HT1.out.ext ((Ext.refl wr).drew.alloc _)) hA1 hA2 (by simp) ?_; intro v1 w1 hown1 hgrew1; have Y1 : Ext wr w1 := hgrew1.extNew ((Ext.refl wr).drew.alloc _) (own_empty wr.drew _) (by simp); have HW1 := Lib.hid hown1; have HZ1 := Lib.hid Y1.size; clear hown1 hgrew1)
            | (refine step_app (s := .tmp 25) (x := .tmp 29) rfl rfl ei_vecs rfl HW1.out rfl (HT0.out _ _ _) hA3 hA4 HZ1.out ?_; intro v2 w2 hown2 hgrew2; have Y2 : Ext wr w2 := hgrew2.extNew Y1 HW1.out (Nat.le_refl _); obtain ⟨so, sl, sc, rfl⟩ := own_any hown2; have HW2 := Lib.hid hown2; have Z2 := X.trans Y2; have HS2 := Lib.hid Z2.size; clear hown2 hgrew2)
            | (refine step_app (s := .tmp 20) (x := .tmp 31) rfl rfl ei_mat rfl (own_ext HO.out (Y2.alloc _)) rfl (src_new w2 _ _ rfl) hA5 hA6 (Nat.le_trans HS2.out (by simp)) ?_; intro v3 w3 hown3 hgrew3))
          all_goals
            have hrw := own_row HW2.out (by omega)
            have hls : [] ++ List.map Value.string (List.take k r) ++ [] = (r.take k ++ r.drop (k + 1)).map Value.string := by rw [hdr, List.nil_append, List.append_nil, List.append_nil]
            rw [hls] at hrw
            have hfr := own_fr (vs := (r.take k ++ r.drop (k + 1)).map Value.string) HW2.out (fun hne => by
              have h1 := HW2.out.1
              rw [hls] at h1
              have := List.length_pos_iff.2 hne
              omega)
            have HLT := Lib.hid (fun x (hx : _ = some x) => (HO.out.lt x hx).2)
            have HRX3 := (HRX.out.ext Y2).snoc ⟨hrw, hfr.away HLT.out⟩ (hfr.mono X.size)
            have HRX4 := Lib.hid ((HRX3.ext ((Ext.refl w2).alloc _)).grew ⟨hgrew3.by', hgrew3.blk⟩)
            have HTK : M.take (j + 1) = M.take j ++ [r.take k ++ r.drop (k + 1)] := by
              obtain ⟨h3, h4⟩ := List.getElem?_eq_some_iff.1 HMQ.out
              rw [List.take_succ_eq_append_getElem h3, h4]
            have HRY := Lib.hid (show RowsX wo.heap.size v3.ownBlock w3 _ ((M.take (j + 1)).map (·.map Value.string)) by rw [HTK, List.map_append]; exact HRX4.out)
            have HE := Lib.hid (hgrew3.extNew (Z2.alloc _) (own_ext HO.out (Y2.alloc _)) (Nat.le_refl _))
            have HOW := Lib.hid hown3
            clear hrw hls hfr HRX3 HTK HRX4 hown3 hgrew3 hwk htn hk1
            go_wp2_with fail
            go_roundw
            case rel => exact ⟨j + 1 + 1, _, by omega, by go_num, HOW, HRY, HE.out⟩
            case measure => simp [intOf] <;> omega
        · have hA1 : 0 + k ≤ 17592186044416 := by omega
          have hA2 : (0 + k) * 16 ≤ 140737488355328 := by omega
          have hA3 : 0 + k + (r.length - (k + 1)) ≤ 17592186044416 := by omega
          have hA4 : (0 + k + (r.length - (k + 1))) * 16 ≤ 140737488355328 := by omega
          have hA5 : j + 1 ≤ 17592186044416 := by omega
          have hA6 : (j + 1) * 24 ≤ 140737488355328 := by omega
          have hxs := X.size
          have hk1 : (0 : Int) ≤ (k : Int) + 1 := by omega
          have hkc1 : (k : Int) + 1 ≤ (rc : Int) := by omega
          have htn : ((k : Int) + 1).toNat = k + 1 := by omega
          have hwk : IntKind.i64.wrap ((k : Int) + 1) = (k : Int) + 1 := IntWalk.i64_in _ (by omega)
          go_region_held3 (fun _ => True) (trivial) (first
            | (refine step_app (s := .tmp 21) (x := .tmp 24) rfl rfl ei_vecs rfl (own_empty wr.drew _) rfl (HT1.out.ext ((Ext.refl wr).drew.alloc _)) hA1 hA2 (by simp) ?_; intro v1 w1 hown1 hgrew1; have Y1 : Ext wr w1 := hgrew1.extNew ((Ext.refl wr).drew.alloc _) (own_empty wr.drew _) (by simp); have HW1 := Lib.hid hown1; have HZ1 := Lib.hid Y1.size; clear hown1 hgrew1)
            | (refine step_app (s := .tmp 25) (x := .tmp 29) rfl rfl ei_vecs rfl HW1.out rfl (HT2.out.ext Y1) hA3 hA4 HZ1.out ?_; intro v2 w2 hown2 hgrew2; have Y2 : Ext wr w2 := hgrew2.extNew Y1 HW1.out (Nat.le_refl _); obtain ⟨so, sl, sc, rfl⟩ := own_any hown2; have HW2 := Lib.hid hown2; have Z2 := X.trans Y2; have HS2 := Lib.hid Z2.size; clear hown2 hgrew2)
            | (refine step_app (s := .tmp 20) (x := .tmp 31) rfl rfl ei_mat rfl (own_ext HO.out (Y2.alloc _)) rfl (src_new w2 _ _ rfl) hA5 hA6 (Nat.le_trans HS2.out (by simp)) ?_; intro v3 w3 hown3 hgrew3))
          all_goals
            have hrw := own_row HW2.out (by omega)
            have hls : [] ++ List.map Value.string (List.take k r) ++ List.map Value.string (List.drop (k + 1) r) = (r.take k ++ r.drop (k + 1)).map Value.string := by rw [List.nil_append, List.map_append]
            rw [hls] at hrw
            have hfr := own_fr (vs := (r.take k ++ r.drop (k + 1)).map Value.string) HW2.out (fun hne => by
              have h1 := HW2.out.1
              rw [hls] at h1
              have := List.length_pos_iff.2 hne
              omega)
            have HLT := Lib.hid (fun x (hx : _ = some x) => (HO.out.lt x hx).2)
            have HRX3 := (HRX.out.ext Y2).snoc ⟨hrw, hfr.away HLT.out⟩ (hfr.mono X.size)
            have HRX4 := Lib.hid ((HRX3.ext ((Ext.refl w2).alloc _)).grew ⟨hgrew3.by', hgrew3.blk⟩)
            have HTK : M.take (j + 1) = M.take j ++ [r.take k ++ r.drop (k + 1)] := by
              obtain ⟨h3, h4⟩ := List.getElem?_eq_some_iff.1 HMQ.out
              rw [List.take_succ_eq_append_getElem h3, h4]
            have HRY := Lib.hid (show RowsX wo.heap.size v3.ownBlock w3 _ ((M.take (j + 1)).map (·.map Value.string)) by rw [HTK, List.map_append]; exact HRX4.out)
            have HE := Lib.hid (hgrew3.extNew (Z2.alloc _) (own_ext HO.out (Y2.alloc _)) (Nat.le_refl _))
            have HOW := Lib.hid hown3
            clear hrw hls hfr HRX3 HTK HRX4 hown3 hgrew3 hwk htn hk1 hkc1
            go_wp2_with fail
            go_roundw
            case rel => exact ⟨j + 1 + 1, _, by omega, by go_num, HOW, HRY, HE.out⟩
            case measure => simp [intOf] <;> omega
    · have hil : us.length = i := by omega
      have hmm : M.take (i - 1) = M := by rw [← hil, ← HML.out]; exact List.take_length
      have HR0 := HRX.out
      rw [hmm] at HR0
      have HR1 := own_row HO.out (by omega)
      have HR := Lib.hid (rowsX_rows HR0 HR1)
      clear hlt hmm HR0 HR1 HO HRX
      go_wp2_with fail
      go_ret
      exact ⟨_, rfl, HR.out, X⟩
end Go.Proofs.YtnfmknjhkpgppaaGreatDoor
/- walk: the reference's Det -/
namespace Go.Proofs.YtnfmknjhkpgppaaGreatDoor
open Go.RowKit
set_option linter.unusedVariables false

def detB (k : Nat) : Nat → Nat
  | 0 => 1
  | n + 1 => 1 + (n + 1) * (k + detB k n + 1)
theorem sgn_RB {k : Nat} {q : Rat} (j : Nat) (h : RB k q) : RB k (sgnN j * q) := by
  unfold sgnN
  split
  · rw [Rat.one_mul]; exact h
  · have e : (-1 : Rat) * q = -q := by grind
    rw [e]; exact RB_neg h
theorem lapG_RB {k d : Nat} (f : Nat → Rat) : ∀ (l : List Rat) (j c : Nat) (a : Rat), (∀ i, i < j + l.length → RB d (f i)) → (∀ q ∈ l, RB k q) → RB c a → RB (c + l.length * (k + d + 1)) (lapG f l j a)
  | [], j, c, a, _, _, h => h.mono (by omega)
  | x :: t, j, c, a, hf, hl, h => by
    rw [lapG]
    have h1 : RB (c + (k + d + 1)) (if x = 0 then a else a + sgnN j * (x * f j)) := by
      split
      · exact h.mono (by omega)
      · exact (RB_add h (sgn_RB j (RB_mul (hl x (List.mem_cons_self ..)) (hf j (by rw [List.length_cons]; omega))))).mono (by omega)
    refine (lapG_RB f t (j + 1) _ _ (fun i hi => hf i (by rw [List.length_cons]; omega)) (fun q hq => hl q (List.mem_cons_of_mem _ hq)) h1).mono ?_
    rw [List.length_cons, Nat.succ_mul]; omega
theorem minL_mem {m : List (List Rat)} {j : Nat} {P : Rat → Prop} (h : ∀ r ∈ m, ∀ q ∈ r, P q) : ∀ r ∈ minL m j, ∀ q ∈ r, P q := by
  intro r hr q hq
  unfold minL at hr
  obtain ⟨s, hs, rfl⟩ := List.mem_map.1 hr
  exact h s (List.mem_of_mem_tail hs) q (List.mem_of_mem_eraseIdx hq)
theorem detL_RB {k : Nat} : ∀ (n : Nat) (m : List (List Rat)), Rect m n n → (∀ r ∈ m, ∀ q ∈ r, RB k q) → RB (detB k n) (detL n m)
  | 0, m, _, _ => (show RB 1 1 from ⟨by decide +kernel, by decide +kernel⟩)
  | n + 1, m, hr, hq => by
    cases m with
    | nil => have := hr.len; simp at this
    | cons r t =>
      have hw := hr.wide r (List.mem_cons_self ..)
      rw [detL, List.headD_cons]
      refine (lapG_RB (k := k) (d := detB k n) _ r 0 1 0 (fun i hi => detL_RB n _ (hr.min (by omega)) (minL_mem hq)) (hq r (List.mem_cons_self ..)) RB_zero).mono ?_
      rw [hw]; exact Nat.le_refl _
def textM (m : List (List Rat)) : List (List ByteArray) := m.map (·.map ratT)
theorem minS_text (m : List (List Rat)) (j : Nat) : minS (textM m) j = textM (minL m j) := by
  unfold minS minL textM
  rw [List.map_map, ← List.map_tail, List.map_map]
  refine List.map_congr_left fun r _ => ?_
  show (r.map ratT).eraseIdx j = (r.eraseIdx j).map ratT
  rw [List.eraseIdx_eq_take_drop_succ, List.eraseIdx_eq_take_drop_succ, List.map_append, List.map_take, List.map_drop]
theorem ratT_0 {q : Rat} (h : q = 0) : (ratT q).toList = [48] := by rw [h]; decide +kernel
theorem ratT_nb {q : Rat} (h : q ≠ 0) : ((ratT q).toList == [48]) = false := by rw [ratT_is0]; exact decide_eq_false h
set_option maxHeartbeats 16000000 in
set_option maxRecDepth 100000 in
theorem rDet_any {k : Nat} : ∀ (n : Nat) (m : List (List Rat)) (v : Value) (w : World), Rows Value.string w v (textM m) → Rect m n n → (∀ r ∈ m, ∀ q ∈ r, RB k q) → detB k n ≤ 300000 → n ≤ 40 →
    Calls Tryz.prog 13 #[v] w fun e w' => e = .returned (.string (ratT (detL n m))) ∧ Ext w w' := by
  intro n
  induction n with
  | zero =>
    intro m v w hv hr _ _ _
    obtain ⟨us, hrow, hul, _⟩ := hv
    have h0 : us.length = 0 := by rw [hul]; unfold textM; rw [List.length_map, hr.len]
    obtain rfl : us = [] := List.eq_nil_of_length_eq_zero h0
    obtain ⟨ao, c, rfl, _, _, _, _⟩ := hrow
    simp only [List.length_nil]
    have hres : ratT (detL 0 m) = ⟨#[49]⟩ := by show ratT 1 = _; decide +kernel
    rw [hres]
    clear hul h0 hr hres
    go_enter Tryz.func13, Tryz.ntmps13
    go_wp2_with fail
    go_ret
    exact ⟨rfl, Ext.refl _⟩
  | succ n ih =>
    intro m v w hv hr hq hB hn
    cases m with
    | nil => have := hr.len; simp at this
    | cons r0 t0 =>
    have hw0 := hr.wide r0 (List.mem_cons_self ..)
    have hBd : detB k (n + 1) = 1 + (n + 1) * (k + detB k n + 1) := rfl
    obtain ⟨D, hD⟩ : ∃ D, detB k n = D := ⟨_, rfl⟩
    rw [hD] at hBd
    have hm1 : 1 * (k + D + 1) ≤ (n + 1) * (k + D + 1) := Nat.mul_le_mul_right _ (by omega)
    have hBn : detB k n ≤ 300000 := by rw [hD]; omega
    have HIH : Hid (∀ i, i < n + 1 → ∀ u W, Rows Value.string W u (textM (minL (r0 :: t0) i)) → Calls Tryz.prog 13 #[u] W fun e w' => e = .returned (.string (ratT (detL n (minL (r0 :: t0) i)))) ∧ Ext W w') := fun i hi u W hW => ih (minL (r0 :: t0) i) u W hW (hr.min hi) (minL_mem hq) hBn (by omega)
    have HDR : Hid (∀ i, i < n + 1 → RB D (detL n (minL (r0 :: t0) i))) := fun i hi => by rw [← hD]; exact detL_RB n _ (hr.min hi) (minL_mem hq)
    have HMI : Hid (∀ i, i < n + 1 → ∀ W, Ext w W → Calls Tryz.prog 41 #[v, .int .i64 0, .int .i64 (i : Int)] W fun e w' => ∃ u, e = .returned u ∧ Rows Value.string w' u (textM (minL (r0 :: t0) i)) ∧ Ext W w') := fun i hi W hx => by
      have := minor_any v (textM (r0 :: t0)) i (n + 1) W (hv.ext hx) (fun l hl => by
        unfold textM at hl
        obtain ⟨s, hs, rfl⟩ := List.mem_map.1 hl
        rw [List.length_map]; exact hr.wide s hs) hi (by omega) (by unfold textM; rw [List.length_map, hr.len]; omega)
      rwa [minS_text] at this
    have HQ0 : Hid (∀ q ∈ r0, RB k q) := hq r0 (List.mem_cons_self ..)
    have hres : detL (n + 1) (r0 :: t0) = lapG (fun j => detL n (minL (r0 :: t0) j)) r0 0 0 := rfl
    obtain ⟨F, hF⟩ : ∃ F, detL (n + 1) (r0 :: t0) = F := ⟨_, rfl⟩
    rw [hF] at hres ⊢
    have HF : Hid (lapG (fun j => detL n (minL (r0 :: t0) j)) r0 0 0 = F) := hres.symm
    have hmn : (textM (r0 :: t0)).length = n + 1 := by unfold textM; rw [List.length_map, hr.len]
    obtain ⟨us, hrow, hul, hel⟩ := hv
    have hun : us.length = n + 1 := by rw [hul, hmn]
    obtain ⟨ao, c, rfl, _, hlen, _, hc⟩ := hrow
    obtain ⟨u0, d1, _, _⟩ := get_lt (xs := us) (k := 0) (by omega)
    obtain ⟨b, off, rfl, hc0⟩ := hc 0 u0 d1.out
    have hcell : w.cell? ⟨b, off, none⟩ = some u0 := hc0
    have hst := hel 0 u0 (r0.map ratT) d1.out rfl
    obtain ⟨bo, rc, rfl, hl1, hC⟩ := hst.open
    have hrl : (r0.map ratT).length = n + 1 := by rw [List.length_map, hw0]
    rw [hrl] at hcell
    rw [hun] at HMI ⊢
    have HCC := Lib.hid hC
    have HRL : Hid (r0.length = n + 1) := hw0
    have h0 : (((n + 1 : Nat) : Int) == 0) = false := by rw [beq_eq_false_iff_ne]; omega
    have hpos : 0 < n + 1 := by omega
    have hni : ((n + 1 : Nat) : Int) ≤ 40 := by omega
    have HBK : Hid (1 + (n + 1) * (k + D + 1) ≤ 300000) := by show _ ≤ _; rw [← hBd]; exact hB
    obtain ⟨wo, rfl⟩ : ∃ wo : World, wo = w := ⟨_, rfl⟩
    clear hc hel hst hul hun hmn hr hq hB hBn hBd hD hm1 hres hF hw0 d1 hc0 hC hrl ih hn
    generalize n + 1 = N at *
    have hN0 : ¬ N = 0 := by omega
    have hNi : (0 : Int) < (N : Int) := by omega
    go_enter Tryz.func13, Tryz.ntmps13
    go_wp2_with fail
    go_loopw [3, 14] (fun ov iv wr => ∃ (i : Nat) (a : Rat), i ≤ N ∧ iv = .int .i64 i ∧ ov = .string (ratT a) ∧ Hid (lapG (fun j => detL n (minL (r0 :: t0) j)) (r0.drop i) i a = F) ∧ Hid (RB (1 + i * (k + D + 1)) a) ∧ Ext wo wr) (fun _ iv _ => N - (intOf iv).toNat)
    case atStart => exact ⟨0, 0, Nat.zero_le _, rfl, by rw [ratT_zero], HF, RB_zero.mono (by omega), Ext.refl _⟩
    case round =>
      clear HF
      obtain ⟨i, a, hi, rfl, rfl, HL, HR, X⟩ := hrel
      by_cases hlt : i < N
      · obtain ⟨q, q1, q2, _⟩ := get_lt (xs := r0) (k := i) (by rw [HRL.out]; exact hlt)
        have hq1 : Hid ((r0.map ratT)[i]? = some (ratT q)) := by show _ = _; rw [List.getElem?_map, q1.out]; rfl
        obtain ⟨rb, roff, rfl, hcq⟩ := (HCC.out.ext X).at hq1
        have hii : (i : Int) < (N : Int) := by omega
        have hLn := HL.out
        rw [q2.out, lapG] at hLn
        have hstep : (i + 1) * (k + D + 1) = i * (k + D + 1) + (k + D + 1) := Nat.succ_mul ..
        have hle : (i + 1) * (k + D + 1) ≤ N * (k + D + 1) := Nat.mul_le_mul_right _ hlt
        have hbk := HBK.out
        have hbb : i * (k + D + 1) + k + D + 2 ≤ 300000 := by omega
        have hrbq := HQ0.out q (List.mem_of_getElem? q1.out)
        have hrbd := HDR.out i hlt
        by_cases hq0 : q = 0
        · have ht := ratT_0 hq0
          rw [if_pos hq0] at hLn
          have HLA := Lib.hid hLn
          have HRB : Hid (RB (1 + (i + 1) * (k + D + 1)) a) := by show RB _ _; exact HR.out.mono (by omega)
          generalize ratT q = T at *
          clear hq1 q1 q2 hLn hstep hle hbk hbb hrbq hrbd hq0 hlt
          go_wp2_with fail
          go_roundw
          case rel => exact ⟨i + 1, a, by omega, by go_num, rfl, HLA, HRB, X⟩
          case measure => simp [intOf] <;> omega
        · have ht := ratT_nb hq0
          rw [if_neg hq0] at hLn
          have HMI2 := Lib.hid (HMI.out i hlt)
          have HDI := Lib.hid (HIH.out i hlt)
          generalize detL n (minL (r0 :: t0) i) = dv at *
          have HMU := Lib.hid (fun W => rMul_any (k := k) (m := D) (by omega) hrbq hrbd W)
          have hrm := RB_mul hrbq hrbd
          obtain ⟨p, hp⟩ : ∃ p, q * dv = p := ⟨_, rfl⟩
          rw [hp] at HMU hrm hLn
          have HRM := Lib.hid hrm
          by_cases hev : i % 2 = 1
          · have hme : ((i : Int) % 2 == 1) = true := by rw [beq_iff_eq]; omega
            have hsg : sgnN i = -1 := by unfold sgnN; rw [if_neg (by omega)]
            have HNG := Lib.hid (fun W => rNeg_any (k := k + D) (by omega) HRM.out W)
            have e1 : a + sgnN i * p = a + -p := by rw [hsg]; grind
            rw [e1] at hLn
            have HAD := Lib.hid (fun W => rAdd_any (k := 1 + i * (k + D + 1)) (m := k + D) (by omega) HR.out (RB_neg HRM.out) W)
            have HLA := Lib.hid hLn
            have HRB : Hid (RB (1 + (i + 1) * (k + D + 1)) (a + -p)) := by show RB _ _; exact (RB_add HR.out (RB_neg HRM.out)).mono (by omega)
            generalize a + -p = a2 at *
            generalize -p = pn at *
            generalize ratT q = T at *
            clear hq1 q1 q2 hLn hstep hle hbk hbb hrbq hrbd hq0 hlt hrm hp hsg e1 hev
            go_wp2_with fail
            refine (HMI2.out _ X).mono ?_
            rintro e w3 ⟨u3, rfl, h3, X3⟩
            have HD3 := Lib.hid (HDI.out u3 w3 h3)
            obtain ⟨us3, hr3, z1, z2⟩ := h3
            clear z1 z2
            obtain ⟨ao3, c3, rfl, z3⟩ := hr3
            clear z3
            have Y3 := X.trans X3
            go_wp2_with fail
            refine HD3.out.mono ?_
            rintro e w4 ⟨rfl, X4⟩
            have Y4 := Y3.trans X4
            go_wp2_with fail
            refine (HMU.out _).mono ?_
            rintro e w5 ⟨rfl, X5⟩
            have Y8 := Y4.trans X5
            go_wp2_with fail
            refine (HNG.out _).mono ?_
            rintro e w6 ⟨rfl, X6⟩
            have Y8 := Y8.trans X6
            go_wp2_with fail
            refine (HAD.out _).mono ?_
            rintro e w9 ⟨rfl, X9⟩
            have Y9 := Y8.trans X9
            go_wp2_with fail
            go_roundw
            case rel => exact ⟨i + 1, _, by omega, by go_num, rfl, HLA, HRB, Y9⟩
            case measure => simp [intOf] <;> omega
          · have hme : ((i : Int) % 2 == 1) = false := by rw [beq_eq_false_iff_ne]; omega
            have hsg : sgnN i = 1 := by unfold sgnN; rw [if_pos (by omega)]
            have e1 : a + sgnN i * p = a + p := by rw [hsg]; grind
            rw [e1] at hLn
            have HAD := Lib.hid (fun W => rAdd_any (k := 1 + i * (k + D + 1)) (m := k + D) (by omega) HR.out HRM.out W)
            have HLA := Lib.hid hLn
            have HRB : Hid (RB (1 + (i + 1) * (k + D + 1)) (a + p)) := by show RB _ _; exact (RB_add HR.out HRM.out).mono (by omega)
            generalize a + p = a2 at *
            generalize ratT q = T at *
            clear hq1 q1 q2 hLn hstep hle hbk hbb hrbq hrbd hq0 hlt hrm hp hsg e1 hev
            go_wp2_with fail
            refine (HMI2.out _ X).mono ?_
            rintro e w3 ⟨u3, rfl, h3, X3⟩
            have HD3 := Lib.hid (HDI.out u3 w3 h3)
            obtain ⟨us3, hr3, z1, z2⟩ := h3
            clear z1 z2
            obtain ⟨ao3, c3, rfl, z3⟩ := hr3
            clear z3
            have Y3 := X.trans X3
            go_wp2_with fail
            refine HD3.out.mono ?_
            rintro e w4 ⟨rfl, X4⟩
            have Y4 := Y3.trans X4
            go_wp2_with fail
            refine (HMU.out _).mono ?_
            rintro e w5 ⟨rfl, X5⟩
            have Y8 := Y4.trans X5
            go_wp2_with fail
            refine (HAD.out _).mono ?_
            rintro e w9 ⟨rfl, X9⟩
            have Y9 := Y8.trans X9
            go_wp2_with fail
            go_roundw
            case rel => exact ⟨i + 1, _, by omega, by go_num, rfl, HLA, HRB, Y9⟩
            case measure => simp [intOf] <;> omega
      · have hin : N = i := by omega
        have hL := HL.out
        rw [← hin, ← HRL.out, List.drop_length, lapG] at hL
        have HAF := Lib.hid hL
        clear hin hL HL
        go_wp2_with fail
        go_ret
        exact ⟨by rw [← HAF.out]; rfl, X⟩
end Go.Proofs.YtnfmknjhkpgppaaGreatDoor
/- plain: the elimination runs to its end; the numbers of a small system are short -/
namespace Go.Proofs.YtnfmknjhkpgppaaGreatDoor
open Go.RowKit
set_option linter.unusedVariables false

theorem red_run {n w x : Nat} {A : List (List Int)} {c0 : Nat → Nat} (h0 : RedZ n w x A A 0 c0 1 false 0) {m : Nat} (hm : m ≤ w) :
    ∀ t, t ≤ m → ∃ M k c d neg cur, RedZ n w x A M k c d neg cur ∧ cur ≤ t ∧ (cur = t ∨ k = n)
  | 0, _ => ⟨A, 0, c0, 1, false, 0, h0, Nat.le_refl _, .inl rfl⟩
  | t + 1, ht => by
    obtain ⟨M, k, c, d, neg, cur, h, h1, h2⟩ := red_run h0 hm t (by omega)
    by_cases hk : k = n
    · exact ⟨M, k, c, d, neg, cur, h, by omega, .inr hk⟩
    · have hcur : cur = t := by
        rcases h2 with h2 | h2
        · exact h2
        · exact absurd h2 hk
      have hkn : k < n := by have := h.kn; omega
      by_cases hz : ∀ i, k ≤ i → i < n → atZ M i cur = 0
      · exact ⟨M, k, c, d, neg, cur + 1, h.skip (by omega) hz, by omega, .inl (by omega)⟩
      · have hex : ∃ i, k ≤ i ∧ i < n ∧ atZ M i cur ≠ 0 :=
          Classical.byContradiction fun hn => hz fun i a b => Classical.byContradiction fun e => hn ⟨i, a, b, e⟩
        obtain ⟨i, a, b, hne⟩ := hex
        by_cases hik : i = k
        · subst hik
          exact ⟨_, _, _, _, _, _, h.elim hkn (by omega) hne, by omega, .inl (by omega)⟩
        · have hs := h.swap (i := i) (by omega) b
          have hp : atZ (swapZ M i k) k cur ≠ 0 := by
            intro e
            have e2 := congrFun (congrFun (swapZ_at (M := M) (i := i) (k := k) (by rw [h.rect.len]; exact b) (by rw [h.rect.len]; omega) hik) k) cur
            have e3 : swpR (atR M) k i k cur = atR M i cur := by
              unfold swpR
              rw [if_pos rfl]
            rw [e3] at e2
            have e4 : ((atZ (swapZ M i k) k cur : Int) : Rat) = ((atZ M i cur : Int) : Rat) := e2
            rw [e] at e4
            exact hne (Rat.intCast_inj.1 e4).symm
          exact ⟨_, _, _, _, _, _, hs.elim hkn (by omega) hp, by omega, .inl (by omega)⟩
theorem pow_bd {n K : Nat} (hn : n ≤ 5) {z : Int} (hz : z.natAbs ≤ (n * 10 ^ K) ^ n) : z.natAbs < 10 ^ ((1 + K) * 5 + 1) := by
  have h1 : n * 10 ^ K ≤ 10 ^ (1 + K) := by
    rw [Nat.pow_add]
    exact Nat.mul_le_mul_right _ (by omega)
  have h2 : (n * 10 ^ K) ^ n ≤ (10 ^ (1 + K)) ^ n := Nat.pow_le_pow_left h1 n
  have h3 : (10 ^ (1 + K)) ^ n ≤ (10 ^ (1 + K)) ^ 5 := Nat.pow_le_pow_right (Nat.pow_pos (by omega)) hn
  rw [← Nat.pow_mul 10 (1 + K) 5] at h3
  have h4 := Nat.pow_lt_pow_succ (a := 10) (n := (1 + K) * 5) (by omega)
  exact Nat.lt_of_le_of_lt (Nat.le_trans hz (Nat.le_trans h2 h3)) h4
theorem RB_intk {z : Int} {k : Nat} (hz : z.natAbs < 10 ^ k) (hk : 1 ≤ k) : RB k (z : Rat) := by
  refine ⟨by rw [Rat.num_intCast]; exact hz, ?_⟩
  rw [Rat.den_intCast]
  exact Nat.one_lt_pow (by omega) (by omega)
theorem sys_RB {rows : List (List Rat)} {n m : Nat} (hr : Rect rows n (m + 1)) (hn : 1 ≤ n) (hn5 : n ≤ 5) (hm : m ≤ 5) (hq : ∀ r ∈ rows, ∀ q ∈ r, RB 12 q) {xs : List Rat} (h : sysL m rows = some xs) : ∀ q ∈ xs, RB 1000 q := by
  have h0 := RedZ.start (wholeM_rect hr) (wholeM_bd hr hq rfl) (hx_pos hn) id
  obtain ⟨M, k, c, d, neg, cur, hR, h1, h2⟩ := red_run h0 (m := m) (by omega) m (Nat.le_refl _)
  have hkc := hR.kc
  by_cases hex : ∃ i, k ≤ i ∧ i < n ∧ atZ M i m ≠ 0
  · obtain ⟨i, a, b, hne⟩ := hex
    rw [hR.sysNone hr.len h2 a b hne] at h
    cases h
  · by_cases hkm : k < m
    · rw [hR.sysMany hr.len h1 h2 hkm] at h
      cases h
    · obtain rfl : k = m := by omega
      rw [hR.sols hr.len h1 (fun i a b => Classical.byContradiction fun e => hex ⟨i, a, b, e⟩)] at h
      cases h
      intro q hqm
      obtain ⟨t, ht, rfl⟩ := List.mem_map.1 hqm
      have htk := List.mem_range.1 ht
      have hkn := hR.kn
      have b1 := pow_bd hn5 (hR.num (i := t) (j := k) (by omega) (by omega))
      have b2 := pow_bd hn5 hR.dnum
      have hE : 1 ≤ (1 + (12 + (1 + 12 * (k + 1)))) * 5 + 1 := by omega
      rw [Rat.divInt_eq_div]
      refine (RB_div (by rw [Rat.num_intCast]; exact hR.dne) (RB_intk b1 hE) (RB_intk b2 hE)).mono ?_
      omega
theorem det_RB {rows : List (List Rat)} {n : Nat} (hr : Rect rows n n) (hn5 : n ≤ 5) (hq : ∀ r ∈ rows, ∀ q ∈ r, RB 12 q) : RB 1000 (detL n rows) := by
  by_cases hn : n = 0
  · subst hn
    exact (show RB 1 1 from ⟨by decide +kernel, by decide +kernel⟩).mono (by omega)
  · have h0 := RedZ.start (wholeM_rect hr) (wholeM_bd hr hq rfl) (hx_pos (by omega)) id
    obtain ⟨M, k, c, d, neg, cur, hR, h1, h2⟩ := red_run h0 (m := n) (Nat.le_refl _) n (Nat.le_refl _)
    by_cases hk : k < n
    · rw [hR.det0 hr (Nat.le_refl _) h1 h2 hk]
      exact RB_zero.mono (by omega)
    · obtain rfl : k = n := by have := hR.kn; omega
      rw [← hR.detD hr h1]
      have b2 := pow_bd hn5 hR.dnum
      have b3 := facP_lt (k := 12) (m := k) rows fun r hr2 => ⟨by rw [hr.wide r hr2]; exact Nat.le_refl _, hq r hr2⟩
      rw [hr.len] at b3
      obtain ⟨E, hE⟩ : ∃ E : Nat, E = 1000 := ⟨_, rfl⟩
      rw [← hE]
      have hd : (if neg = true then -d else d).natAbs < 10 ^ E := by
        have : (if neg = true then -d else d).natAbs = d.natAbs := by
          cases neg
          · rfl
          · exact Int.natAbs_neg d
        rw [this]
        exact pow_mono b2 (by omega)
      have hf : facP rows < 10 ^ E := pow_mono b3 (by have : (1 + 12 * k) * k ≤ 61 * 5 := Nat.mul_le_mul (by omega) hn5; omega)
      have hp := facP_pos rows
      exact RB_divInt (by omega) hd hf
end Go.Proofs.YtnfmknjhkpgppaaGreatDoor
