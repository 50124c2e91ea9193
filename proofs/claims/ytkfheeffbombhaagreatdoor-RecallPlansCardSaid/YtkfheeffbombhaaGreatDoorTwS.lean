/- texts merged: StepApp Wgt Two -/
import Derived.Test.YtkfheeffbombhaaGreatDoorLibB
import Derived.Test.YtkfheeffbombhaaGreatDoorSlB
import Derived.Test.YtkfheeffbombhaaGreatDoorNatZ
import Derived.Laws.CopyOwn
/- append in a region that draws -/
namespace Go.Proofs.YtkfheeffbombhaaGreatDoor
open Go.RowKit
set_option linter.unusedVariables false

/-- append in a region that draws -/
theorem step_app {P : Program} {ops : Array Oper} {o : Oper} {a : Act} {w : World} {K : Act → World → Prop} {Q : Exit → Act → World → Prop} {E : Prop} (hg : o.guard = none) {s x : Operand} {t e : TypeId} {z : Value} {sz bytes : Nat}
    (ho : o.op = .call { callee := .builtin .append, args := #[s, x], argTypes := #[t, t] }) (ei : EI P t e z sz bytes) {B : Nat} {v : Value} {n : Nat} {xs : List Value} (hs : a.eval s = v)
    (hown : w.ownsRow B e sz v n xs) {u : Value} {m : Nat} {news : List Value} (hx : a.eval x = u) (hsrc : Src w u m sz news) (hlen : n + m ≤ 17592186044416) (hby : (n + m) * bytes ≤ 140737488355328) (hB : B ≤ w.heap.size)
    (h : ∀ v' w', w'.ownsRow B e sz v' (n + m) (xs ++ news) → Grew w v w' v' → K (a.put o.dst v') w') : if Region.wanted o (yielded ops a.tmps) = true then Oper.wp P o a w K Q else E := by
  have hw : Region.wanted o (yielded ops a.tmps) = true := by simp [Region.wanted, hg]
  rw [if_pos hw]
  obtain ⟨v', w', hr, h2, h3⟩ := run_app (P := P) (ty := o.type) ei hown hsrc hlen hby hB
  unfold Oper.wp execOp
  simp only [ho, resolve, invoke, builtin, Sem.run_bind, Sem.run_pure, Result.andThen_ok, List.map_toArray, List.map_cons, List.map_nil, hs, hx, hr]
  exact h v' w' h2 h3

end Go.Proofs.YtkfheeffbombhaaGreatDoor
/- walk: weight -/
namespace Go.Proofs.YtkfheeffbombhaaGreatDoor
open Go.RowKit
set_option linter.unusedVariables false

set_option maxHeartbeats 1600000 in
set_option maxRecDepth 100000 in
theorem weight_any (v : Value) (ls : List (List ByteArray)) (w : World) (hv : Rows Value.string w v ls) :
    Calls Tryz.prog 45 #[v] w fun e w' => ∃ n, e = .returned (.int .i64 n) ∧ Ext w w' := by
  obtain ⟨wo, rfl⟩ : ∃ wo : World, wo = w := ⟨_, rfl⟩
  obtain ⟨us, hr, hul, hel⟩ := hv
  obtain ⟨ao, c, rfl, _, hlen, _, hc⟩ := hr
  have HC := Lib.hid hc
  have HEL := Lib.hid hel
  have HUL := Lib.hid hul
  clear hc hel hul
  go_enter Tryz.func45, Tryz.ntmps45
  go_wp2_with fail
  go_loopw [3, 10] (fun nv iv wr => ∃ (i : Nat) (n : Int), i ≤ us.length ∧ nv = .int .i64 n ∧ iv = .int .i64 i ∧ Ext wo wr) (fun _ iv _ => us.length - (intOf iv).toNat)
  case atStart => exact ⟨0, 0, Nat.zero_le _, rfl, rfl, Ext.refl _⟩
  case round =>
    obtain ⟨i, n, hi, rfl, rfl, X⟩ := hrel
    obtain ⟨wi, rfl⟩ : ∃ wi : World, wi = wr := ⟨_, rfl⟩
    by_cases hlt : i < us.length
    · obtain ⟨u, d1, d2, d3⟩ := get_lt hlt
      obtain ⟨l, q1, q2, q3⟩ := get_lt (xs := ls) (k := i) (by rw [← HUL.out]; exact hlt)
      obtain ⟨b, off, rfl, hc0⟩ := HC.out.ext X i u d1.out
      have hcell : wi.cell? ⟨b, off + i, none⟩ = some u := hc0
      obtain ⟨ao2, c2, rfl, hlen2, hc2⟩ := (HEL.out i u l d1.out q1.out).open
      have HC2 := Lib.hid (hc2.ext X)
      have hki : (i : Int) < (us.length : Int) := by omega
      clear hc0 hlt hc2
      go_wp2_with fail
      go_loopw [3, 16] (fun nv jv wr => ∃ (j : Nat) (n : Int), j ≤ l.length ∧ nv = .int .i64 n ∧ jv = .int .i64 j ∧ Ext wi wr) (fun _ jv _ => l.length - (intOf jv).toNat)
      case atStart => exact ⟨0, n, Nat.zero_le _, rfl, rfl, Ext.refl _⟩
      case round =>
        obtain ⟨j, m, hj, rfl, rfl, Y⟩ := hrel
        by_cases hlt2 : j < l.length
        · obtain ⟨s, e1, e2, e3⟩ := get_lt hlt2
          obtain ⟨b2, off2, rfl, hc3⟩ := (HC2.out.ext Y).at e1
          have hcell2 : wr.cell? ⟨b2, off2 + j, none⟩ = some (.string s) := hc3
          have hkj : (j : Int) < (l.length : Int) := by omega
          clear hc3 hlt2
          go_wp2_with fail
          go_roundw
          case rel => exact ⟨j + 1, _, by omega, rfl, by go_num, Y⟩
          case measure => simp [intOf]; omega
        · have hjl : l.length = j := by omega
          clear hlt2
          go_wp2_with fail
          go_roundw
          case rel => exact ⟨i + 1, _, by omega, rfl, by go_num, X.trans Y⟩
          case measure => simp [intOf]; omega
    · have hil : us.length = i := by omega
      clear hlt
      go_wp2_with fail
      go_ret
      exact ⟨_, rfl, X⟩
end Go.Proofs.YtkfheeffbombhaaGreatDoor
/- Two slices of the call's own that grow side by side. -/
namespace Go.Proofs.YtkfheeffbombhaaGreatDoor
open Go.RowKit
set_option linter.unusedVariables false

/-- two slices of the call's own that grow side by side: the first one has rows, the second one has cells; a row that waits for the first one -/
structure LR (B : Nat) (e1 e2 : TypeId) (w : World) (lv rv : Value) (ml mr : Nat) (xs : List Value) (vss : List (List Value)) (ys : List Value) (u : Value) (vs : List Value) : Prop where
  lo : w.ownsRow B e1 1 lv ml xs
  ro : w.ownsRow B e2 1 rv mr ys
  dis : ∀ k, lv.ownBlock = some k → rv.ownBlock ≠ some k
  lrow : RowsX B lv.ownBlock w xs vss
  rrow : RowsX B rv.ownBlock w xs vss
  pl : RowX lv.ownBlock w u vs
  pr : RowX rv.ownBlock w u vs
  pf : Fr B u vs

theorem LR.start (B : Nat) (e1 e2 : TypeId) (w : World) : LR B e1 e2 w (.slice none 0 0) (.slice none 0 0) 0 0 [] [] [] (.slice none 0 0) [] :=
  ⟨World.ownsRow_nil _ _ _ _, World.ownsRow_nil _ _ _ _, fun k h => by simp [Value.ownBlock] at h, RowsX.nil _ _ _, RowsX.nil _ _ _, ⟨Row.nil _, .inl rfl⟩, ⟨Row.nil _, .inl rfl⟩, .inl rfl⟩
variable {B : Nat} {e1 e2 : TypeId} {w w' : World} {lv rv : Value} {ml mr : Nat} {xs : List Value} {vss : List (List Value)} {ys : List Value} {u : Value} {vs : List Value}
theorem LR.ext (h : LR B e1 e2 w lv rv ml mr xs vss ys u vs) (he : Ext w w') : LR B e1 e2 w' lv rv ml mr xs vss ys u vs :=
  ⟨own_ext h.lo he, own_ext h.ro he, h.dis, h.lrow.ext he, h.rrow.ext he, h.pl.ext he, h.pr.ext he, h.pf⟩
theorem apart_of {a b : Option Nat} (h : ∀ k, a = some k → b ≠ some k) : b ≠ a ∨ b = none := by
  cases a with
  | none => cases b with
    | none => exact .inr rfl
    | some k => exact .inl (by simp)
  | some k => exact .inl (h k rfl)
theorem LR.stepL (h : LR B e1 e2 w lv rv ml mr xs vss ys u vs) {lv' : Value} (ho : w'.ownsRow B e1 1 lv' (ml + 1) (xs ++ [u])) (hg : Grew w lv w' lv') : LR B e1 e2 w' lv' rv (ml + 1) mr (xs ++ [u]) (vss ++ [vs]) ys u vs := by
  refine ⟨ho, own_kept h.ro hg.by' (apart_of h.dis), fun k hk => ?_, (h.lrow.snoc h.pl h.pf).grew hg, ?_, hg.row h.pl, ⟨(hg.row h.pl).1, h.pr.2⟩, h.pf⟩
  · rcases hg.blk with e | e
    · exact h.dis k (by rw [← e]; exact hk)
    · intro e2
      have := (h.ro.lt k e2).2
      have := e k hk
      omega
  · have h1 := (h.lrow.snoc h.pl h.pf).grew hg
    have h2 := h.rrow.snoc h.pr h.pf
    exact ⟨h1.len, fun i x y a b => ⟨⟨(h1.row i x y a b).1.1, (h2.row i x y a b).1.2⟩, (h1.row i x y a b).2⟩⟩
theorem LR.stepR (h : LR B e1 e2 w lv rv ml mr xs vss ys u vs) {rv' y : Value} (ho : w'.ownsRow B e2 1 rv' (mr + 1) (ys ++ [y])) (hg : Grew w rv w' rv') : LR B e1 e2 w' lv rv' ml (mr + 1) xs vss (ys ++ [y]) u vs := by
  refine ⟨own_kept h.lo hg.by' (apart_of fun k a b => h.dis k b a), ho, fun k hk => ?_, ?_, h.rrow.grew hg, ⟨(hg.row h.pr).1, h.pl.2⟩, hg.row h.pr, h.pf⟩
  · rcases hg.blk with e | e
    · rw [e]; exact h.dis k hk
    · intro e2
      have := (h.lo.lt k hk).2
      have := e k e2
      omega
  · have h1 := h.rrow.grew hg
    exact ⟨h1.len, fun i x y a b => ⟨⟨(h1.row i x y a b).1.1, (h.lrow.row i x y a b).1.2⟩, (h1.row i x y a b).2⟩⟩
/-- a cell of a block that an append does not write -/
theorem Grew.cell {v v' : Value} (h : Grew w v w' v') {B2 k j : Nat} {x : Value} (hb : ∀ k, v.ownBlock = some k → k < B2) (hk : B2 ≤ k) (hc : w.cell? ⟨k, j, none⟩ = some x) : w'.cell? ⟨k, j, none⟩ = some x :=
  h.by'.cell hc (fun e => by have := hb k (by rw [e]); omega)
/-- a source: a box of one cell -/
theorem src_cell {k : Nat} {x : Value} (h1 : x.oneCell' = true) (hc : w.cell? ⟨k, 0, none⟩ = some x) : Src w (.slice (some ⟨k, 0, none⟩) 1 1) 1 1 [x] := by
  refine ⟨_, _, rfl, rfl, by simpa using h1, fun _ => ⟨_, _, rfl, fun j y hy => ?_⟩⟩
  match j, hy with
  | 0, hy =>
    simp at hy
    subst hy
    exact hc
/-- a box of one cell that neither slice holds -/
structure Box (w : World) (lv rv : Value) (k : Nat) (x : Value) : Prop where
  cell : w.cell? ⟨k, 0, none⟩ = some x
  nl : ∀ j, lv.ownBlock = some j → j ≠ k
  nr : ∀ j, rv.ownBlock = some j → j ≠ k
theorem Box.ext {k : Nat} {x : Value} (h : Box w lv rv k x) (he : Ext w w') : Box w' lv rv k x := ⟨he.cell h.cell, h.nl, h.nr⟩
theorem Box.stepL {k : Nat} {x lv' : Value} (h : Box w lv rv k x) (hg : Grew w lv w' lv') : Box w' lv' rv k x := by
  refine ⟨hg.by'.cell h.cell (fun e => h.nl k e.symm rfl), fun j hj => ?_, h.nr⟩
  rcases hg.blk with e | e
  · exact h.nl j (by rw [← e]; exact hj)
  · have h1 := World.block_lt_of_cell? w _ h.cell
    have h2 := e j hj
    simp only at h1
    omega
theorem Box.stepR {k : Nat} {x rv' : Value} (h : Box w lv rv k x) (hg : Grew w rv w' rv') : Box w' lv rv' k x := by
  refine ⟨hg.by'.cell h.cell (fun e => h.nr k e.symm rfl), h.nl, fun j hj => ?_⟩
  rcases hg.blk with e | e
  · exact h.nr j (by rw [← e]; exact hj)
  · have h1 := World.block_lt_of_cell? w _ h.cell
    have h2 := e j hj
    simp only at h1
    omega
theorem drew_cell (w : World) (p : Addr) : w.drew.cell? p = w.cell? p := rfl
theorem heap_new (w : World) (o : Obj) : (w.alloc o).heap[w.heap.size]? = some o := by rw [← World.alloc_eq]; simp
theorem heap_new2 (w : World) (o1 o2 : Obj) : ((w.alloc o1).alloc o2).heap[w.heap.size + 1]? = some o2 := by
  have := heap_new (w.alloc o1) o2
  rwa [World.size_alloc] at this
theorem heap_old2 (w : World) (o1 o2 : Obj) : ((w.alloc o1).alloc o2).heap[w.heap.size]? = some o1 := by
  rw [Below.heap_alloc _ _ _ (by simp)]
  exact heap_new w o1
theorem cell_new2 (w : World) (o : Obj) (x : Value) (e : TypeId) : ((w.alloc o).alloc (.cells #[x] e)).cell? ⟨w.heap.size + 1, 0, none⟩ = some x := by
  have := cell_new (w.alloc o) x e
  rwa [World.size_alloc] at this
theorem cell_old2 (w : World) (o : Obj) (x : Value) (e : TypeId) : ((w.alloc (.cells #[x] e)).alloc o).cell? ⟨w.heap.size, 0, none⟩ = some x := Ext.cell ((Ext.refl _).alloc o) (cell_new w x e)
theorem LR.bx {k : Nat} {x : Value} (h : LR B e1 e2 w lv rv ml mr xs vss ys u vs) {W : World} (hk : w.heap.size ≤ k) (hc : W.cell? ⟨k, 0, none⟩ = some x) (hX : Ext W w') : Box w' lv rv k x := by
  refine ⟨hX.cell hc, fun j hj => ?_, fun j hj => ?_⟩
  · have := (h.lo.lt j hj).2; omega
  · have := (h.ro.lt j hj).2; omega
theorem LR.bxA {x : Value} {e : TypeId} (h : LR B e1 e2 w lv rv ml mr xs vss ys u vs) (hX : Ext (w.alloc (.cells #[x] e)) w') : Box w' lv rv w.heap.size x := h.bx (Nat.le_refl _) (cell_new _ _ _) hX
theorem LR.bxAd {x : Value} {e : TypeId} (h : LR B e1 e2 w lv rv ml mr xs vss ys u vs) (hX : Ext (w.alloc (.cells #[x] e)).drew w') : Box w' lv rv w.heap.size x := h.bx (W := (w.alloc (.cells #[x] e)).drew) (Nat.le_refl _) (cell_new _ _ _) hX
theorem LR.bxB {x : Value} {e : TypeId} {o : Obj} (h : LR B e1 e2 w lv rv ml mr xs vss ys u vs) (hX : Ext ((w.alloc o).alloc (.cells #[x] e)) w') : Box w' lv rv (w.heap.size + 1) x := h.bx (Nat.le_succ _) (cell_new2 _ _ _ _) hX
theorem LR.bxBd {x : Value} {e : TypeId} {o : Obj} (h : LR B e1 e2 w lv rv ml mr xs vss ys u vs) (hX : Ext ((w.alloc o).alloc (.cells #[x] e)).drew w') : Box w' lv rv (w.heap.size + 1) x := h.bx (W := ((w.alloc o).alloc (.cells #[x] e)).drew) (Nat.le_succ _) (cell_new2 _ _ _ _) hX
theorem LR.bxC {x : Value} {e : TypeId} {o : Obj} (h : LR B e1 e2 w lv rv ml mr xs vss ys u vs) (hX : Ext ((w.alloc (.cells #[x] e)).alloc o) w') : Box w' lv rv w.heap.size x := h.bx (Nat.le_refl _) (cell_old2 _ _ _ _) hX
theorem LR.bxCd {x : Value} {e : TypeId} {o : Obj} (h : LR B e1 e2 w lv rv ml mr xs vss ys u vs) (hX : Ext ((w.alloc (.cells #[x] e)).alloc o).drew w') : Box w' lv rv w.heap.size x := h.bx (W := ((w.alloc (.cells #[x] e)).alloc o).drew) (Nat.le_refl _) (cell_old2 _ _ _ _) hX
/-- append of a box's cell, in a region that draws; all that hangs on the world comes behind the operands -/
theorem step_app1 {P : Program} {ops : Array Oper} {o : Oper} {a : Act} {w : World} {K : Act → World → Prop} {Q : Exit → Act → World → Prop} {E : Prop} (hg : o.guard = none) {s x : Operand} {t e : TypeId} {z : Value} {bytes : Nat}
    (ho : o.op = .call { callee := .builtin .append, args := #[s, x], argTypes := #[t, t] }) (ei : EI P t e z 1 bytes) {v : Value} (hs : a.eval s = v) {k : Nat} (hx : a.eval x = .slice (some ⟨k, 0, none⟩) 1 1) {y : Value} (h1 : y.oneCell' = true)
    {B n : Nat} {xs : List Value} (hown : w.ownsRow B e 1 v n xs) (hc : w.cell? ⟨k, 0, none⟩ = some y) (hlen : n + 1 ≤ 17592186044416) (hby : (n + 1) * bytes ≤ 140737488355328) (hB : B ≤ w.heap.size)
    (h : ∀ v' w', w'.ownsRow B e 1 v' (n + 1) (xs ++ [y]) → Grew w v w' v' → K (a.put o.dst v') w') : if Region.wanted o (yielded ops a.tmps) = true then Oper.wp P o a w K Q else E :=
  step_app hg ho ei hs hown hx (src_cell h1 hc) hlen hby hB h
end Go.Proofs.YtkfheeffbombhaaGreatDoor
