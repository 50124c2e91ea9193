/- walks of the package deal: the table's methods -/
import Derived.Test.YtllhgkacbpgemaaDeal2
import Derived.Test.YtllhgkacbpgemaaCards3
namespace Go.Proofs.Ytllhgkacbpgemaa
open Go.RowKit

/-- a player as it lies in memory -/
structure PV where
  sealed : Bool
  opened : Bool
  mark : Int
  da : Option Addr
  dl : Nat
  dc : Nat
abbrev PV.draws (p : PV) : Value := .slice p.da p.dl p.dc
def PV.enc (p : PV) : List Value := [.bool p.sealed, .bool p.opened, .int .u64 p.mark, p.draws]
def encP (l : List PV) : List Value := l.flatMap PV.enc

theorem encP_len (l : List PV) : (encP l).length = l.length * 4 := by
  induction l with
  | nil => rfl
  | cons p l ih => simp [encP, PV.enc] at ih ⊢; omega

theorem encP_get (l : List PV) : ∀ (i : Nat) (p : PV), l[i]? = some p → ∀ f, f < 4 → (encP l)[i * 4 + f]? = p.enc[f]? := by
  induction l with
  | nil => intro i p h; simp at h
  | cons q l ih =>
    intro i p h f hf
    cases i with
    | zero =>
      simp at h; subst h
      show (q.enc ++ encP l)[_]? = _
      rw [List.getElem?_append_left (by simp [PV.enc]; omega)]
      congr 1; omega
    | succ i =>
      show (q.enc ++ encP l)[_]? = _
      rw [List.getElem?_append_right (by simp [PV.enc]; omega)]
      have := ih i p (by simpa using h) f hf
      rw [← this]
      congr 1
      simp [PV.enc]; omega

theorem encP_set (l : List PV) : ∀ (i : Nat) (p p' : PV), l[i]? = some p → ∀ f v, f < 4 → p.enc.set f v = p'.enc → (encP l).set (i * 4 + f) v = encP (l.set i p') := by
  induction l with
  | nil => intro i p p' h; simp at h
  | cons q l ih =>
    intro i p p' h f v hf he
    cases i with
    | zero =>
      simp at h; subst h
      show (q.enc ++ encP l).set _ v = p'.enc ++ encP l
      rw [List.set_append_left _ _ (by simp [PV.enc]; omega), ← he]
      congr 2; omega
    | succ i =>
      show (q.enc ++ encP l).set _ v = q.enc ++ encP (l.set i p')
      rw [List.set_append_right _ _ (by simp [PV.enc]; omega), ← ih i p p' (by simpa using h) f v hf he]
      congr 2
      simp [PV.enc]; omega

/-- a table in memory: its block, the players' block -/
structure Tab (w : World) (B tb pb : Nat) (n : Int) (l : List PV) (cheat : Int) : Prop where
  own : w.ownsRow B 78 3 (.slice (some ⟨tb, 0, none⟩) 1 1) 1 [.int .i64 n, .slice (some ⟨pb, 0, none⟩) l.length l.length, .int .i64 cheat]
  row : w.ownsRow B 83 4 (.slice (some ⟨pb, 0, none⟩) l.length l.length) l.length (encP l)
  ne : tb ≠ pb
  len : l.length ≤ 6

theorem Tab.ext {w w' : World} {B tb pb : Nat} {n : Int} {l : List PV} {cheat : Int} (h : Tab w B tb pb n l cheat) (he : Ext w w') : Tab w' B tb pb n l cheat :=
  ⟨own_ext h.own he, own_ext h.row he, h.ne, h.len⟩

theorem Tab.c0 {w : World} {B tb pb : Nat} {n : Int} {l : List PV} {cheat : Int} (h : Tab w B tb pb n l cheat) : w.cell? ⟨tb, 0, none⟩ = some (.int .i64 n) := by
  have := h.own.cells (g := tb) rfl 0 _ rfl
  simpa [Addr.add] using this
theorem Tab.c1 {w : World} {B tb pb : Nat} {n : Int} {l : List PV} {cheat : Int} (h : Tab w B tb pb n l cheat) : w.cell? ⟨tb, 1, none⟩ = some (.slice (some ⟨pb, 0, none⟩) l.length l.length) := by
  have := h.own.cells (g := tb) rfl 1 _ rfl
  simpa [Addr.add] using this
theorem Tab.c2 {w : World} {B tb pb : Nat} {n : Int} {l : List PV} {cheat : Int} (h : Tab w B tb pb n l cheat) : w.cell? ⟨tb, 2, none⟩ = some (.int .i64 cheat) := by
  have := h.own.cells (g := tb) rfl 2 _ rfl
  simpa [Addr.add] using this

theorem Tab.p {w : World} {B tb pb : Nat} {n : Int} {l : List PV} {cheat : Int} (h : Tab w B tb pb n l cheat) {i : Nat} {p : PV} (hp : Hid (l[i]? = some p)) :
    w.cell? ⟨pb, i * 4, none⟩ = some (.bool p.sealed) ∧ w.cell? ⟨pb, i * 4 + 1, none⟩ = some (.bool p.opened) ∧ w.cell? ⟨pb, i * 4 + 2, none⟩ = some (.int .u64 p.mark) ∧ w.cell? ⟨pb, i * 4 + 3, none⟩ = some p.draws := by
  refine ⟨?_, ?_, ?_, ?_⟩
  · have := h.row.cells (g := pb) rfl (i * 4 + 0) _ (encP_get l i p hp.out 0 (by omega))
    rw [Addr.add_lit] at this
    simpa using this
  · have := h.row.cells (g := pb) rfl (i * 4 + 1) _ (encP_get l i p hp.out 1 (by omega))
    rw [Addr.add_lit] at this
    simpa using this
  · have := h.row.cells (g := pb) rfl (i * 4 + 2) _ (encP_get l i p hp.out 2 (by omega))
    rw [Addr.add_lit] at this
    simpa using this
  · have := h.row.cells (g := pb) rfl (i * 4 + 3) _ (encP_get l i p hp.out 3 (by omega))
    rw [Addr.add_lit] at this
    simpa using this

set_option maxHeartbeats 400000 in
theorem stage1_any (a b : Bool) (m : Int) (d : Value) (w : World) : Calls Try.prog 77 #[.agg #[.bool a, .bool b, .int .u64 m, d]] w fun e w' => e = .returned (.bool (!a)) ∧ Ext w w' := by
  go_enter Try.func77, Try.ntmps77
  go_wp2_with fail
  go_ret
  exact ⟨rfl, (Ext.refl w).alloc _⟩

set_option maxHeartbeats 400000 in
theorem stage2_any (a b : Bool) (m : Int) (d : Value) (w : World) : Calls Try.prog 78 #[.agg #[.bool a, .bool b, .int .u64 m, d]] w fun e w' => e = .returned (.bool (!b)) ∧ Ext w w' := by
  go_enter Try.func78, Try.ntmps78
  go_wp2_with fail
  go_ret
  exact ⟨rfl, (Ext.refl w).alloc _⟩

set_option maxHeartbeats 400000 in
set_option maxRecDepth 100000 in
theorem indexFunc_players (B tb pb : Nat) (n : Int) (l : List PV) (cheat : Int) (ps : List Bool) (g : Nat) (w : World) (hv : Tab w B tb pb n l cheat) (hl : ps.length = l.length)
    (eg : ∀ args w, (callFunc g args).run Try.prog w = .ok (.enter g args) w)
    (hp : ∀ (i : Nat) (p : PV) (q : Bool) (W : World), l[i]? = some p → ps[i]? = some q → Calls Try.prog g #[.agg #[.bool p.sealed, .bool p.opened, .int .u64 p.mark, p.draws]] W fun e W' => e = .returned (.bool q) ∧ Ext W W') :
    Calls Try.prog 88 #[.slice (some ⟨pb, 0, none⟩) l.length l.length, .func (.func g) #[] #[]] w fun e w' => e = .returned (.int .i64 (idxF id ps 0)) ∧ Ext w w' := by
  have HP := Lib.hid hp; have HL := Lib.hid hl; have HV := Lib.hid hv
  have hlen := hv.len
  clear hp hl hv
  go_enter Try.func88, Try.ntmps88
  go_wp2_with fail
  go_loopw [8] (fun i wr => ∃ k : Nat, k ≤ l.length ∧ i = .int .i64 k ∧ Ext w wr ∧ Hid (idxF id (ps.drop k) k = idxF id ps 0)) (fun i _ => l.length - (intOf i).toNat)
  case atStart => exact ⟨0, Nat.zero_le _, rfl, Ext.refl _, rfl⟩
  case round =>
    obtain ⟨k, hk, rfl, HX, HI⟩ := hrel
    by_cases hlt : k < l.length
    · obtain ⟨x, h1, _, _⟩ := get_lt hlt
      obtain ⟨q, hq1, hq2, _⟩ := get_lt (xs := ps) (k := k) (by rw [HL.out]; exact hlt)
      obtain ⟨c0, c1, c2, c3⟩ := (HV.out.ext HX).p h1
      have HH := Lib.hid (HP.out k x q wr h1.out hq1.out)
      cases q
      all_goals
        go_wp2_with fail
        refine HH.out.mono ?_
        rintro e w' ⟨rfl, HB⟩
        go_wp2_with fail
      · go_roundw
        case rel => exact ⟨k + 1, by omega, by go_num, HX.trans HB, by rw [← HI.out, hq2.out]; simp [Hid, idxF]⟩
        case measure => simp [intOf]; omega
      · go_ret
        exact ⟨ret_int (by rw [← HI.out, hq2.out]; simp [idxF]), HX.trans HB⟩
    · obtain ⟨h1, _⟩ := get_ge (xs := ps) (k := k) (by rw [HL.out]; exact hlt)
      go_wp2_with fail
      go_ret
      exact ⟨ret_int (by rw [← HI.out, h1.out]; rfl), HX⟩
end Go.Proofs.Ytllhgkacbpgemaa
