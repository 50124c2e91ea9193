/- texts merged: RgA RgC RgD RgE RgF RgG RgH -/
import Derived.Test.YtjnaecicdaiimaaGreatDoorMtX
import Derived.Test.YtjnaecicdaiimaaGreatDoorRtG
import Derived.Test.YtjnaecicdaiimaaGreatDoorRtH
/- histories: pairs of ints; walks: regret.Check, historyError -/
namespace Go.Proofs.YtjnaecicdaiimaaGreatDoor
open Go.RowKit
set_option linter.unusedVariables false

def PCells (w : World) (ao : Option Addr) (ps : List (Int × Int)) : Prop := ∀ (i : Nat) (p : Int × Int), ps[i]? = some p → ∃ b off, ao = some ⟨b, off, none⟩ ∧ w.cell? ⟨b, off + i * 2, none⟩ = some (.int .i64 p.1) ∧ w.cell? ⟨b, off + i * 2 + 1, none⟩ = some (.int .i64 p.2)
theorem PCells.ext {w w' : World} {ao : Option Addr} {ps : List (Int × Int)} (h : PCells w ao ps) (hx : Ext w w') : PCells w' ao ps := fun i p hp => by
  obtain ⟨b, off, e, c0, c1⟩ := h i p hp
  exact ⟨b, off, e, hx.cell c0, hx.cell c1⟩
/-- a slice value that reads as pairs -/
def Prs (w : World) (v : Value) (ps : List (Int × Int)) : Prop := ∃ ao c, v = .slice ao ps.length c ∧ ps.length ≤ 17592186044416 ∧ PCells w ao ps
theorem Prs.ext {w w' : World} {v : Value} {ps : List (Int × Int)} (h : Prs w v ps) (hx : Ext w w') : Prs w' v ps := by
  obtain ⟨ao, c, h1, h2, h3⟩ := h
  exact ⟨ao, c, h1, h2, h3.ext hx⟩
def pairV (p : Int × Int) : Value := .agg #[.int .i64 p.1, .int .i64 p.2]
def badP (n k : Nat) (p : Int × Int) : Bool := decide (p.1 < 0 ∨ (n : Int) ≤ p.1 ∨ p.2 < 0 ∨ (k : Int) ≤ p.2)
def histE (m : List (List ByteArray)) (ps : List (Int × Int)) : Int := if gameE m ≠ 0 then gameE m else if 200 < ps.length then 2 else if ps.any (badP m.length (wideL m)) = true then 4 else 0
theorem gameE_zero {m : List (List ByteArray)} (h : gameE m = 0) : m.length ≤ 12 ∧ matE m = 0 ∧ 0 < wideL m ∧ wideL m ≤ 12 ∧ 0 < m.length := by
  unfold gameE at h
  by_cases h1 : 12 < m.length
  · rw [if_pos h1] at h; cases h
  rw [if_neg h1] at h
  by_cases h2 : matE m = 0
  · rw [if_neg (by simpa using h2)] at h
    by_cases h3 : wideL m = 0
    · rw [if_pos h3] at h; cases h
    rw [if_neg h3] at h
    by_cases h4 : 12 < wideL m
    · rw [if_pos h4] at h; cases h
    refine ⟨by omega, h2, by omega, by omega, ?_⟩
    cases m with
    | nil => exact absurd rfl h3
    | cons a t => simp
  · rw [if_pos h2] at h; exact absurd h h2

set_option maxHeartbeats 1600000 in
set_option maxRecDepth 100000 in
theorem indexFunc_pairs (v : Value) (ps : List (Int × Int)) (bs : List Bool) (g : Nat) (caps : Array Value) (w : World) (hv : Prs w v ps) (hl : bs.length = ps.length)
    (eg : ∀ args w, (callFunc g args).run Tryz.prog w = .ok (.enter g args) w)
    (hp : ∀ (i : Nat) (p : Int × Int) (q : Bool) (W : World), ps[i]? = some p → bs[i]? = some q → Ext w W → Calls Tryz.prog g (#[pairV p] ++ caps) W fun e W' => e = .returned (.bool q) ∧ Ext W W') :
    Calls Tryz.prog 125 #[v, .func (.func g) #[] caps] w fun e w' => e = .returned (.int .i64 (idxF id bs 0)) ∧ Ext w w' := by
  obtain ⟨ao, c, rfl, hlen, hc⟩ := hv
  have HP := Lib.hid hp; have HL := Lib.hid hl; have HC := Lib.hid hc
  clear hp hl hc
  go_enter Tryz.func125, Tryz.ntmps125
  go_wp2_with fail
  go_loopw [8] (fun i wr => ∃ k : Nat, k ≤ ps.length ∧ i = .int .i64 k ∧ Ext w wr ∧ Hid (idxF id (bs.drop k) k = idxF id bs 0)) (fun i _ => ps.length - (intOf i).toNat)
  case atStart => exact ⟨0, Nat.zero_le _, rfl, Ext.refl _, rfl⟩
  case round =>
    obtain ⟨k, hk, rfl, HX, HI⟩ := hrel
    by_cases hlt : k < ps.length
    · obtain ⟨x, h1, _, _⟩ := get_lt hlt
      obtain ⟨q, hq1, hq2, _⟩ := get_lt (xs := bs) (k := k) (by rw [HL.out]; exact hlt)
      obtain ⟨b, off, rfl, hc0, hc1⟩ := HC.out k x h1.out
      have hcell := HX.cell hc0
      have hcell1 := HX.cell hc1
      have hcall := HP.out k x q wr h1.out hq1.out HX
      obtain ⟨x1, x2⟩ := x
      unfold pairV at hcall
      dsimp only at hcell hcell1 hcall
      clear hc0 hc1
      have HH := Lib.hid hcall; clear hcall
      cases q
      all_goals
        go_wp2_with fail
        refine HH.out.mono ?_
        rintro e w' ⟨rfl, HB⟩
        go_wp2_with fail
      · go_roundw
        case rel => exact ⟨k + 1, by omega, by go_num, HX.trans HB, by rw [← HI.out, hq2.out]; simp [Hid, idxF]⟩
        case measure => simp [intOf] <;> omega
      · go_ret
        exact ⟨ret_int (by rw [← HI.out, hq2.out]; simp [idxF]), HX.trans HB⟩
    · obtain ⟨h1, _⟩ := get_ge (xs := bs) (k := k) (by rw [HL.out]; exact hlt)
      go_wp2_with fail
      go_ret
      exact ⟨ret_int (by rw [← HI.out, h1.out]; rfl), HX⟩

set_option maxHeartbeats 1600000 in
set_option maxRecDepth 100000 in
theorem containsFunc_pairs (v : Value) (ps : List (Int × Int)) (bs : List Bool) (g : Nat) (caps : Array Value) (w : World) (hv : Prs w v ps) (hl : bs.length = ps.length)
    (eg : ∀ args w, (callFunc g args).run Tryz.prog w = .ok (.enter g args) w)
    (hp : ∀ (i : Nat) (p : Int × Int) (q : Bool) (W : World), ps[i]? = some p → bs[i]? = some q → Ext w W → Calls Tryz.prog g (#[pairV p] ++ caps) W fun e W' => e = .returned (.bool q) ∧ Ext W W')
    (q : Bool) (hq : Hid (bs.any id = q)) :
    Calls Tryz.prog 95 #[v, .func (.func g) #[] caps] w fun e w' => e = .returned (.bool q) ∧ Ext w w' := by
  obtain ⟨i, hi⟩ : ∃ i, Hid (idxF id bs 0 = i) := ⟨_, rfl⟩
  have hge := idxF_ge id bs 0 (Int.le_refl _)
  rw [hi.out, hq.out] at hge
  have HC := indexFunc_pairs v ps bs g caps w hv hl eg hp
  rw [hi.out] at HC
  have hge2 := Lib.hid hge; clear hge
  have HD := Lib.hid HC; clear HC hp hl
  go_enter Tryz.func95, Tryz.ntmps95
  go_wp2_with fail
  refine HD.out.mono ?_
  rintro e w' ⟨rfl, hx⟩
  go_wp2_with fail
  go_ret
  exact ⟨ret_bool (by have := hge2.out; cases q <;> simp at this <;> simp <;> omega), hx⟩

set_option maxHeartbeats 1600000 in
set_option maxRecDepth 100000 in
theorem checkClo_any (a b : Int) (k n c g off d wd : Nat) (ao : Option Addr) (w : World) (hb : w.cell? ⟨k, 0, none⟩ = some (.slice (some ⟨g, off, none⟩) n c)) (h0 : w.cell? ⟨g, off, none⟩ = some (.slice ao wd d)) (hn : 0 < n) (q : Bool) (hq : badP n wd (a, b) = q) :
    Calls Tryz.prog 96 #[.agg #[.int .i64 a, .int .i64 b], .pointer (some ⟨k, 0, none⟩)] w fun e w' => e = .returned (.bool q) ∧ Ext w w' := by
  unfold badP at hq
  dsimp only at hq
  have hb := ((Ext.refl w).alloc (.cells #[.int .i64 a, .int .i64 b] 32)).cell hb
  have h0 := ((Ext.refl w).alloc (.cells #[.int .i64 a, .int .i64 b] 32)).cell h0
  have k1 : (w.alloc (.cells #[.int .i64 a, .int .i64 b] 32)).cell? ⟨w.heap.size, 0, none⟩ = some (.int .i64 a) := by simp [go_sem]
  have k2 : (w.alloc (.cells #[.int .i64 a, .int .i64 b] 32)).cell? ⟨w.heap.size, 1, none⟩ = some (.int .i64 b) := by simp [go_sem]
  have hni : (0 : Int) < (n : Int) := by omega
  by_cases h1 : a < 0
  · obtain rfl : q = true := by rw [← hq]; exact decide_eq_true (.inl h1)
    clear hq
    go_enter Tryz.func96, Tryz.ntmps96
    go_wp2_with fail
    go_quiet (fail)
    go_wp2_with fail
    go_ret
    exact ⟨by first | rfl | (simp; done) | (simp; omega), ((Ext.refl w).alloc _).drewN _⟩
  by_cases h2 : (n : Int) ≤ a
  · obtain rfl : q = true := by rw [← hq]; exact decide_eq_true (.inr (.inl h2))
    clear hq
    go_enter Tryz.func96, Tryz.ntmps96
    go_wp2_with fail
    go_quiet (fail)
    go_wp2_with fail
    go_ret
    exact ⟨by first | rfl | (simp; done) | (simp; omega), ((Ext.refl w).alloc _).drewN _⟩
  by_cases h3 : b < 0
  · obtain rfl : q = true := by rw [← hq]; exact decide_eq_true (.inr (.inr (.inl h3)))
    clear hq
    go_enter Tryz.func96, Tryz.ntmps96
    go_wp2_with fail
    go_quiet (fail)
    go_wp2_with fail
    go_ret
    exact ⟨by first | rfl | (simp; done) | (simp; omega), ((Ext.refl w).alloc _).drewN _⟩
  by_cases h4 : (wd : Int) ≤ b
  · obtain rfl : q = true := by rw [← hq]; exact decide_eq_true (.inr (.inr (.inr h4)))
    clear hq
    go_enter Tryz.func96, Tryz.ntmps96
    go_wp2_with fail
    go_quiet (fail)
    go_wp2_with fail
    go_ret
    exact ⟨by first | rfl | (simp; done) | (simp; omega), ((Ext.refl w).alloc _).drewN _⟩
  obtain rfl : q = false := by rw [← hq]; exact decide_eq_false (by omega)
  clear hq
  go_enter Tryz.func96, Tryz.ntmps96
  go_wp2_with fail
  go_quiet (fail)
  go_wp2_with fail
  go_ret
  exact ⟨by first | rfl | (simp; done) | (simp; omega), ((Ext.refl w).alloc _).drewN _⟩

set_option maxHeartbeats 1600000 in
set_option maxRecDepth 100000 in
theorem rgCheck_any (v u : Value) (m : List (List ByteArray)) (ps : List (Int × Int)) (w : World) (hv : Rows Value.string w v m) (hu : Prs w u ps) (hs : ∀ l ∈ m, ∀ s ∈ l, s.size ≤ 9223372036854775806) (Q : Int) (hQ : histE m ps = Q) :
    Calls Tryz.prog 47 #[v, u] w fun e w' => e = .returned (.int .i64 Q) ∧ Ext w w' := by
  have HG := Lib.hid (fun W (hx : Ext w W) => gCheck_any v m W (hv.ext hx) hs (gameE m) rfl)
  have hz := gameE_zero (m := m)
  obtain ⟨us, hr, hul, hel⟩ := hv
  obtain ⟨ao, c, rfl, _, hlen, _, hc⟩ := hr
  unfold histE at hQ
  by_cases hp : gameE m = 0
  rotate_left
  · rw [if_pos hp] at hQ
    rw [hQ] at HG hp
    have hpb : (Q != 0) = true := by simp [hp]
    clear hc hel hs hul hz hp hQ hu
    go_enter Tryz.func47, Tryz.ntmps47
    go_wp2_with fail
    refine (HG.out _ ((Ext.refl w).alloc _)).mono ?_
    rintro e w2 ⟨rfl, X2⟩
    go_wp2_with fail
    go_ret
    exact ⟨rfl, ((Ext.refl w).alloc _).trans X2⟩
  rw [if_neg (by simpa using hp)] at hQ
  obtain ⟨z1, z2, z3, z4, z5⟩ := hz hp
  rw [hp] at HG
  obtain ⟨bo, d, rfl, hul2, hpc⟩ := hu
  by_cases hp2 : 200 < ps.length
  · rw [if_pos hp2] at hQ
    subst hQ
    have hpi : (200 : Int) < (ps.length : Int) := by omega
    clear hc hel hs hul hz hpc hp2
    go_enter Tryz.func47, Tryz.ntmps47
    go_wp2_with fail
    refine (HG.out _ ((Ext.refl w).alloc _)).mono ?_
    rintro e w2 ⟨rfl, X2⟩
    go_wp2_with fail
    go_ret
    exact ⟨rfl, ((Ext.refl w).alloc _).trans X2⟩
  rw [if_neg hp2] at hQ
  have hpi : (ps.length : Int) ≤ 200 := by omega
  obtain ⟨u0, e1, _, _⟩ := get_lt (show 0 < us.length by omega)
  obtain ⟨l0, r1, _, _⟩ := get_lt (xs := m) (k := 0) z5
  obtain ⟨b, off, rfl, hc1⟩ := hc 0 u0 e1.out
  have hc1 : w.cell? ⟨b, off, none⟩ = some u0 := hc1
  obtain ⟨ao3, c3, rfl, hlen3, _⟩ := (hel 0 u0 l0 e1.out r1.out).open
  have hw : wideL m = l0.length := by unfold wideL; rw [List.headD_eq_head?_getD, List.head?_eq_getElem?, r1.out]; rfl
  rw [hw, ← hul] at hQ
  obtain ⟨q, hq⟩ : ∃ q, ps.any (badP us.length l0.length) = q := ⟨_, rfl⟩
  rw [hq] at hQ
  have XB := (Ext.refl w).alloc (.cells #[.slice (some ⟨b, off, none⟩) us.length c] 23)
  have k1 : (w.alloc (.cells #[.slice (some ⟨b, off, none⟩) us.length c] 23)).cell? ⟨w.heap.size, 0, none⟩ = some (.slice (some ⟨b, off, none⟩) us.length c) := by simp [go_sem]
  have hcl0 := XB.cell hc1
  have HCF := Lib.hid (fun (W : World) (hx : Ext (w.alloc (.cells #[.slice (some ⟨b, off, none⟩) us.length c] 23)) W) =>
    containsFunc_pairs (.slice bo ps.length d) ps (ps.map (badP us.length l0.length)) 96 #[.pointer (some ⟨w.heap.size, 0, none⟩)] W ⟨bo, d, rfl, hul2, hpc.ext (XB.trans hx)⟩ (List.length_map ..) (fun _ _ => by kernel_rfl)
    (fun i p q' W2 g1 g2 hW2 => by
      rw [List.getElem?_map, g1] at g2
      cases g2
      obtain ⟨p1, p2⟩ := p
      exact checkClo_any p1 p2 w.heap.size us.length c b off c3 l0.length ao3 W2 ((hx.trans hW2).cell k1) ((hx.trans hW2).cell hcl0) (by omega) _ rfl)
    q (by show _ = _; rw [List.any_map, ← hq]; rfl))
  clear hc hel hs hul hz hpc hp2 hw hq hc1 z1 z2 z3 z4 z5 hcl0
  cases q
  · rw [if_neg (by simp)] at hQ
    subst hQ
    go_enter Tryz.func47, Tryz.ntmps47
    go_wp2_with fail
    refine (HG.out _ XB).mono ?_
    rintro e w2 ⟨rfl, X2⟩
    have k1 := X2.cell k1
    go_wp2_with fail
    refine (HCF.out _ X2).mono ?_
    rintro e w3 ⟨rfl, X3⟩
    go_wp2_with fail
    go_ret
    exact ⟨rfl, (XB.trans X2).trans X3⟩
  · rw [if_pos rfl] at hQ
    subst hQ
    go_enter Tryz.func47, Tryz.ntmps47
    go_wp2_with fail
    refine (HG.out _ XB).mono ?_
    rintro e w2 ⟨rfl, X2⟩
    have k1 := X2.cell k1
    go_wp2_with fail
    refine (HCF.out _ X2).mono ?_
    rintro e w3 ⟨rfl, X3⟩
    go_wp2_with fail
    go_ret
    exact ⟨rfl, (XB.trans X2).trans X3⟩
end Go.Proofs.YtjnaecicdaiimaaGreatDoor
/- walks: regret.counts and its closure -/
namespace Go.Proofs.YtjnaecicdaiimaaGreatDoor
open Go.RowKit
set_option linter.unusedVariables false

theorem info_i64c : (Tryz.prog.info? 3).map (fun i => (i.zero, i.size, i.bytes)) = some (some (.int .i64 0), 1, 8) := by kernel_rfl
theorem made_listR (z : Value) (k : Nat) : (madeCells #[z] k).toList = List.replicate k z := by
  apply List.ext_getElem
  · simp [madeCells]
  · intro i h1 h2
    simp [madeCells, Nat.mod_one]
theorem own_mk (w W : World) (z : Value) (e : TypeId) (k : Nat) (hk : k ≤ 17592186044416) (hw : w.heap.size ≤ W.heap.size) :
    (W.alloc (.cells (madeCells #[z] k) e)).ownsRow w.heap.size e 1 (.slice (some ⟨W.heap.size, 0, none⟩) k k) k (List.replicate k z) := by
  have := World.ownsRow_lit (base := w.heap.size) (e := e) (size := 1) W (madeCells #[z] k) k hw (by unfold maxLen; omega) (by simp [madeCells])
  rw [made_listR] at this
  exact this
/-- whole numbers as rational ones -/
def ratsI (xs : List Int) : List Rat := xs.map fun x : Int => (x : Rat)
/-- one more at a place -/
def cntUp (xs : List Int) (k : Nat) : List Int := xs.set k (xs.getD k 0 + 1)
def cntF (sel : Int × Int → Int) (ps : List (Int × Int)) (n : Nat) : List Int := ps.foldl (fun xs p => cntUp xs (sel p).toNat) (List.replicate n 0)
theorem cnt_inv (sel : Int × Int → Int) : ∀ (ps : List (Int × Int)) (xs : List Int) (k : Nat), (∀ x ∈ xs, 0 ≤ x ∧ x ≤ k) →
    (ps.foldl (fun xs p => cntUp xs (sel p).toNat) xs).length = xs.length ∧ ∀ x ∈ ps.foldl (fun xs p => cntUp xs (sel p).toNat) xs, 0 ≤ x ∧ x ≤ (k + ps.length : Nat)
  | [], xs, k, h => ⟨rfl, by simpa using h⟩
  | p :: t, xs, k, h => by
    have h2 : ∀ x ∈ cntUp xs (sel p).toNat, 0 ≤ x ∧ x ≤ (k + 1 : Nat) := by
      intro x hx
      unfold cntUp at hx
      rcases List.mem_or_eq_of_mem_set hx with hx | rfl
      · have := h x hx; omega
      · rw [List.getD_eq_getElem?_getD]
        cases hh : xs[(sel p).toNat]? with
        | none => simp; omega
        | some y =>
          have := h y (List.mem_of_getElem? hh)
          simp only [Option.getD_some]
          omega
    obtain ⟨h3, h4⟩ := cnt_inv sel t _ _ h2
    refine ⟨by rw [List.foldl_cons, h3]; unfold cntUp; rw [List.length_set], fun x hx => ?_⟩
    have := h4 x (by rw [List.foldl_cons] at hx; exact hx)
    rw [List.length_cons]; omega
theorem cntF_len (sel : Int × Int → Int) (ps : List (Int × Int)) (n : Nat) : (cntF sel ps n).length = n := by
  have := (cnt_inv sel ps (List.replicate n 0) 0 (by intro x hx; rw [List.mem_replicate] at hx; omega)).1
  rw [List.length_replicate] at this
  exact this
theorem cntF_le (sel : Int × Int → Int) (ps : List (Int × Int)) (n : Nat) : ∀ x ∈ cntF sel ps n, 0 ≤ x ∧ x ≤ (ps.length : Nat) := by
  have := (cnt_inv sel ps (List.replicate n 0) 0 (by intro x hx; rw [List.mem_replicate] at hx; omega)).2
  rwa [Nat.zero_add] at this
theorem cntF_app (sel : Int × Int → Int) (ps : List (Int × Int)) (p : Int × Int) (n : Nat) : cntF sel (ps ++ [p]) n = cntUp (cntF sel ps n) (sel p).toNat := by unfold cntF; rw [List.foldl_append]; rfl

set_option maxHeartbeats 1600000 in
set_option maxRecDepth 100000 in
theorem numbers_any (v : Value) (xs : List Int) (w : World) (hv : Ints w v xs) (hb : ∀ x ∈ xs, 0 ≤ x ∧ x ≤ 1000000) (hl : xs.length ≤ 1000000) :
    Calls Tryz.prog 105 #[v] w fun e w' => ∃ u, e = .returned u ∧ QsO w' w.heap.size u (ratsI xs) ∧ Ext w w' := by
  obtain ⟨wo, rfl⟩ : ∃ wo : World, wo = w := ⟨_, rfl⟩
  obtain ⟨ao, c, rfl, hlen, hc⟩ := hv.open
  have HC := Lib.hid hc
  have HB := Lib.hid hb
  clear hc hv hb
  have HYL : Hid ((ratsI xs).length = xs.length) := List.length_map ..
  have HYG : Hid (∀ (i : Nat) x, xs[i]? = some x → (ratsI xs)[i]? = some (x : Rat)) := fun i x h => by unfold ratsI; rw [List.getElem?_map, h]; rfl
  generalize (ratsI xs) = ys at *
  go_enter Tryz.func105, Tryz.ntmps105
  go_wp2_with fail
  go_loopw [3, 8] (fun ov iv wr => ∃ (i : Nat), i ≤ xs.length ∧ iv = .int .i64 i ∧ Hid (QsO wr wo.heap.size ov (ys.take i)) ∧ Ext wo wr) (fun _ iv _ => xs.length - (intOf iv).toNat)
  case atStart => exact ⟨0, Nat.zero_le _, rfl, QsO.nil _ _, Ext.refl _⟩
  case round =>
    obtain ⟨i, hi, rfl, HO, X⟩ := hrel
    by_cases hlt : i < xs.length
    · obtain ⟨x, d1, d2, d3⟩ := get_lt hlt
      obtain ⟨b, off, rfl, hc0⟩ := (HC.out.ext X).at d1
      have hcell : wr.cell? ⟨b, off + i, none⟩ = some (.int .i64 x) := hc0
      have hxb := HB.out x (List.mem_of_getElem? d1.out)
      have HQ := Lib.hid (fun W => qOf_any x W (by omega) (by omega))
      have hki : (i : Int) < (xs.length : Int) := by omega
      have HTJ : Hid (ys.take (i + 1) = ys.take i ++ [(x : Rat)]) := by
        show _ = _
        obtain ⟨h2, h3⟩ := List.getElem?_eq_some_iff.1 (HYG.out i x d1.out)
        rw [List.take_succ_eq_append_getElem h2, h3]
      have HTL : Hid ((ys.take i).length ≤ 1000000) := by show _ ≤ _; rw [List.length_take]; omega
      generalize ys.take i = Y1 at *
      clear hc0 hlt hxb
      go_wp2_with fail
      refine (HQ.out _).mono ?_
      rintro e w4 ⟨u4, rfl, h4, X4⟩
      obtain ⟨s5, ao5, l5, c5, bo5, m5, d5, rfl, _, _, _⟩ := h4.opn
      have HO4 := HO.out.ext X4
      have XA := X.trans X4
      have hsz := XA.size
      clear HO
      go_wp2_with (at_builtin; refine wp_appQ (sl := .tmp 12) (x := .tmp 15) rfl rfl HO4 h4 rfl rfl rfl HTL.out hsz ?_; intro v' w' hown hgrew hclean)
      have HE := Lib.hid (QsO.grew HO4 hgrew XA (Nat.le_refl _))
      rw [← HTJ.out] at hown
      have HOW := Lib.hid hown
      go_roundw
      case rel => exact ⟨i + 1, by omega, by go_num, HOW, HE.out⟩
      case measure => simp [intOf] <;> omega
    · have hil : xs.length = i := by omega
      have hmm : ys.take i = ys := by rw [← hil, ← HYL.out]; exact List.take_length
      have HR0 := HO.out
      rw [hmm] at HR0
      have HR := Lib.hid HR0
      clear hlt hmm HO HR0
      go_wp2_with fail
      go_ret
      exact ⟨_, rfl, HR.out, X⟩

set_option maxHeartbeats 3200000 in
set_option maxRecDepth 100000 in
theorem counts_any (v u : Value) (m : List (List ByteArray)) (ps : List (Int × Int)) (w : World) (hv : Rows Value.string w v m) (hu : Prs w u ps) (hm : m.length ≤ 40) (hm0 : 0 < m.length) (hw : wideL m ≤ 40) (hp : ps.length ≤ 200) (hb : ∀ p ∈ ps, badP m.length (wideL m) p = false) :
    Calls Tryz.prog 63 #[v, u] w fun e w' => ∃ r1 r2, e = .returned (.tuple #[r1, r2]) ∧ QsV w' r1 (ratsI (cntF (·.1) ps m.length)) ∧ QsV w' r2 (ratsI (cntF (·.2) ps (wideL m))) ∧ Ext w w' := by
  obtain ⟨us, hr, hul, hel⟩ := hv
  obtain ⟨ao, c, rfl, _, hlen, _, hc⟩ := hr
  obtain ⟨bo, d, rfl, hul2, hpc⟩ := hu
  obtain ⟨u0, e1, _, _⟩ := get_lt (show 0 < us.length by omega)
  obtain ⟨l0, r1, _, _⟩ := get_lt (xs := m) (k := 0) hm0
  obtain ⟨b, off, rfl, hc1⟩ := hc 0 u0 e1.out
  have hc1 : w.cell? ⟨b, off, none⟩ = some u0 := hc1
  obtain ⟨ao3, c3, rfl, hlen3, _⟩ := (hel 0 u0 l0 e1.out r1.out).open
  have hwl : wideL m = l0.length := by unfold wideL; rw [List.headD_eq_head?_getD, List.head?_eq_getElem?, r1.out]; rfl
  rw [hwl] at hb hw ⊢
  rw [← hul] at hb hm hm0 ⊢
  have HPC := Lib.hid hpc
  have HB := Lib.hid hb
  obtain ⟨n, hn⟩ : ∃ n, us.length = n := ⟨_, rfl⟩
  obtain ⟨k, hk⟩ : ∃ k, l0.length = k := ⟨_, rfl⟩
  rw [hn] at hm hm0 HB ⊢
  rw [hk] at hw HB hc1 ⊢
  have HN1 := Lib.hid (fun (v : Value) W (h : Ints W v (cntF (·.1) ps n)) => numbers_any v _ W h (fun x hx => by have := cntF_le _ _ _ x hx; omega) (by rw [cntF_len]; omega))
  have HN2 := Lib.hid (fun (v : Value) W (h : Ints W v (cntF (·.2) ps k)) => numbers_any v _ W h (fun x hx => by have := cntF_le _ _ _ x hx; omega) (by rw [cntF_len]; omega))
  have hn0 : (0 : Int) < (n : Int) := by omega
  have hps : (ps.length : Int) ≤ 200 := by omega
  clear hc hel hul hpc hb hwl hn hk
  go_enter Tryz.func63, Tryz.ntmps63
  go_upto_region 1 with fail
  go_cut [6, 7] (fun s6 s7 wx => ∃ ga gb, s6 = .slice (some ⟨ga, 0, none⟩) n n ∧ s7 = .slice (some ⟨gb, 0, none⟩) k k ∧ w.heap.size ≤ ga ∧ w.heap.size ≤ gb ∧ ga ≠ gb ∧ Ext w wx ∧
    wx.ownsRow w.heap.size 3 1 (.slice (some ⟨ga, 0, none⟩) n n) n (List.replicate n (.int .i64 0)) ∧ wx.ownsRow w.heap.size 3 1 (.slice (some ⟨gb, 0, none⟩) k k) k (List.replicate k (.int .i64 0)))
  case first =>
    have hmk1 := fun W => run_make_row' (P := Tryz.prog) 45 3 (.int .i64 0) 8 Tryz.underlying45 info_i64c rfl .i64 .i64 n (by omega) (by omega) W
    have hmk2 := fun W => run_make_row' (P := Tryz.prog) 45 3 (.int .i64 0) 8 Tryz.underlying45 info_i64c rfl .i64 .i64 k (by omega) (by omega) W
    have hc2 := ((Ext.refl w).alloc (.cells (madeCells #[.int .i64 0] n) 3)).cell hc1
    go_region
    all_goals
      go_wp2_with fail
      go_meet
      first
        | exact ⟨w.heap.size, w.heap.size + 1, rfl, rfl, Nat.le_refl _, by omega, by omega, (((Ext.refl w).alloc _).alloc _).drew, own_ext (own_mk w w (.int .i64 0) 3 n (by omega) (Nat.le_refl _)) ((((Ext.refl _).alloc _)).drew),
            by have := own_mk w (w.alloc (.cells (madeCells #[.int .i64 0] n) 3)) (.int .i64 0) 3 k (by omega) (by simp); simp only [World.size_alloc] at this; exact own_ext this (Ext.refl _).drew⟩
        | exact ⟨w.heap.size + 1, w.heap.size, rfl, rfl, by omega, Nat.le_refl _, by omega, (((Ext.refl w).alloc _).alloc _).drew,
            by have := own_mk w (w.alloc (.cells (madeCells #[.int .i64 0] k) 3)) (.int .i64 0) 3 n (by omega) (by simp); simp only [World.size_alloc] at this; exact own_ext this (Ext.refl _).drew,
            own_ext (own_mk w w (.int .i64 0) 3 k (by omega) (Nat.le_refl _)) ((((Ext.refl _).alloc _)).drew)⟩
  case rest =>
    obtain ⟨ga, gb, rfl, rfl, hga, hgb, hgg, hxw, hO1, hO2⟩ := hcut
    go_wp2_with fail
    go_loopw [21] (fun iv wr => ∃ (i : Nat), i ≤ ps.length ∧ iv = .int .i64 i ∧ Ext w wr ∧
      Hid (wr.ownsRow w.heap.size 3 1 (.slice (some ⟨ga, 0, none⟩) n n) n ((cntF (·.1) (ps.take i) n).map (Value.int .i64))) ∧ Hid (wr.ownsRow w.heap.size 3 1 (.slice (some ⟨gb, 0, none⟩) k k) k ((cntF (·.2) (ps.take i) k).map (Value.int .i64)))) (fun iv _ => ps.length - (intOf iv).toNat)
    case atStart => exact ⟨0, Nat.zero_le _, rfl, hxw, by show World.ownsRow _ _ _ _ _ _ _; rw [List.take_zero]; unfold cntF; rw [List.foldl_nil, List.map_replicate]; exact hO1, by show World.ownsRow _ _ _ _ _ _ _; rw [List.take_zero]; unfold cntF; rw [List.foldl_nil, List.map_replicate]; exact hO2⟩
    case round =>
      obtain ⟨i, hi, rfl, X, HA, HD⟩ := hrel
      by_cases hlt : i < ps.length
      · obtain ⟨p, d1, d2, d3⟩ := get_lt hlt
        obtain ⟨b2, off2, rfl, q0, q1⟩ := HPC.out.ext X i p d1.out
        have hbp := HB.out p (List.mem_of_getElem? d1.out)
        obtain ⟨x0, y0⟩ := p
        unfold badP at hbp
        rw [decide_eq_false_iff_not] at hbp
        dsimp only at q0 q1 hbp
        obtain ⟨x, rfl⟩ : ∃ x : Nat, x0 = (x : Int) := ⟨x0.toNat, by omega⟩
        obtain ⟨y, rfl⟩ : ∃ y : Nat, y0 = (y : Int) := ⟨y0.toNat, by omega⟩
        have hxn : x < n := by omega
        have hyk : y < k := by omega
        have hxi : (x : Int) < (n : Int) := by omega
        have hyi : (y : Int) < (k : Int) := by omega
        have hki : (i : Int) < (ps.length : Int) := by omega
        have HE1 : Hid (cntF (·.1) (ps.take (i + 1)) n = cntUp (cntF (·.1) (ps.take i) n) x) := by show _ = _; rw [d3.out, cntF_app]; rfl
        have HE2 : Hid (cntF (·.2) (ps.take (i + 1)) k = cntUp (cntF (·.2) (ps.take i) k) y) := by show _ = _; rw [d3.out, cntF_app]; rfl
        have hl1 := cntF_len (·.1) (ps.take i) n
        have hl2 := cntF_len (·.2) (ps.take i) k
        have hb1 := cntF_le (·.1) (ps.take i) n
        have hb2 := cntF_le (·.2) (ps.take i) k
        have htl : (ps.take i).length ≤ 200 := by rw [List.length_take]; omega
        generalize cntF (·.1) (ps.take i) n = xs at *
        generalize cntF (·.2) (ps.take i) k = ys at *
        obtain ⟨z1, g1, _, _⟩ := get_lt (xs := xs) (k := x) (by omega)
        obtain ⟨z2, g2, _, _⟩ := get_lt (xs := ys) (k := y) (by omega)
        have zb1 := hb1 z1 (List.mem_of_getElem? g1.out)
        have zb2 := hb2 z2 (List.mem_of_getElem? g2.out)
        have hz1 : -1 ≤ z1 := by omega
        have hz1b : z1 ≤ 200 := by omega
        have hz2 : -1 ≤ z2 := by omega
        have hz2b : z2 ≤ 200 := by omega
        have hgaw : ga < wr.heap.size := (HA.out.lt ga rfl).2
        have hgbw : gb < wr.heap.size := (HD.out.lt gb rfl).2
        obtain ⟨T7, hT7⟩ : ∃ T7, wr.heap.size = T7 := ⟨_, rfl⟩
        obtain ⟨W1, hW1⟩ : ∃ W1, wr.alloc (.cells #[.int .i64 (x : Int), .int .i64 (y : Int)] 32) = W1 := ⟨_, rfl⟩
        have X1 : Ext wr W1 := by rw [← hW1]; exact (Ext.refl wr).alloc _
        have k1 : W1.cell? ⟨T7, 0, none⟩ = some (.int .i64 (x : Int)) := by rw [← hW1, ← hT7]; simp [go_sem]
        have k2 : W1.cell? ⟨T7, 1, none⟩ = some (.int .i64 (y : Int)) := by rw [← hW1, ← hT7]; simp [go_sem]
        have hA := own_ext HA.out X1
        rw [hT7] at hgaw hgbw
        have a0 := own_cell hA (j := x) (x := .int .i64 z1) (by show _ = _; rw [List.getElem?_map, g1.out]; rfl)
        have af := hA.frozenAt x
        have sA := hA.stored x (.int .i64 (z1 + 1))
        have hB2 := (own_ext HD.out X1).kept sA.2 (.inr (by simp [Value.ownBlock]; omega))
        have b0 := own_cell hB2 (j := y) (x := .int .i64 z2) (by show _ = _; rw [List.getElem?_map, g2.out]; rfl)
        have bf := hB2.frozenAt y
        have kk2 := sA.2.cell k2 (fun e => by simp at e; omega)
        have sB := hB2.stored y (.int .i64 (z2 + 1))
        have hA3 := Lib.hid (sA.1.kept sB.2 (.inr (by simp [Value.ownBlock]; omega)))
        have hB3 := Lib.hid sB.1
        have XR := Lib.hid (((X.trans X1).grown sA.2 hga).grown sB.2 hgb)
        have HF1 : Hid (((xs.map (Value.int .i64)).set x (.int .i64 (z1 + 1))) = (cntF (·.1) (ps.take (i + 1)) n).map (Value.int .i64)) := by
          show _ = _
          rw [HE1.out, cntUp, List.getD_eq_getElem?_getD, g1.out, List.map_set]
          rfl
        have HF2 : Hid (((ys.map (Value.int .i64)).set y (.int .i64 (z2 + 1))) = (cntF (·.2) (ps.take (i + 1)) k).map (Value.int .i64)) := by
          show _ = _
          rw [HE2.out, cntUp, List.getD_eq_getElem?_getD, g2.out, List.map_set]
          rfl
        clear hb1 hb2 hbp hl1 hl2 htl hlt sA sB hA hB2 zb1 zb2 X1 hO1 hO2
        go_wp2_with fail
        go_roundw
        case rel => exact ⟨i + 1, by omega, by go_num, XR.out, by show World.ownsRow _ _ _ _ _ _ _; rw [← HF1.out]; exact hA3.out, by show World.ownsRow _ _ _ _ _ _ _; rw [← HF2.out]; exact hB3.out⟩
        case measure => simp [intOf] <;> omega
      · have hil : ps.length = i := by omega
        have hmm : ps.take i = ps := by rw [← hil]; exact List.take_length
        have HA1 := HA.out
        have HD1 := HD.out
        rw [hmm] at HA1 HD1
        have I1 : Ints wr (.slice (some ⟨ga, 0, none⟩) n n) (cntF (·.1) ps n) := own_rowOf HA1 (by omega)
        have I2 : Ints wr (.slice (some ⟨gb, 0, none⟩) k k) (cntF (·.2) ps k) := own_rowOf HD1 (by omega)
        have HI1 := Lib.hid I1
        have HI2 := Lib.hid I2
        clear hlt hmm HA1 HD1 HA HD I1 I2 hO1 hO2
        go_wp2_with fail
        refine (HN1.out _ _ HI1.out).mono ?_
        rintro e w4 ⟨u4, rfl, h4, X4⟩
        go_wp2_with fail
        refine (HN2.out _ _ (HI2.out.ext X4)).mono ?_
        rintro e w5 ⟨u5, rfl, h5, X5⟩
        go_wp2_with fail
        go_ret2
        exact ⟨_, _, rfl, (h4.toV (by unfold ratsI; rw [List.length_map, cntF_len]; omega)).ext X5, h5.toV (by unfold ratsI; rw [List.length_map, cntF_len]; omega), (X.trans X4).trans X5⟩
end Go.Proofs.YtjnaecicdaiimaaGreatDoor
/- walk: regret.sums -/
namespace Go.Proofs.YtjnaecicdaiimaaGreatDoor
open Go.RowKit
set_option linter.unusedVariables false

theorem ratOf_RBk {s : ByteArray} (k : Nat) (h : RatOk s) (hk : 2000 ≤ k) : RB k (ratOf s) := by
  obtain ⟨p1, p2⟩ := ratOf_parts h
  have hn : numB (numT s) < 10 ^ k := Nat.lt_of_lt_of_le (decF_lt (natB_iff.1 h.n1).1) (Nat.pow_le_pow_right (by omega) (by rw [bsz]; exact Nat.le_trans h.n2 hk))
  refine ⟨by rw [p1, sg_abs]; exact hn, ?_⟩
  rw [p2]
  unfold denN
  split
  · rename_i hd
    exact Nat.lt_of_lt_of_le (decF_lt (natB_iff.1 (h.d1 hd)).1) (Nat.pow_le_pow_right (by omega) (by rw [bsz]; exact Nat.le_trans (h.d2 hd) hk))
  · exact Nat.one_lt_pow (by omega) (by omega)
theorem ratOf_RB2k {s : ByteArray} (h : RatOk s) : RB 2000 (ratOf s) := ratOf_RBk 2000 h (Nat.le_refl _)
theorem ratsI_RB {xs : List Int} (h : ∀ x ∈ xs, 0 ≤ x ∧ x ≤ (200 : Nat)) : ∀ q ∈ ratsI xs, RB 3 q := by
  intro q hq
  unfold ratsI at hq
  obtain ⟨x, hx, rfl⟩ := List.mem_map.1 hq
  have := h x hx
  refine ⟨?_, ?_⟩
  · rw [Rat.num_intCast]; show _ < 1000; omega
  · rw [Rat.den_intCast]; decide
def numM (m : List (List ByteArray)) : List (List Rat) := m.map (·.map ratOf)
theorem colQ_RB {M : List (List Rat)} {k : Nat} (h : ∀ r ∈ M, ∀ q ∈ r, RB k q) (hk : 1 ≤ k) (i : Nat) : ∀ q ∈ colQ M i, RB k q := by
  intro q hq
  unfold colQ at hq
  obtain ⟨r, hr, rfl⟩ := List.mem_map.1 hq
  rw [List.getD_eq_getElem?_getD]
  cases hh : r[i]? with
  | none => exact RB_zero.mono hk
  | some x => exact h r hr x (List.mem_of_getElem? hh)
/-- what each row would have received, and each column would have paid -/
def rowsS (m : List (List ByteArray)) (ps : List (Int × Int)) : List Rat := (numM m).map (dotQ · (ratsI (cntF (·.2) ps (wideL m))))
def colsS (m : List (List ByteArray)) (ps : List (Int × Int)) : List Rat := (colsQ (numM m) (wideL m)).map (dotQ · (ratsI (cntF (·.1) ps m.length)))
/-- a matrix that is read -/
structure MatOk (m : List (List ByteArray)) : Prop where
  ok : ∀ l ∈ m, ∀ s ∈ l, RatOk s ∧ s.size ≤ 9223372036854775806
  len : m.length ≤ 40
  pos : 0 < m.length
  wide : wideL m ≤ 40
  rect : ∀ l ∈ m, l.length = wideL m

set_option maxHeartbeats 3200000 in
set_option maxRecDepth 100000 in
theorem sums_any (v u : Value) (m : List (List ByteArray)) (ps : List (Int × Int)) (w : World) (hv : Rows Value.string w v m) (hu : Prs w u ps) (hm : MatOk m) (hp : ps.length ≤ 200) (hb : ∀ p ∈ ps, badP m.length (wideL m) p = false) :
    Calls Tryz.prog 66 #[v, u] w fun e w' => ∃ r1 r2 C, e = .returned (.tuple #[r1, r2]) ∧ QsO w' w.heap.size r1 (rowsS m ps) ∧ QsO w' C r2 (colsS m ps) ∧ (∀ k, r1.ownBlock = some k → k < C) ∧ w.heap.size ≤ C ∧ Ext w w' := by
  have HCO := Lib.hid (counts_any v u m ps w hv hu hm.len hm.pos hm.wide hp hb)
  have HIN := Lib.hid (fun W (hx : Ext w W) => mIn_any v m W (hv.ext hx) hm.ok (by have := hm.len; omega) (fun l hl => by have := hm.rect l hl; have := hm.wide; omega))
  have hrb : ∀ r ∈ numM m, ∀ q ∈ r, RB 2000 q := by
    intro r hr q hq
    unfold numM at hr
    obtain ⟨l, hl, rfl⟩ := List.mem_map.1 hr
    obtain ⟨s, hs, rfl⟩ := List.mem_map.1 hq
    exact ratOf_RB2k (hm.ok l hl s hs).1
  have hrl : ∀ r ∈ numM m, r.length = wideL m := by
    intro r hr
    unfold numM at hr
    obtain ⟨l, hl, rfl⟩ := List.mem_map.1 hr
    rw [List.length_map]
    exact hm.rect l hl
  have hNL : (numM m).length = m.length := List.length_map ..
  have hCL : (colsQ (numM m) (wideL m)).length = wideL m := by unfold colsQ; rw [List.length_map, List.length_range]
  have hCM : ∀ r ∈ colsQ (numM m) (wideL m), (∀ q ∈ r, RB 2000 q) ∧ r.length = m.length := by
    intro r hr
    unfold colsQ at hr
    obtain ⟨i, hi, rfl⟩ := List.mem_map.1 hr
    exact ⟨colQ_RB hrb (by omega) i, by unfold colQ; rw [List.length_map, hNL]⟩
  have hml := hm.len
  have hmp := hm.pos
  have hmw := hm.wide
  have hB3 := ratsI_RB (xs := cntF (·.2) ps (wideL m)) (fun x hx => by have := cntF_le _ _ _ x hx; omega)
  have hA3 := ratsI_RB (xs := cntF (·.1) ps m.length) (fun x hx => by have := cntF_le _ _ _ x hx; omega)
  have hBL : (ratsI (cntF (·.2) ps (wideL m))).length = wideL m := by unfold ratsI; rw [List.length_map, cntF_len]
  have hAL : (ratsI (cntF (·.1) ps m.length)).length = m.length := by unfold ratsI; rw [List.length_map, cntF_len]
  have HD1 := Lib.hid (fun (x y : Value) (r : List Rat) W (hr : r ∈ numM m) (hx : QsV W x r) (hy : QsV W y (ratsI (cntF (·.2) ps (wideL m)))) => dotOf_any x y r _ 2000 3 W hx hy (by rw [hrl r hr, hBL]; omega) (hrb r hr) hB3 (by rw [hrl r hr]; omega))
  have HD2 := Lib.hid (fun (x y : Value) (r : List Rat) W (hr : r ∈ colsQ (numM m) (wideL m)) (hx : QsV W x r) (hy : QsV W y (ratsI (cntF (·.1) ps m.length))) => dotOf_any x y r _ 2000 3 W hx hy (by rw [(hCM r hr).2, hAL]; omega) (hCM r hr).1 hA3 (by rw [(hCM r hr).2]; omega))
  have HCS := Lib.hid (fun (x : Value) W (hx : QssV W x (numM m)) => columns_any x (numM m) (wideL m) W hx (by omega) (by omega) (fun r hr => by rw [hrl r hr]; omega))
  have HY1L : Hid ((rowsS m ps).length = m.length) := by show _ = _; unfold rowsS; rw [List.length_map, hNL]
  have HY2L : Hid ((colsS m ps).length = wideL m) := by show _ = _; unfold colsS; rw [List.length_map, hCL]
  have HY1G : Hid (∀ (i : Nat) r, (numM m)[i]? = some r → (rowsS m ps)[i]? = some (dotQ r (ratsI (cntF (·.2) ps (wideL m))))) := fun i r h => by unfold rowsS; rw [List.getElem?_map, h]; rfl
  have HY2G : Hid (∀ (i : Nat) r, (colsQ (numM m) (wideL m))[i]? = some r → (colsS m ps)[i]? = some (dotQ r (ratsI (cntF (·.1) ps m.length)))) := fun i r h => by unfold colsS; rw [List.getElem?_map, h]; rfl
  generalize rowsS m ps = y1 at *
  generalize colsS m ps = y2 at *
  generalize ratsI (cntF (·.2) ps (wideL m)) = RB1 at *
  generalize ratsI (cntF (·.1) ps m.length) = RA1 at *
  rw [show m.map (·.map ratOf) = numM m from rfl] at HIN
  generalize colsQ (numM m) (wideL m) = MC at *
  generalize numM m = MR at *
  obtain ⟨us, hr, hul, hel⟩ := hv
  obtain ⟨ao, c, rfl, _, hlen, _, hc⟩ := hr
  obtain ⟨bo, d, rfl, hul2, hpc⟩ := hu
  obtain ⟨u0, e1, _, _⟩ := get_lt (show 0 < us.length by omega)
  obtain ⟨l0, r1, _, _⟩ := get_lt (xs := m) (k := 0) hmp
  obtain ⟨b, off, rfl, hc1⟩ := hc 0 u0 e1.out
  have hc1 : w.cell? ⟨b, off, none⟩ = some u0 := hc1
  obtain ⟨ao3, c3, rfl, hlen3, _⟩ := (hel 0 u0 l0 e1.out r1.out).open
  have hwl : wideL m = l0.length := by unfold wideL; rw [List.headD_eq_head?_getD, List.head?_eq_getElem?, r1.out]; rfl
  rw [← hwl] at hc1
  have hn0 : (0 : Int) < (us.length : Int) := by omega
  obtain ⟨n, hn⟩ : ∃ n, m.length = n := ⟨_, rfl⟩
  obtain ⟨k, hk⟩ : ∃ k, wideL m = k := ⟨_, rfl⟩
  rw [hk] at hc1 HCS HY2L hCL hmw
  rw [hn] at HY1L hNL hml hul
  have HNL := Lib.hid hNL
  have HCL := Lib.hid hCL
  clear hc hel hpc hb hwl hrb hrl hCM hB3 hA3 hBL hAL hm hp hNL hCL hn hk r1 hul2 hmp hlen3 hul
  go_enter Tryz.func66, Tryz.ntmps66
  go_wp2_with fail
  refine HCO.out.mono ?_
  rintro e w1 ⟨a1, b1, rfl, hA, hB, X1⟩
  obtain ⟨ao4, c4, rfl, _, _⟩ := hA.opn
  obtain ⟨bo4, d4, rfl, _, _⟩ := hB.opn
  have HA := Lib.hid hA
  have HB := Lib.hid hB
  clear hA hB
  go_wp2_with fail
  refine (HIN.out _ X1).mono ?_
  rintro e w3 ⟨x3, rfl, hX, X3⟩
  obtain ⟨us3, hr3, hul3, hel3⟩ := hX
  have HXV := Lib.hid (show QssV w3 x3 MR from ⟨us3, hr3, hul3, hel3⟩)
  obtain ⟨ao8, c8, rfl, _, hlen8, _, hc8⟩ := hr3
  have HC3 := Lib.hid hc8
  have HEL3 := Lib.hid hel3
  have HUL3 := Lib.hid hul3
  have hl3 : us3.length ≤ 40 := by have := HNL.out; omega
  have XW3 := X1.trans X3
  have HDO1 := Lib.hid (fun (i : Nat) (x : Value) (r : List Rat) W (g1 : us3[i]? = some x) (g2 : MR[i]? = some r) (hx : Ext w3 W) => HD1.out x _ r W (List.mem_of_getElem? g2) ((hel3 i x r g1 g2).ext hx) (HB.out.ext (X3.trans hx)))
  have HA3 := Lib.hid (HA.out.ext X3)
  have hcl3 := XW3.cell hc1
  have HY1M : Hid (y1.length = MR.length) := by show _ = _; rw [HY1L.out, HNL.out]
  clear hc8 hel3 hul3 HA HB hc1 X1 X3 HD1 HCO HIN
  go_wp2_with fail
  go_loopw [9, 25] (fun ov iv wr => ∃ (i : Nat), i ≤ us3.length ∧ iv = .int .i64 i ∧ Hid (QsO wr w3.heap.size ov (y1.take i)) ∧ Ext w3 wr) (fun _ iv _ => us3.length - (intOf iv).toNat)
  case atStart => exact ⟨0, Nat.zero_le _, rfl, QsO.nil _ _, Ext.refl _⟩
  case round =>
    obtain ⟨i, hi, rfl, HO, X⟩ := hrel
    by_cases hlt : i < us3.length
    · obtain ⟨u, d1, d2, d3⟩ := get_lt hlt
      obtain ⟨qs, q1, q2, q3⟩ := get_lt (xs := MR) (k := i) (by rw [← HUL3.out]; exact hlt)
      obtain ⟨b3, off3, rfl, hc0⟩ := HC3.out.ext X i u d1.out
      have hcell : wr.cell? ⟨b3, off3 + i, none⟩ = some u := hc0
      have HDO := Lib.hid (fun W (hx : Ext w3 W) => HDO1.out i u qs W d1.out q1.out hx)
      obtain ⟨ao6, c6, rfl, _, _⟩ := (HEL3.out i u qs d1.out q1.out).opn
      have hki : (i : Int) < (us3.length : Int) := by omega
      have HTJ : Hid (y1.take (i + 1) = y1.take i ++ [dotQ qs RB1]) := by
        show _ = _
        obtain ⟨h2, h3⟩ := List.getElem?_eq_some_iff.1 (HY1G.out i qs q1.out)
        rw [List.take_succ_eq_append_getElem h2, h3]
      have HTL : Hid ((y1.take i).length ≤ 1000000) := by show _ ≤ _; rw [List.length_take]; omega
      generalize y1.take i = Y1 at *
      clear hc0 hlt
      go_wp2_with fail
      refine (HDO.out _ X).mono ?_
      rintro e w9 ⟨u9, rfl, h9, X9⟩
      obtain ⟨s5, ao5, l5, c5, bo5, m5, d5, rfl, _, _, _⟩ := h9.opn
      have HO4 := HO.out.ext X9
      have XA := X.trans X9
      have hsz := XA.size
      clear HO
      go_wp2_with (at_builtin; refine wp_appQ (sl := .tmp 29) (x := .tmp 33) rfl rfl HO4 h9 rfl rfl rfl HTL.out hsz ?_; intro v' w' hown hgrew hclean)
      have HE := Lib.hid (QsO.grew HO4 hgrew XA (Nat.le_refl _))
      rw [← HTJ.out] at hown
      have HOW := Lib.hid hown
      go_roundw
      case rel => exact ⟨i + 1, by omega, by go_num, HOW, HE.out⟩
      case measure => simp [intOf] <;> omega
    · have hil : us3.length = i := by omega
      have hmm : y1.take i = y1 := by rw [← hil, HUL3.out, ← HY1M.out]; exact List.take_length
      have HR0 := HO.out
      rw [hmm] at HR0
      have HROW := Lib.hid HR0
      have X5 := X
      clear hmm HO HR0 hil X
      have hcl5 := X5.cell hcl3
      have HXV5 := Lib.hid (HXV.out.ext X5)
      have HA5 := Lib.hid (HA3.out.ext X5)
      have XW5 := XW3.trans X5
      obtain ⟨w5, rfl⟩ : ∃ w5 : World, w5 = wr := ⟨_, rfl⟩
      clear HXV HA3 hcl3 X5 HC3 HEL3 HDO1
      go_wp2_with fail
      refine (HCS.out _ _ HXV5.out).mono ?_
      rintro e w6 ⟨x6, rfl, hX, X6⟩
      obtain ⟨us6, hr6, hul6, hel6⟩ := hX
      obtain ⟨ao9, c9, rfl, _, hlen9, _, hc9⟩ := hr6
      have HC6 := Lib.hid hc9
      have HEL6 := Lib.hid hel6
      have HUL6 := Lib.hid hul6
      have hl6 : us6.length ≤ 40 := by have := HCL.out; omega
      have XW6 := XW5.trans X6
      have HDO2 := Lib.hid (fun (i : Nat) (x : Value) (r : List Rat) W (g1 : us6[i]? = some x) (g2 : MC[i]? = some r) (hx : Ext w6 W) => HD2.out x _ r W (List.mem_of_getElem? g2) ((hel6 i x r g1 g2).ext hx) (HA5.out.ext (X6.trans hx)))
      have HROW6 := Lib.hid (HROW.out.ext X6)
      have HY2M : Hid (y2.length = MC.length) := by show _ = _; rw [HY2L.out, HCL.out]
      have hsz3 := XW3.size
      clear hc9 hel6 hul6 HA5 hcl5 HXV5 HROW HD2 HCS
      go_wp2_with fail
      go_loopw [10, 43] (fun ov iv wr => ∃ (i : Nat), i ≤ us6.length ∧ iv = .int .i64 i ∧ Hid (QsO wr w6.heap.size ov (y2.take i)) ∧ Ext w6 wr) (fun _ iv _ => us6.length - (intOf iv).toNat)
      case atStart => exact ⟨0, Nat.zero_le _, rfl, QsO.nil _ _, Ext.refl _⟩
      case round =>
        obtain ⟨i, hi, rfl, HO, X⟩ := hrel
        by_cases hlt : i < us6.length
        · obtain ⟨u, d1, d2, d3⟩ := get_lt hlt
          obtain ⟨qs, q1, q2, q3⟩ := get_lt (xs := MC) (k := i) (by rw [← HUL6.out]; exact hlt)
          obtain ⟨b3, off3, rfl, hc0⟩ := HC6.out.ext X i u d1.out
          have hcell : wr.cell? ⟨b3, off3 + i, none⟩ = some u := hc0
          have HDO := Lib.hid (fun W (hx : Ext w6 W) => HDO2.out i u qs W d1.out q1.out hx)
          obtain ⟨ao6, c6, rfl, _, _⟩ := (HEL6.out i u qs d1.out q1.out).opn
          have hki : (i : Int) < (us6.length : Int) := by omega
          have HTJ : Hid (y2.take (i + 1) = y2.take i ++ [dotQ qs RA1]) := by
            show _ = _
            obtain ⟨h2, h3⟩ := List.getElem?_eq_some_iff.1 (HY2G.out i qs q1.out)
            rw [List.take_succ_eq_append_getElem h2, h3]
          have HTL : Hid ((y2.take i).length ≤ 1000000) := by show _ ≤ _; rw [List.length_take]; omega
          generalize y2.take i = Y1 at *
          clear hc0 hlt
          go_wp2_with fail
          refine (HDO.out _ X).mono ?_
          rintro e w9 ⟨u9, rfl, h9, X9⟩
          obtain ⟨s5, ao5, l5, c5, bo5, m5, d5, rfl, _, _, _⟩ := h9.opn
          have HO4 := HO.out.ext X9
          have XA := X.trans X9
          have hsz := XA.size
          clear HO
          go_wp2_with (at_builtin; refine wp_appQ (sl := .tmp 47) (x := .tmp 51) rfl rfl HO4 h9 rfl rfl rfl HTL.out hsz ?_; intro v' w' hown hgrew hclean)
          have HE := Lib.hid (QsO.grew HO4 hgrew XA (Nat.le_refl _))
          rw [← HTJ.out] at hown
          have HOW := Lib.hid hown
          go_roundw
          case rel => exact ⟨i + 1, by omega, by go_num, HOW, HE.out⟩
          case measure => simp [intOf] <;> omega
        · have hil : us6.length = i := by omega
          have hmm : y2.take i = y2 := by rw [← hil, HUL6.out, ← HY2M.out]; exact List.take_length
          have HR0 := HO.out
          rw [hmm] at HR0
          have HCOL := Lib.hid HR0
          have X8 := X
          clear hmm HO HR0 hil X
          have HR8 := Lib.hid ((HROW6.out.ext X8).mono hsz3)
          have HK8 := Lib.hid (fun k hk => (HROW6.out.lt k hk).2)
          have XW8 := XW6.trans X8
          have hsz6 := XW6.size
          go_wp2_with fail
          go_ret2
          exact ⟨_, _, w6.heap.size, rfl, HR8.out, HCOL.out, HK8.out, hsz6, XW8⟩
end Go.Proofs.YtjnaecicdaiimaaGreatDoor
/- walks: regret.both, parts, best -/
namespace Go.Proofs.YtjnaecicdaiimaaGreatDoor
open Go.RowKit
set_option linter.unusedVariables false

/-- the texts of two vectors -/
def BothPost (qs rs : List Rat) (w : World) (e : Ending) (w' : World) : Prop := Ext w w' ∧
  ((∃ os ps u1 u2, outsG qs = some os ∧ outsG rs = some ps ∧ e = .returned (.tuple #[u1, u2, .int .i64 0]) ∧ Strs w' u1 os ∧ Strs w' u2 ps) ∨
   ((outsG qs = none ∨ outsG rs = none) ∧ e = .returned (.tuple #[.slice none 0 0, .slice none 0 0, .int .i64 2])))

set_option maxHeartbeats 1600000 in
set_option maxRecDepth 100000 in
theorem both_any (u v : Value) (qs rs : List Rat) (w : World) (htab : TabPow w) (hu : QsV w u qs) (hv : QsV w v rs) (hl : qs.length ≤ 1000000) (hl2 : rs.length ≤ 1000000) :
    Calls Tryz.prog 64 #[u, v] w (BothPost qs rs w) := by
  have H1 := Lib.hid (outAll_any u qs w htab hu hl)
  have H2 := Lib.hid (fun W (hx : Ext w W) => outAll_any v rs W (tabPow_ext htab hx) (hv.ext hx) hl2)
  unfold BothPost
  obtain ⟨ao, c, rfl, _, _⟩ := hu.opn
  obtain ⟨bo, d, rfl, _, _⟩ := hv.opn
  clear hu hv htab hl hl2
  go_enter Tryz.func64, Tryz.ntmps64
  go_wp2_with fail
  refine H1.out.mono ?_
  rintro e w1 ⟨X1, h1⟩
  rcases h1 with ⟨hn, rfl⟩ | ⟨os, u1, hn, rfl, hst⟩
  · go_wp2_with fail
    go_ret3
    exact ⟨X1, .inr ⟨.inl hn, rfl⟩⟩
  · obtain ⟨ao1, c1, rfl, _, _⟩ := hst.open
    have HS := Lib.hid hst
    clear hst
    go_wp2_with fail
    refine (H2.out _ X1).mono ?_
    rintro e w2 ⟨X2, h2⟩
    rcases h2 with ⟨hn2, rfl⟩ | ⟨os2, u2, hn2, rfl, hst2⟩
    · go_wp2_with fail
      go_ret3
      exact ⟨X1.trans X2, .inr ⟨.inr hn2, rfl⟩⟩
    · obtain ⟨ao2, c2, rfl, _, _⟩ := hst2.open
      have HS2 := Lib.hid hst2
      clear hst2
      go_wp2_with fail
      go_ret3
      exact ⟨X1.trans X2, .inl ⟨os, os2, _, _, hn, hn2, rfl, HS.out.ext X2, HS2.out⟩⟩

set_option maxHeartbeats 3200000 in
set_option maxRecDepth 100000 in
theorem parts_any (u : Value) (qs : List Rat) (n : Nat) (w : World) (hu : QsV w u qs) (hl : qs.length ≤ 1000000) (hn : 0 < n) (hn2 : n ≤ 1000000) (hb : ∀ q ∈ qs, QB q) :
    Calls Tryz.prog 65 #[u, .int .i64 n] w fun e w' => ∃ r, e = .returned r ∧ QsO w' w.heap.size r (qs.map (· / ((n : Int) : Rat))) ∧ Ext w w' := by
  obtain ⟨wo, rfl⟩ : ∃ wo : World, wo = w := ⟨_, rfl⟩
  obtain ⟨ao, c, rfl, _, hC⟩ := hu.opn
  have HC := Lib.hid hC
  have HB := Lib.hid hb
  have hn0 : ((n : Int) : Rat) ≠ 0 := by
    intro h
    have := congrArg Rat.num h
    rw [Rat.num_intCast] at this
    simp at this
    omega
  have hnb : QB ((n : Int) : Rat) := RB_QB (k := 19) (RB_int (by omega) (by omega)) (by omega)
  have HOF := Lib.hid (fun W => qOf_any (n : Int) W (by omega) (by omega))
  have HDV := Lib.hid (fun (x y : Value) (q : Rat) W (hq : QB q) hx hy => qDiv_any x y q _ W hx hy hq hnb hn0)
  have HYL : Hid ((qs.map (· / ((n : Int) : Rat))).length = qs.length) := List.length_map ..
  have HYG : Hid (∀ (i : Nat) q, qs[i]? = some q → (qs.map (· / ((n : Int) : Rat)))[i]? = some (q / ((n : Int) : Rat))) := fun i q h => by rw [List.getElem?_map, h]; rfl
  generalize (qs.map (· / ((n : Int) : Rat))) = ys at *
  have hni : (0 : Int) < (n : Int) := by omega
  clear hu hC hb hn0 hnb
  go_enter Tryz.func65, Tryz.ntmps65
  go_wp2_with fail
  go_loopw [5, 10] (fun ov iv wr => ∃ (i : Nat), i ≤ qs.length ∧ iv = .int .i64 i ∧ Hid (QsO wr wo.heap.size ov (ys.take i)) ∧ Ext wo wr) (fun _ iv _ => qs.length - (intOf iv).toNat)
  case atStart => exact ⟨0, Nat.zero_le _, rfl, QsO.nil _ _, Ext.refl _⟩
  case round =>
    obtain ⟨i, hi, rfl, HO, X⟩ := hrel
    by_cases hlt : i < qs.length
    · obtain ⟨q, q1, q2, q3⟩ := get_lt hlt
      obtain ⟨g, s5, ao5, l5, c5, bo5, m5, d5, rfl, e0, e1, e2, hq5⟩ := (HC.out.ext X) i q q1.out
      have HD := Lib.hid (fun (x y : Value) W hx hy => HDV.out x y q W (HB.out q (List.mem_of_getElem? q1.out)) hx hy)
      have hki : (i : Int) < (qs.length : Int) := by omega
      have HTJ : Hid (ys.take (i + 1) = ys.take i ++ [q / ((n : Int) : Rat)]) := by
        show _ = _
        obtain ⟨h2, h3⟩ := List.getElem?_eq_some_iff.1 (HYG.out i q q1.out)
        rw [List.take_succ_eq_append_getElem h2, h3]
      have HTL : Hid ((ys.take i).length ≤ 1000000) := by show _ ≤ _; rw [List.length_take]; omega
      generalize ys.take i = Y1 at *
      generalize q / ((n : Int) : Rat) = qn at *
      obtain ⟨T7, hT7⟩ : ∃ T7, wr.heap.size = T7 := ⟨_, rfl⟩
      obtain ⟨W3, hW3⟩ : ∃ W3, wr.alloc (.cells #[.bool s5, .slice ao5 l5 c5, .slice bo5 m5 d5] 78) = W3 := ⟨_, rfl⟩
      have XL : Ext wr W3 := by rw [← hW3]; exact (Ext.refl wr).alloc _
      have t0 : W3.cell? ⟨T7, 0, none⟩ = some (.bool s5) := by rw [← hW3, ← hT7]; simp [go_sem]
      have t1 : W3.cell? ⟨T7, 1, none⟩ = some (.slice ao5 l5 c5) := by rw [← hW3, ← hT7]; simp [go_sem]
      have t2 : W3.cell? ⟨T7, 2, none⟩ = some (.slice bo5 m5 d5) := by rw [← hW3, ← hT7]; simp [go_sem]
      have HQ5 := Lib.hid (hq5.ext XL)
      have HO3 := Lib.hid (HO.out.ext XL)
      have X3 := X.trans XL
      clear hq5 hlt HO
      go_wp2_with fail
      clear hT7 hW3 e0 e1 e2
      go_region_law (first
        | (go_simp; go_at_call 50; refine (HOF.out _).mono ?_; rintro e wm ⟨um, rfl, hm, Ym⟩; obtain ⟨s8, ao8, l8, c8, bo8, m8, d8, rfl, _, _, _⟩ := hm.opn; have Xm : Ext W3 wm := (Ext.refl W3).drew.trans Ym; have t0 := Xm.cell t0; have t1 := Xm.cell t1; have t2 := Xm.cell t2; have HM := Lib.hid hm; clear hm)
        | (go_simp; go_at_call 92; refine (HD.out _ _ _ (by exact HQ5.out.ext Xm) (by exact HM.out)).mono ?_; rintro e wa ⟨ua, rfl, ha, Ya⟩; obtain ⟨s9, ao9, l9, c9, bo9, m9, d9, rfl, _, _, _⟩ := ha.opn; have Xa : Ext W3 wa := Xm.trans Ya; have HV := Lib.hid ha; have HO4 := HO3.out.ext Xa; have XA := X3.trans Xa; have hsz := XA.size; clear ha)
        | (refine step_appQ (sl := .tmp 14) (x := .tmp 19) rfl rfl HO4 HV.out rfl rfl rfl HTL.out hsz ?_; intro v' w' hown hgrew hclean))
      all_goals
        have HE := Lib.hid (QsO.grew HO4 hgrew XA (Nat.le_refl _))
        rw [← HTJ.out] at hown
        have HOW := Lib.hid hown
        clear t0 t1 t2
        go_wp2_with fail
        go_roundw
        case rel => exact ⟨i + 1, by omega, by go_num, HOW, HE.out⟩
        case measure => simp [intOf] <;> omega
    · have hil : qs.length = i := by omega
      have hmm : ys.take i = ys := by rw [← hil, ← HYL.out]; exact List.take_length
      have HR0 := HO.out
      rw [hmm] at HR0
      have HR := Lib.hid HR0
      clear hlt hmm HO HR0
      go_wp2_with fail
      go_ret
      exact ⟨_, rfl, HR.out, X⟩
end Go.Proofs.YtjnaecicdaiimaaGreatDoor
/- walk: regret.best -/
namespace Go.Proofs.YtjnaecicdaiimaaGreatDoor
open Go.RowKit
set_option linter.unusedVariables false

/-- the index of the first one of the greatest numbers (sg = 1), or of the least ones (sg = -1) -/
def bestS (sg : Int) (x : List Rat) : List Rat → Nat → Nat → Nat
  | [], _, b => b
  | q :: t, i, b => if 0 < cmpQ q (x.getD b 0) * sg then bestS sg x t (i + 1) i else bestS sg x t (i + 1) b
theorem bestS_lt (sg : Int) (x : List Rat) : ∀ (t : List Rat) (i b : Nat), i + t.length ≤ x.length → b < x.length → bestS sg x t i b < x.length
  | [], i, b, _, h => h
  | q :: t, i, b, h1, h2 => by
    rw [List.length_cons] at h1
    rw [bestS]
    split
    · exact bestS_lt sg x t _ _ (by omega) (by omega)
    · exact bestS_lt sg x t _ _ (by omega) h2
theorem cmpQ_bd (a b : Rat) : -1 ≤ cmpQ a b ∧ cmpQ a b ≤ 1 := by
  unfold cmpQ
  generalize a.num * b.den - b.num * a.den = z
  rcases (show z < 0 ∨ z = 0 ∨ 0 < z by omega) with h | h | h
  · rw [Int.sign_eq_neg_one_of_neg h]; omega
  · rw [h]; simp
  · rw [Int.sign_eq_one_of_pos h]; omega

set_option maxHeartbeats 3200000 in
set_option maxRecDepth 100000 in
theorem best_up (u : Value) (qs : List Rat) (w : World) (hu : QsV w u qs) (hl : 0 < qs.length) (hb : ∀ q ∈ qs, QB q) :
    Calls Tryz.prog 51 #[u, .int .i64 1] w fun e w' => e = .returned (.int .i64 ((bestS 1 qs qs 0 0 : Nat) : Int)) ∧ Ext w w' := by
  obtain ⟨wo, rfl⟩ : ∃ wo : World, wo = w := ⟨_, rfl⟩
  obtain ⟨ao, c, rfl, _, hC⟩ := hu.opn
  have HC := Lib.hid hC
  have HQB := Lib.hid hb
  obtain ⟨F, hF⟩ : ∃ F, bestS 1 qs qs 0 0 = F := ⟨_, rfl⟩
  rw [hF]
  have HF := Lib.hid hF
  clear hu hC hb hF
  go_enter Tryz.func51, Tryz.ntmps51
  go_wp2_with fail
  go_loopw [5, 10] (fun bv iv wr => ∃ (i b : Nat), i ≤ qs.length ∧ b < qs.length ∧ iv = .int .i64 i ∧ bv = .int .i64 b ∧ Ext wo wr ∧ Hid (bestS 1 qs (qs.drop i) i b = F)) (fun _ iv _ => qs.length - (intOf iv).toNat)
  case atStart => exact ⟨0, 0, Nat.zero_le _, hl, rfl, rfl, Ext.refl _, by show _ = _; rw [List.drop_zero]; exact HF.out⟩
  case round =>
    obtain ⟨i, b, hi, hb, rfl, rfl, X, HI⟩ := hrel
    by_cases hlt : i < qs.length
    · obtain ⟨qq, q1, q2, _⟩ := get_lt hlt
      obtain ⟨qb, p1, _, _⟩ := get_lt hb
      obtain ⟨g, s5, ao5, l5, c5, bo5, m5, c6, rfl, e0, e1, e2, hqq⟩ := (HC.out.ext X) i qq q1.out
      obtain ⟨g', s7, ao7, l7, c7, bo7, m7, c8, hg', y0, y1, y2, hqb⟩ := (HC.out.ext X) b qb p1.out
      simp only [Option.some.injEq, Addr.mk.injEq, and_true] at hg'
      subst hg'
      have hQ1 := HQB.out qq (List.mem_of_getElem? q1.out)
      have hQ2 := HQB.out qb (List.mem_of_getElem? p1.out)
      have HCM := Lib.hid (fun (x y : Value) W hx hy => qCmp_any x y qq qb W hx hy hQ1 hQ2)
      rw [show (qq.num * (qb.den : Int) - qb.num * (qq.den : Int)).sign = cmpQ qq qb from rfl] at HCM
      have hi2 := HI.out
      rw [q2.out, bestS, show qs.getD b 0 = qb by rw [List.getD_eq_getElem?_getD, p1.out]; rfl] at hi2
      obtain ⟨zb1, zb2⟩ := cmpQ_bd qq qb
      generalize cmpQ qq qb = z at *
      have hw1 : IntKind.i64.wrap (z * 1) = z * 1 := IntWalk.i64_in _ (by omega)
      have hw2 : IntKind.i64.wrap z = z := IntWalk.i64_in _ (by omega)
      have hw3 : IntKind.i64.wrap (-z) = -z := IntWalk.i64_in _ (by omega)
      have hki : (i : Int) < (qs.length : Int) := by omega
      have hbi : (b : Int) < (qs.length : Int) := by omega
      have hb0 : (0 : Int) ≤ (b : Int) := by omega
      obtain ⟨T7, hT7⟩ : ∃ T7, wr.heap.size = T7 := ⟨_, rfl⟩
      obtain ⟨W3, hW3⟩ : ∃ W3, wr.alloc (.cells #[.bool s5, .slice ao5 l5 c5, .slice bo5 m5 c6] 78) = W3 := ⟨_, rfl⟩
      have XL : Ext wr W3 := by rw [← hW3]; exact (Ext.refl wr).alloc _
      have k1 : W3.cell? ⟨T7, 0, none⟩ = some (.bool s5) := by rw [← hW3, ← hT7]; simp [go_sem]
      have k2 : W3.cell? ⟨T7, 1, none⟩ = some (.slice ao5 l5 c5) := by rw [← hW3, ← hT7]; simp [go_sem]
      have k3 : W3.cell? ⟨T7, 2, none⟩ = some (.slice bo5 m5 c6) := by rw [← hW3, ← hT7]; simp [go_sem]
      have k4 := XL.cell y0
      have k5 := XL.cell y1
      have k6 := XL.cell y2
      have HQ5 := Lib.hid hqq
      have HQ7 := Lib.hid hqb
      clear hqq hqb hlt y0 y1 y2 hQ1 hQ2
      go_wp2_with fail
      clear hW3 hT7
      go_region_held3 (fun w' => w'.cell? ⟨T7, 0, none⟩ = some (.bool s5) ∧ w'.cell? ⟨T7, 1, none⟩ = some (.slice ao5 l5 c5) ∧ w'.cell? ⟨T7, 2, none⟩ = some (.slice bo5 m5 c6) ∧ w'.cell? ⟨g, b * 3, none⟩ = some (.bool s7) ∧ w'.cell? ⟨g, b * 3 + 1, none⟩ = some (.slice ao7 l7 c7) ∧ w'.cell? ⟨g, b * 3 + 2, none⟩ = some (.slice bo7 m7 c8))
        (first | exact ⟨k1, k2, k3, k4, k5, k6⟩ | exact ⟨X5.cell k1, X5.cell k2, X5.cell k3, X5.cell k4, X5.cell k5, X5.cell k6⟩ | go_keep)
        ((go_at_call 97; refine (HCM.out _ _ _ (by exact HQ5.out.ext XL.drew) (by exact HQ7.out.ext XL.drew)).mono ?_; rintro e w5 ⟨rfl, Y5⟩; have X5 : Ext W3 w5 := (Ext.refl W3).drew.trans Y5))
      all_goals
        have XN := X.trans (XL.trans X5)
        by_cases hz : 0 < z * 1
        · rw [if_pos hz] at hi2
          have hz2 : 0 < z := by omega
          have HI2 := Lib.hid hi2
          clear hi2 k1 k2 k3 k4 k5 k6
          go_wp2_with fail
          go_roundw
          case rel => exact ⟨i + 1, i, by omega, by omega, by go_num, rfl, XN, HI2⟩
          case measure => simp [intOf] <;> omega
        · rw [if_neg hz] at hi2
          have hz2 : z ≤ 0 := by omega
          have HI2 := Lib.hid hi2
          clear hi2 k1 k2 k3 k4 k5 k6
          go_wp2_with fail
          go_roundw
          case rel => exact ⟨i + 1, b, by omega, hb, by go_num, rfl, XN, HI2⟩
          case measure => simp [intOf] <;> omega
    · have hil : qs.length = i := by omega
      have hi2 := HI.out
      rw [← hil, List.drop_length, bestS] at hi2
      subst hi2
      clear hlt HI HF
      go_wp2_with fail
      go_ret
      exact ⟨rfl, X⟩

set_option maxHeartbeats 3200000 in
set_option maxRecDepth 100000 in
theorem best_down (u : Value) (qs : List Rat) (w : World) (hu : QsV w u qs) (hl : 0 < qs.length) (hb : ∀ q ∈ qs, QB q) :
    Calls Tryz.prog 51 #[u, .int .i64 (-1)] w fun e w' => e = .returned (.int .i64 ((bestS (-1) qs qs 0 0 : Nat) : Int)) ∧ Ext w w' := by
  obtain ⟨wo, rfl⟩ : ∃ wo : World, wo = w := ⟨_, rfl⟩
  obtain ⟨ao, c, rfl, _, hC⟩ := hu.opn
  have HC := Lib.hid hC
  have HQB := Lib.hid hb
  obtain ⟨F, hF⟩ : ∃ F, bestS (-1) qs qs 0 0 = F := ⟨_, rfl⟩
  rw [hF]
  have HF := Lib.hid hF
  clear hu hC hb hF
  go_enter Tryz.func51, Tryz.ntmps51
  go_wp2_with fail
  go_loopw [5, 10] (fun bv iv wr => ∃ (i b : Nat), i ≤ qs.length ∧ b < qs.length ∧ iv = .int .i64 i ∧ bv = .int .i64 b ∧ Ext wo wr ∧ Hid (bestS (-1) qs (qs.drop i) i b = F)) (fun _ iv _ => qs.length - (intOf iv).toNat)
  case atStart => exact ⟨0, 0, Nat.zero_le _, hl, rfl, rfl, Ext.refl _, by show _ = _; rw [List.drop_zero]; exact HF.out⟩
  case round =>
    obtain ⟨i, b, hi, hb, rfl, rfl, X, HI⟩ := hrel
    by_cases hlt : i < qs.length
    · obtain ⟨qq, q1, q2, _⟩ := get_lt hlt
      obtain ⟨qb, p1, _, _⟩ := get_lt hb
      obtain ⟨g, s5, ao5, l5, c5, bo5, m5, c6, rfl, e0, e1, e2, hqq⟩ := (HC.out.ext X) i qq q1.out
      obtain ⟨g', s7, ao7, l7, c7, bo7, m7, c8, hg', y0, y1, y2, hqb⟩ := (HC.out.ext X) b qb p1.out
      simp only [Option.some.injEq, Addr.mk.injEq, and_true] at hg'
      subst hg'
      have hQ1 := HQB.out qq (List.mem_of_getElem? q1.out)
      have hQ2 := HQB.out qb (List.mem_of_getElem? p1.out)
      have HCM := Lib.hid (fun (x y : Value) W hx hy => qCmp_any x y qq qb W hx hy hQ1 hQ2)
      rw [show (qq.num * (qb.den : Int) - qb.num * (qq.den : Int)).sign = cmpQ qq qb from rfl] at HCM
      have hi2 := HI.out
      rw [q2.out, bestS, show qs.getD b 0 = qb by rw [List.getD_eq_getElem?_getD, p1.out]; rfl] at hi2
      obtain ⟨zb1, zb2⟩ := cmpQ_bd qq qb
      generalize cmpQ qq qb = z at *
      have hw1 : IntKind.i64.wrap (z * (-1)) = z * (-1) := IntWalk.i64_in _ (by omega)
      have hw2 : IntKind.i64.wrap z = z := IntWalk.i64_in _ (by omega)
      have hw3 : IntKind.i64.wrap (-z) = -z := IntWalk.i64_in _ (by omega)
      have hki : (i : Int) < (qs.length : Int) := by omega
      have hbi : (b : Int) < (qs.length : Int) := by omega
      have hb0 : (0 : Int) ≤ (b : Int) := by omega
      obtain ⟨T7, hT7⟩ : ∃ T7, wr.heap.size = T7 := ⟨_, rfl⟩
      obtain ⟨W3, hW3⟩ : ∃ W3, wr.alloc (.cells #[.bool s5, .slice ao5 l5 c5, .slice bo5 m5 c6] 78) = W3 := ⟨_, rfl⟩
      have XL : Ext wr W3 := by rw [← hW3]; exact (Ext.refl wr).alloc _
      have k1 : W3.cell? ⟨T7, 0, none⟩ = some (.bool s5) := by rw [← hW3, ← hT7]; simp [go_sem]
      have k2 : W3.cell? ⟨T7, 1, none⟩ = some (.slice ao5 l5 c5) := by rw [← hW3, ← hT7]; simp [go_sem]
      have k3 : W3.cell? ⟨T7, 2, none⟩ = some (.slice bo5 m5 c6) := by rw [← hW3, ← hT7]; simp [go_sem]
      have k4 := XL.cell y0
      have k5 := XL.cell y1
      have k6 := XL.cell y2
      have HQ5 := Lib.hid hqq
      have HQ7 := Lib.hid hqb
      clear hqq hqb hlt y0 y1 y2 hQ1 hQ2
      go_wp2_with fail
      clear hW3 hT7
      go_region_held3 (fun w' => w'.cell? ⟨T7, 0, none⟩ = some (.bool s5) ∧ w'.cell? ⟨T7, 1, none⟩ = some (.slice ao5 l5 c5) ∧ w'.cell? ⟨T7, 2, none⟩ = some (.slice bo5 m5 c6) ∧ w'.cell? ⟨g, b * 3, none⟩ = some (.bool s7) ∧ w'.cell? ⟨g, b * 3 + 1, none⟩ = some (.slice ao7 l7 c7) ∧ w'.cell? ⟨g, b * 3 + 2, none⟩ = some (.slice bo7 m7 c8))
        (first | exact ⟨k1, k2, k3, k4, k5, k6⟩ | exact ⟨X5.cell k1, X5.cell k2, X5.cell k3, X5.cell k4, X5.cell k5, X5.cell k6⟩ | go_keep)
        ((go_at_call 97; refine (HCM.out _ _ _ (by exact HQ5.out.ext XL.drew) (by exact HQ7.out.ext XL.drew)).mono ?_; rintro e w5 ⟨rfl, Y5⟩; have X5 : Ext W3 w5 := (Ext.refl W3).drew.trans Y5))
      all_goals
        have XN := X.trans (XL.trans X5)
        by_cases hz : 0 < z * (-1)
        · rw [if_pos hz] at hi2
          have hz2 : z < 0 := by omega
          have HI2 := Lib.hid hi2
          clear hi2 k1 k2 k3 k4 k5 k6
          go_wp2_with fail
          go_roundw
          case rel => exact ⟨i + 1, i, by omega, by omega, by go_num, rfl, XN, HI2⟩
          case measure => simp [intOf] <;> omega
        · rw [if_neg hz] at hi2
          have hz2 : 0 ≤ z := by omega
          have HI2 := Lib.hid hi2
          clear hi2 k1 k2 k3 k4 k5 k6
          go_wp2_with fail
          go_roundw
          case rel => exact ⟨i + 1, b, by omega, hb, by go_num, rfl, XN, HI2⟩
          case measure => simp [intOf] <;> omega
    · have hil : qs.length = i := by omega
      have hi2 := HI.out
      rw [← hil, List.drop_length, bestS] at hi2
      subst hi2
      clear hlt HI HF
      go_wp2_with fail
      go_ret
      exact ⟨rfl, X⟩
end Go.Proofs.YtjnaecicdaiimaaGreatDoor
/- plain: sums over rounds -/
namespace Go.Proofs.YtjnaecicdaiimaaGreatDoor
set_option linter.unusedVariables false
/-- the number that a round names -/
def atQ (M : List (List Rat)) (p : Int × Int) : Rat := (M.getD p.1.toNat []).getD p.2.toNat 0
/-- a sum over rounds -/
def sumP (f : Int × Int → Rat) (ps : List (Int × Int)) (a : Rat) : Rat := ps.foldl (fun a p => a + f p) a
theorem sumP_nil (f : Int × Int → Rat) (a : Rat) : sumP f [] a = a := rfl
theorem sumP_cons (f : Int × Int → Rat) (p : Int × Int) (t : List (Int × Int)) (a : Rat) : sumP f (p :: t) a = sumP f t (a + f p) := rfl
theorem sumP_app (f : Int × Int → Rat) (s t : List (Int × Int)) (a : Rat) : sumP f (s ++ t) a = sumP f t (sumP f s a) := by unfold sumP; rw [List.foldl_append]
theorem sumP_snoc (f : Int × Int → Rat) (s : List (Int × Int)) (p : Int × Int) (a : Rat) : sumP f (s ++ [p]) a = sumP f s a + f p := by rw [sumP_app]; rfl
theorem sumP_add (f : Int × Int → Rat) : ∀ (ps : List (Int × Int)) (a : Rat), sumP f ps a = a + sumP f ps 0
  | [], a => by rw [sumP_nil, sumP_nil]; grind
  | p :: t, a => by rw [sumP_cons, sumP_cons, sumP_add f t (a + f p), sumP_add f t (0 + f p)]; grind
theorem sumP_sub (f g h : Int × Int → Rat) (e : ∀ p, h p = f p - g p) : ∀ (ps : List (Int × Int)) (a b : Rat), sumP h ps (a - b) = sumP f ps a - sumP g ps b
  | [], a, b => rfl
  | p :: t, a, b => by
    rw [sumP_cons, sumP_cons, sumP_cons, ← sumP_sub f g h e t, e]
    congr 1
    grind
theorem sumP_congr {f g : Int × Int → Rat} : ∀ (ps : List (Int × Int)) (a : Rat), (∀ p ∈ ps, f p = g p) → sumP f ps a = sumP g ps a
  | [], a, _ => rfl
  | p :: t, a, h => by rw [sumP_cons, sumP_cons, h p (List.mem_cons_self ..)]; exact sumP_congr t _ fun q hq => h q (List.mem_cons_of_mem _ hq)
theorem sumP_RB {k : Nat} {f : Int × Int → Rat} : ∀ (ps : List (Int × Int)) (a : Rat) (m : Nat), RB m a → (∀ p ∈ ps, RB k (f p)) → RB (m + (k + 1) * ps.length) (sumP f ps a)
  | [], a, m, ha, _ => ha.mono (by omega)
  | p :: t, a, m, ha, h => by
    rw [sumP_cons]
    refine (sumP_RB t _ (m + k + 1) (RB_add ha (h p (List.mem_cons_self ..))) fun q hq => h q (List.mem_cons_of_mem _ hq)).mono ?_
    rw [List.length_cons, Nat.mul_succ]; omega
/-- one more at a place adds the number there -/
theorem dot_up : ∀ (r : List Rat) (xs : List Int) (k : Nat), k < xs.length → k < r.length → dotQ r (ratsI (cntUp xs k)) = dotQ r (ratsI xs) + r.getD k 0
  | [], _, _, _, h => by simp at h
  | _ :: _, [], _, h, _ => by simp at h
  | q :: t, x :: ys, 0, _, _ => by
    show q * ((x + 1 : Int) : Rat) + dotQ t (ratsI ys) = q * (x : Rat) + dotQ t (ratsI ys) + q
    rw [Rat.intCast_add]
    grind
  | q :: t, x :: ys, k + 1, h1, h2 => by
    have := dot_up t ys k (by simpa using h1) (by simpa using h2)
    show q * (x : Rat) + dotQ t (ratsI (cntUp ys k)) = q * (x : Rat) + dotQ t (ratsI ys) + t.getD k 0
    rw [this]
    grind
theorem dot_zero : ∀ (r : List Rat) (n : Nat), dotQ r (ratsI (List.replicate n 0)) = 0
  | [], _ => by unfold dotQ; rfl
  | _ :: _, 0 => rfl
  | q :: t, n + 1 => by
    show q * ((0 : Int) : Rat) + dotQ t (ratsI (List.replicate n 0)) = 0
    rw [dot_zero t n, Rat.add_zero, Rat.intCast_zero, Rat.mul_zero]
theorem dot_fold (r : List Rat) (sel : Int × Int → Int) : ∀ (ps : List (Int × Int)) (xs : List Int), (∀ p ∈ ps, (sel p).toNat < xs.length ∧ (sel p).toNat < r.length) →
    dotQ r (ratsI (ps.foldl (fun xs p => cntUp xs (sel p).toNat) xs)) = sumP (fun p => r.getD (sel p).toNat 0) ps (dotQ r (ratsI xs))
  | [], xs, _ => rfl
  | p :: t, xs, h => by
    obtain ⟨h1, h2⟩ := h p (List.mem_cons_self ..)
    rw [List.foldl_cons, sumP_cons, dot_fold r sel t _ (fun q hq => by
      have := h q (List.mem_cons_of_mem _ hq)
      unfold cntUp
      rwa [List.length_set]), dot_up r xs _ h1 h2]
/-- a product with counts is a sum over the rounds -/
theorem dot_cnt (r : List Rat) (sel : Int × Int → Int) (ps : List (Int × Int)) (n : Nat) (h : ∀ p ∈ ps, (sel p).toNat < n ∧ (sel p).toNat < r.length) :
    dotQ r (ratsI (cntF sel ps n)) = sumP (fun p => r.getD (sel p).toNat 0) ps 0 := by
  unfold cntF
  rw [dot_fold r sel ps _ (fun p hp => by rw [List.length_replicate]; exact h p hp), dot_zero]
theorem dotQ_RB {k m : Nat} : ∀ (qs rs : List Rat), (∀ q ∈ qs, RB k q) → (∀ r ∈ rs, RB m r) → RB ((k + m + 1) * qs.length + 1) (dotQ qs rs)
  | [], _, _, _ => RB_zero.mono (by omega)
  | _ :: _, [], _, _ => RB_zero.mono (by omega)
  | q :: t, r :: s, hq, hr => by
    have h1 := dotQ_RB t s (fun x hx => hq x (List.mem_cons_of_mem _ hx)) (fun x hx => hr x (List.mem_cons_of_mem _ hx))
    have h2 := RB_add (RB_mul (hq q (List.mem_cons_self ..)) (hr r (List.mem_cons_self ..))) h1
    refine h2.mono ?_
    rw [List.length_cons, Nat.mul_succ]; omega
/-- the first i elements are changed -/
def subTo (f : Rat → Rat) (ys : List Rat) (i : Nat) : List Rat := (ys.take i).map f ++ ys.drop i
theorem subTo_zero (f : Rat → Rat) (ys : List Rat) : subTo f ys 0 = ys := by unfold subTo; rw [List.take_zero, List.drop_zero]; rfl
theorem subTo_len (f : Rat → Rat) (ys : List Rat) (i : Nat) : (subTo f ys i).length = ys.length := by
  unfold subTo
  rw [List.length_append, List.length_map, ← List.length_append, List.take_append_drop]
theorem subTo_all (f : Rat → Rat) (ys : List Rat) : subTo f ys ys.length = ys.map f := by unfold subTo; rw [List.take_length, List.drop_length, List.append_nil]
theorem subTo_get {f : Rat → Rat} {ys : List Rat} {i : Nat} {q : Rat} (h : ys[i]? = some q) : (subTo f ys i)[i]? = some q := by
  unfold subTo
  have hi := (List.getElem?_eq_some_iff.1 h).1
  rw [List.getElem?_append_right (by rw [List.length_map, List.length_take]; omega), List.length_map, List.length_take, Nat.min_eq_left (by omega), Nat.sub_self, List.getElem?_drop]
  exact h
theorem subTo_set {f : Rat → Rat} {ys : List Rat} {i : Nat} {q : Rat} (h : ys[i]? = some q) : (subTo f ys i).set i (f q) = subTo f ys (i + 1) := by
  have hi := (List.getElem?_eq_some_iff.1 h).1
  have hl : ((ys.take i).map f).length = i := by rw [List.length_map, List.length_take]; omega
  unfold subTo
  rw [List.set_append_right _ _ (by omega), hl, Nat.sub_self, List.take_succ_eq_append_getElem hi, List.map_append, List.append_assoc]
  congr 1
  rw [List.drop_eq_getElem_cons hi]
  show f q :: _ = f (ys[i]) :: _
  rw [(List.getElem?_eq_some_iff.1 h).2]
  rfl
end Go.Proofs.YtjnaecicdaiimaaGreatDoor
/- walk: regret.Regrets -/
namespace Go.Proofs.YtjnaecicdaiimaaGreatDoor
open Go.RowKit
set_option linter.unusedVariables false

theorem histE_zero {m : List (List ByteArray)} {ps : List (Int × Int)} (h : histE m ps = 0) : gameE m = 0 ∧ ps.length ≤ 200 ∧ ∀ p ∈ ps, badP m.length (wideL m) p = false := by
  unfold histE at h
  by_cases h1 : gameE m = 0
  · rw [if_neg (by simpa using h1)] at h
    by_cases h2 : 200 < ps.length
    · rw [if_pos h2] at h; cases h
    rw [if_neg h2] at h
    by_cases h3 : ps.any (badP m.length (wideL m)) = true
    · rw [if_pos h3] at h; cases h
    · refine ⟨h1, by omega, fun p hp => ?_⟩
      cases hb : badP m.length (wideL m) p with
      | false => rfl
      | true => exact absurd (List.any_eq_true.2 ⟨p, hp, hb⟩) h3
  · rw [if_pos h1] at h; exact absurd h h1
theorem matG_zero {n : Nat} : ∀ {m : List (List ByteArray)}, matG n m = 0 → ∀ l ∈ m, l.length = n ∧ ∀ s ∈ l, RatOk s
  | [], _, l, hl => by cases hl
  | r :: t, h, l, hl => by
    rw [matG] at h
    by_cases h1 : r.length = n
    · rw [if_neg (by simpa using h1)] at h
      by_cases h2 : vecE r = 0
      · rw [if_neg (by simpa using h2)] at h
        rcases List.mem_cons.1 hl with rfl | hl
        · refine ⟨h1, fun s hs => ratErr_ok ?_⟩
          unfold vecE at h2
          split at h2
          · cases h2
          · exact errsL_zero h2 s hs
        · exact matG_zero h l hl
      · rw [if_pos h2] at h; exact absurd h h2
    · rw [if_pos h1] at h; cases h
theorem matOk_of {m : List (List ByteArray)} (hs : ∀ l ∈ m, ∀ s ∈ l, s.size ≤ 9223372036854775806) (h : gameE m = 0) : MatOk m := by
  obtain ⟨h1, h2, h3, h4, h5⟩ := gameE_zero h
  unfold matE at h2
  rw [if_neg (by omega)] at h2
  exact ⟨fun l hl s hm => ⟨(matG_zero h2 l hl).2 s hm, hs l hl s hm⟩, by omega, h5, by omega, fun l hl => (matG_zero h2 l hl).1⟩
/-- what the first player received -/
def gotQ (m : List (List ByteArray)) (ps : List (Int × Int)) : Rat := sumP (atQ (numM m)) ps 0
theorem atQ_numM {m : List (List ByteArray)} {x y : Nat} {l : List ByteArray} {s : ByteArray} (h : m[x]? = some l) (h2 : l[y]? = some s) : atQ (numM m) ((x : Int), (y : Int)) = ratOf s := by
  unfold atQ numM
  rw [List.getD_eq_getElem?_getD, List.getD_eq_getElem?_getD]
  show (((m.map (·.map ratOf))[x]?.getD [])[y]?).getD 0 = _
  rw [List.getElem?_map, h]
  show (((l.map ratOf))[y]?).getD 0 = _
  rw [List.getElem?_map, h2]
  rfl
def regRows (m : List (List ByteArray)) (ps : List (Int × Int)) : List Rat := (rowsS m ps).map (· - gotQ m ps)
def regCols (m : List (List ByteArray)) (ps : List (Int × Int)) : List Rat := (colsS m ps).map (gotQ m ps - ·)
theorem QsO.head {w : World} {B : Nat} {v : Value} {qs : List Rat} (h : QsO w B v qs) (hn : 0 < qs.length) : ∃ g cap, v = .slice (some ⟨g, 0, none⟩) qs.length cap ∧ B ≤ g ∧ g < w.heap.size := by
  obtain ⟨ts, h1, h2, h3, h4⟩ := h
  rcases h1.2 with ⟨_, e⟩ | ⟨g, cap, cur, rfl, hb, hg, _⟩
  · omega
  · exact ⟨g, cap, rfl, hb, (Array.getElem?_eq_some_iff.1 hg).1⟩
theorem QsO.cells {w : World} {B g n cap : Nat} {qs : List Rat} (h : QsO w B (.slice (some ⟨g, 0, none⟩) n cap) qs) (hl : qs.length ≤ 17592186044416) : QCells w (some ⟨g, 0, none⟩) qs := by
  obtain ⟨ao, c, e, _, hc⟩ := (h.toV hl).opn
  simp only [Value.slice.injEq] at e
  rw [e.1]
  exact hc
theorem Acc.kept {w w' : World} {O : Nat} {s : Bool} {xo : Option Addr} {xl xc : Nat} {yo : Option Addr} {yl yc : Nat} {q : Rat} {v : Value} {g : Nat} (h : Acc w O s xo xl xc yo yl yc q) (hc : Clean w v) (hv : v.ownBlock = some g) (hg : w.grownBy w' (some g)) (hne : O ≠ g) : Acc w' O s xo xl xc yo yl yc q :=
  ⟨own_kept h.row hg (.inl (by simp [Value.ownBlock]; exact hne)), hc.keptQ (by rw [hv]; exact hg) h.val⟩
theorem colsS_len (m : List (List ByteArray)) (ps : List (Int × Int)) : (colsS m ps).length = wideL m := by unfold colsS colsQ; rw [List.length_map, List.length_map, List.length_range]
theorem rowsS_len (m : List (List ByteArray)) (ps : List (Int × Int)) : (rowsS m ps).length = m.length := by unfold rowsS numM; rw [List.length_map, List.length_map]
theorem numM_RB {m : List (List ByteArray)} {k : Nat} (h : ∀ l ∈ m, ∀ s ∈ l, RB k (ratOf s)) : ∀ r ∈ numM m, ∀ q ∈ r, RB k q := by
  intro r hr q hq
  unfold numM at hr
  obtain ⟨l, hl, rfl⟩ := List.mem_map.1 hr
  obtain ⟨s, hs, rfl⟩ := List.mem_map.1 hq
  exact h l hl s hs
theorem numM_len {m : List (List ByteArray)} {k : Nat} (h : ∀ l ∈ m, l.length = k) : ∀ r ∈ numM m, r.length = k := by
  intro r hr
  unfold numM at hr
  obtain ⟨l, hl, rfl⟩ := List.mem_map.1 hr
  rw [List.length_map]
  exact h l hl
theorem rowsS_RB {m : List (List ByteArray)} {ps : List (Int × Int)} {k n : Nat} (hk : ∀ l ∈ m, ∀ s ∈ l, RB k (ratOf s)) (hl : ∀ l ∈ m, l.length ≤ n) (hp : ps.length ≤ 200) : ∀ q ∈ rowsS m ps, RB ((k + 3 + 1) * n + 1) q := by
  intro q hq
  unfold rowsS at hq
  obtain ⟨r, hr, rfl⟩ := List.mem_map.1 hq
  refine (dotQ_RB r _ (numM_RB hk r hr) (ratsI_RB (xs := cntF (·.2) ps (wideL m)) fun x hx => by have := cntF_le _ _ _ x hx; omega)).mono ?_
  have : r.length ≤ n := by
    unfold numM at hr
    obtain ⟨l, h2, rfl⟩ := List.mem_map.1 hr
    rw [List.length_map]
    exact hl l h2
  have := Nat.mul_le_mul_left (k + 3 + 1) this
  omega
theorem colsS_RB {m : List (List ByteArray)} {ps : List (Int × Int)} {k n : Nat} (hk : ∀ l ∈ m, ∀ s ∈ l, RB k (ratOf s)) (h1 : 1 ≤ k) (hl : m.length ≤ n) (hp : ps.length ≤ 200) : ∀ q ∈ colsS m ps, RB ((k + 3 + 1) * n + 1) q := by
  intro q hq
  unfold colsS at hq
  obtain ⟨r, hr, rfl⟩ := List.mem_map.1 hq
  unfold colsQ at hr
  obtain ⟨i, _, rfl⟩ := List.mem_map.1 hr
  refine (dotQ_RB _ _ (colQ_RB (numM_RB hk) h1 i) (ratsI_RB (xs := cntF (·.1) ps m.length) fun x hx => by have := cntF_le _ _ _ x hx; omega)).mono ?_
  have : (colQ (numM m) i).length ≤ n := by unfold colQ numM; rw [List.length_map, List.length_map]; exact hl
  have := Nat.mul_le_mul_left (k + 3 + 1) this
  omega

set_option maxHeartbeats 1600000 in
set_option maxRecDepth 100000 in
theorem regrets_err (v u : Value) (m : List (List ByteArray)) (ps : List (Int × Int)) (w : World) (hv : Rows Value.string w v m) (hu : Prs w u ps) (hs : ∀ l ∈ m, ∀ s ∈ l, s.size ≤ 9223372036854775806) (he : histE m ps ≠ 0) :
    Calls Tryz.prog 42 #[v, u] w fun e w' => e = .returned (.tuple #[.slice none 0 0, .slice none 0 0, .int .i64 (histE m ps)]) ∧ Ext w w' := by
  have HC := Lib.hid (rgCheck_any v u m ps w hv hu hs _ rfl)
  obtain ⟨us, hr, hul, hel⟩ := hv
  obtain ⟨ao, c, rfl, _, hlen, _, hc⟩ := hr
  obtain ⟨bo, d, rfl, hul2, hpc⟩ := hu
  have hb : (histE m ps != 0) = true := by simp [he]
  generalize histE m ps = p at *
  clear hc hel hul hpc hul2 hs he
  go_enter Tryz.func42, Tryz.ntmps42
  go_wp2_with fail
  refine HC.out.mono ?_
  rintro e w1 ⟨rfl, X1⟩
  go_wp2_with fail
  go_ret3
  exact ⟨rfl, X1⟩

set_option maxHeartbeats 3200000 in
set_option maxRecDepth 100000 in
theorem regrets_go (v u : Value) (m : List (List ByteArray)) (ps : List (Int × Int)) (w : World) (htab : TabPow w) (hv : Rows Value.string w v m) (hu : Prs w u ps) (hs : ∀ l ∈ m, ∀ s ∈ l, s.size ≤ 9223372036854775806) (he : histE m ps = 0) :
    Calls Tryz.prog 42 #[v, u] w (BothPost (regRows m ps) (regCols m ps) w) := by
  obtain ⟨hg0, hp200, hbad⟩ := histE_zero he
  have hm := matOk_of hs hg0
  have HC := Lib.hid (by have := rgCheck_any v u m ps w hv hu hs _ rfl; rwa [he] at this)
  have HSU := Lib.hid (fun W (hx : Ext w W) => sums_any v u m ps W (hv.ext hx) (hu.ext hx) hm hp200 hbad)
  have HO0 := Lib.hid (fun W => qOf_any 0 W (by omega) (by omega))
  have hrb : ∀ l ∈ m, ∀ s ∈ l, RB 2000 (ratOf s) := fun l hl s h2 => ratOf_RB2k (hm.ok l hl s h2).1
  have hrs := rowsS_RB (ps := ps) (n := 40) hrb (fun l hl => by rw [hm.rect l hl]; exact hm.wide) hp200
  have hcs := colsS_RB (ps := ps) (n := 40) hrb (by omega) hm.len hp200
  have HR1 := Lib.hid (fun q hq => RB_QB (hrs q hq) (by omega))
  have HR2 := Lib.hid (fun q hq => RB_QB (hcs q hq) (by omega))
  have hrl := rowsS_len m ps
  have hcl := colsS_len m ps
  have hmp := hm.pos
  have hml := hm.len
  have hwp := (gameE_zero hg0).2.2.1
  have hwl := hm.wide
  have HY1 := Lib.hid (show subTo (· - gotQ m ps) (rowsS m ps) (rowsS m ps).length = regRows m ps from subTo_all ..)
  have HY2 := Lib.hid (show subTo (gotQ m ps - ·) (colsS m ps) (colsS m ps).length = regCols m ps from subTo_all ..)
  have HTAB := Lib.hid htab
  have HBO := Lib.hid (fun (x y : Value) W (hx : Ext w W) (h1 : QsV W x (regRows m ps)) (h2 : QsV W y (regCols m ps)) => both_any x y (regRows m ps) (regCols m ps) W (tabPow_ext htab hx) h1 h2 (by unfold regRows; rw [List.length_map, hrl]; omega) (by unfold regCols; rw [List.length_map, hcl]; omega))
  have HY1L : Hid ((regRows m ps).length = m.length) := by show _ = _; unfold regRows; rw [List.length_map, hrl]
  have HY2L : Hid ((regCols m ps).length = wideL m) := by show _ = _; unfold regCols; rw [List.length_map, hcl]
  have HF : Hid (sumP (atQ (numM m)) ps 0 = gotQ m ps) := rfl
  have HGB : Hid (QB (gotQ m ps)) := by
    show QB _
    refine RB_QB (k := 1 + (2000 + 1) * ps.length) (sumP_RB ps 0 1 RB_zero fun p hp => ?_) (by omega)
    unfold atQ
    rw [List.getD_eq_getElem?_getD (l := (numM m).getD _ _)]
    cases hh : ((numM m).getD p.1.toNat [])[p.2.toNat]? with
    | none => exact RB_zero.mono (by omega)
    | some x =>
      rw [List.getD_eq_getElem?_getD] at hh
      cases h2 : (numM m)[p.1.toNat]? with
      | none => rw [h2] at hh; simp at hh
      | some r =>
        rw [h2] at hh
        exact numM_RB hrb r (List.mem_of_getElem? h2) x (List.mem_of_getElem? hh)
  have HMO := Lib.hid hm.ok
  have HRC := Lib.hid hm.rect
  have HBAD := Lib.hid hbad
  have HAT := Lib.hid (fun (x y : Nat) (l : List ByteArray) (s : ByteArray) (h : m[x]? = some l) (h2 : l[y]? = some s) => atQ_numM h h2)
  generalize gotQ m ps = got at *
  generalize atQ (numM m) = fat at *
  generalize rowsS m ps = y1 at *
  generalize colsS m ps = y2 at *
  generalize regRows m ps = z1 at *
  generalize regCols m ps = z2 at *
  obtain ⟨us, hr, hul, hel⟩ := hv
  obtain ⟨ao, c, rfl, _, hlen, _, hc⟩ := hr
  obtain ⟨bo, d, rfl, hul2, hpc⟩ := hu
  rw [he] at *
  have HMC := Lib.hid hc
  have HEL := Lib.hid hel
  have HUL := Lib.hid hul
  have HPC := Lib.hid hpc
  have HRL := Lib.hid hrl
  have HCL := Lib.hid hcl
  clear hc hel hul hpc hs he hg0 hm hbad htab hrb hrs hcs hrl hcl
  go_enter Tryz.func42, Tryz.ntmps42
  go_wp2_with fail
  refine HC.out.mono ?_
  rintro e w1 ⟨rfl, X1⟩
  go_wp2_with fail
  refine (HO0.out _).mono ?_
  rintro e w2 ⟨u2, rfl, h2, X2⟩
  obtain ⟨s2, ao3, l2, c3, bo2, m2, d2, rfl, _, _, _⟩ := h2.opn
  obtain ⟨O, hO⟩ : ∃ O, w2.heap.size = O := ⟨_, rfl⟩
  have hA := Lib.hid (Acc.new h2 hO)
  have XW := (X1.trans X2).alloc (.cells #[.bool s2, .slice ao3 l2 c3, .slice bo2 m2 d2] 78)
  have hwO : w.heap.size ≤ O := by have := (X1.trans X2).size; omega
  clear h2 X1 X2 HC HO0
  go_wp2_with fail
  clear hO
  go_loopw [26] (fun iv wr => ∃ (i : Nat) (acc : Rat) (s : Bool) (xo : Option Addr) (xl xc : Nat) (yo : Option Addr) (yl yc : Nat), i ≤ ps.length ∧ iv = .int .i64 i ∧ Hid (Acc wr O s xo xl xc yo yl yc acc) ∧ Hid (RB (1 + 2001 * i) acc) ∧
    Ext w wr ∧ Hid (sumP fat (ps.drop i) acc = got)) (fun iv _ => ps.length - (intOf iv).toNat)
  case atStart => exact ⟨0, 0, s2, ao3, l2, c3, bo2, m2, d2, Nat.zero_le _, rfl, hA, RB_zero, XW, HF⟩
  case round =>
    obtain ⟨i, acc, s, xo, xl, xc, yo, yl, yc, hi, rfl, HA, HAB, X, HI⟩ := hrel
    by_cases hlt : i < ps.length
    · obtain ⟨p, d1, d2, d3⟩ := get_lt hlt
      obtain ⟨b2, off2, rfl, q0, q1⟩ := HPC.out.ext X i p d1.out
      have hbp := HBAD.out p (List.mem_of_getElem? d1.out)
      have hi2 := HI.out
      rw [d2.out, sumP_cons] at hi2
      obtain ⟨x0, y0⟩ := p
      unfold badP at hbp
      rw [decide_eq_false_iff_not] at hbp
      dsimp only at q0 q1 hbp
      obtain ⟨x, rfl⟩ : ∃ x : Nat, x0 = (x : Int) := ⟨x0.toNat, by omega⟩
      obtain ⟨y, rfl⟩ : ∃ y : Nat, y0 = (y : Int) := ⟨y0.toNat, by omega⟩
      obtain ⟨row, e1, _, _⟩ := get_lt (xs := m) (k := x) (by omega)
      obtain ⟨uu, e2, _, _⟩ := get_lt (xs := us) (k := x) (by have := HUL.out; omega)
      have hrw := HRC.out row (List.mem_of_getElem? e1.out)
      obtain ⟨sb, e3, _, _⟩ := get_lt (xs := row) (k := y) (by omega)
      have hok := HMO.out row (List.mem_of_getElem? e1.out) sb (List.mem_of_getElem? e3.out)
      have rbs := ratOf_RB2k hok.1
      rw [HAT.out x y row sb e1.out e3.out] at hi2
      obtain ⟨b, off, rfl, hc0⟩ := HMC.out.ext X x uu e2.out
      obtain ⟨ao6, c6, rfl, hl6, hc6⟩ := (HEL.out x uu row e2.out e1.out).open
      have hc6 := hc6.ext X
      obtain ⟨b7, off7, rfl, hs7⟩ := hc6 y (Value.string sb) (by rw [List.getElem?_map, e3.out]; rfl)
      have HPA := Lib.hid (fun W => parse_any sb W hok.1 hok.2)
      have HAD := Lib.hid (fun (u v : Value) W hu hv => qAdd_any u v acc (ratOf sb) W hu hv (RB_QB HAB.out (by omega)) (RB_QB rbs (by omega)))
      have HBN : Hid (RB (1 + 2001 * (i + 1)) (acc + ratOf sb)) := by
        show RB _ _
        exact (RB_add HAB.out rbs).mono (by omega)
      have HIN := Lib.hid hi2
      have hxn : (x : Int) < (us.length : Int) := by have := HUL.out; omega
      have hyk : (y : Int) < (row.length : Int) := by omega
      have hki : (i : Int) < (ps.length : Int) := by omega
      generalize ratOf sb = qs at *
      obtain ⟨T7, hT7⟩ : ∃ T7, wr.heap.size = T7 := ⟨_, rfl⟩
      obtain ⟨W3, hW3⟩ : ∃ W3, wr.alloc (.cells #[.int .i64 (x : Int), .int .i64 (y : Int)] 32) = W3 := ⟨_, rfl⟩
      have XL : Ext wr W3 := by rw [← hW3]; exact (Ext.refl wr).alloc _
      have p1 : W3.cell? ⟨T7, 0, none⟩ = some (.int .i64 (x : Int)) := by rw [← hW3, ← hT7]; simp [go_sem]
      have p2 : W3.cell? ⟨T7, 1, none⟩ = some (.int .i64 (y : Int)) := by rw [← hW3, ← hT7]; simp [go_sem]
      have r0 : W3.cell? ⟨b, off + x, none⟩ = some (.slice (some ⟨b7, off7, none⟩) row.length c6) := XL.cell hc0
      have r1 : W3.cell? ⟨b7, off7 + y, none⟩ = some (.string sb) := XL.cell hs7
      have HA4 := Lib.hid (HA.out.ext XL)
      have XA := X.trans XL
      have k0 := HA4.out.c0
      have k1 := HA4.out.c1
      have k2 := HA4.out.c2
      clear hlt hbp hrw hok rbs hi2 hc0 hs7 hc6 HA X XL hl6
      go_wp2_with fail
      clear hT7 hW3 q0 q1
      go_region_law (first
        | (go_simp; go_at_call 88; refine (HPA.out _).mono ?_; rintro e wm ⟨um, rfl, hm, Ym⟩; obtain ⟨s8, ao8, l8, c8, bo8, m8, d8, rfl, _, _, _⟩ := hm.opn; have Xm : Ext W3 wm := (Ext.refl W3).drew.trans Ym; have k0 := Xm.cell k0; have k1 := Xm.cell k1; have k2 := Xm.cell k2; have HM := Lib.hid hm; clear hm)
        | (go_simp; go_at_call 52; refine (HAD.out _ _ _ (by exact HA4.out.val.ext Xm) (by exact HM.out)).mono ?_; rintro e wa ⟨ua, rfl, ha, Ya⟩; obtain ⟨s9, ao9, l9, c9, bo9, m9, d9, rfl, _, _, _⟩ := ha.opn; have Xa : Ext W3 wa := Xm.trans Ya; have HV := Lib.hid ha; have HAa := Lib.hid (HA4.out.ext Xa); have T := st3 HAa.out.row; have f0 := T.f0; have c0 := T.c0; have f1 := T.f1; have c1 := T.c1; have f2 := T.f2; have c2 := T.c2; clear ha T))
      all_goals
        obtain ⟨w7, h7, hgr, hput⟩ := HAa.out.put HV.out
        rw [h7]
        have HP := Lib.hid hput
        have X7 := (XA.trans Xa).grown hgr hwO
        clear h7 hput f0 c0 f1 c1 f2 c2 k0 k1 k2 p1 p2 r0 r1 hgr
        go_wp2_with fail
        go_roundw
        case rel => exact ⟨i + 1, acc + qs, s9, ao9, l9, c9, bo9, m9, d9, by omega, by go_num, HP, HBN, X7, HIN⟩
        case measure => simp [intOf] <;> omega
    · have hil : ps.length = i := by omega
      have hi2 := HI.out
      rw [← hil, List.drop_length, sumP_nil] at hi2
      subst hi2
      clear hil HAB HI
      go_wp2_with fail
      refine (HSU.out _ X).mono ?_
      rintro e w5 ⟨r1, r2, C, rfl, hr1, hr2, hrC, hC, X5⟩
      obtain ⟨g1, cap1, rfl, hg1, hg1s⟩ := hr1.head (by have := HRL.out; omega)
      obtain ⟨g2, cap2, rfl, hg2, hg2s⟩ := hr2.head (by have := HCL.out; omega)
      have hgC := hrC g1 rfl
      have hOw : O < wr.heap.size := World.block_lt_of_cell? wr _ HA.out.c0
      have hg12 : g1 ≠ g2 := by omega
      have hO1 : O ≠ g1 := by omega
      have hO2 : O ≠ g2 := by omega
      have hwg1 : w.heap.size ≤ g1 := by omega
      have hwg2 : w.heap.size ≤ g2 := by omega
      have HQ1 := Lib.hid hr1
      have HQ2 := Lib.hid hr2
      have HA5 := Lib.hid (HA.out.ext X5)
      have XX := X.trans X5
      have hrli : (y1.length : Int) ≤ 40 := by have := HRL.out; omega
      have hcli : (y2.length : Int) ≤ 40 := by have := HCL.out; omega
      clear hr1 hr2 hrC hC X5 HA X hg1s hg2s hgC hOw hg1 hg2
      obtain ⟨BB1, hBB1⟩ : ∃ B, wr.heap.size = B := ⟨_, rfl⟩
      rw [hBB1] at HQ1
      clear hBB1
      go_wp2_with fail
      go_loopw [51] (fun iv wr => ∃ (i : Nat), i ≤ y1.length ∧ iv = .int .i64 i ∧ Hid (QsO wr BB1 (.slice (some ⟨g1, 0, none⟩) y1.length cap1) (subTo (· - acc) y1 i)) ∧ Hid (QsO wr C (.slice (some ⟨g2, 0, none⟩) y2.length cap2) y2) ∧ Hid (Acc wr O s xo xl xc yo yl yc acc) ∧ Ext w wr) (fun iv _ => y1.length - (intOf iv).toNat)
      case atStart => exact ⟨0, Nat.zero_le _, rfl, by show QsO _ _ _ _; rw [subTo_zero]; exact HQ1.out, HQ2, HA5, XX⟩
      case round =>
        clear HA5 XX HQ1 HQ2
        obtain ⟨i, hi, rfl, HQ, HOT, HA, X⟩ := hrel
        by_cases hlt : i < y1.length
        · obtain ⟨q, e1, _, _⟩ := get_lt hlt
          have hln := subTo_len (· - acc) y1 i
          have hqi := subTo_get (f := (· - acc)) e1.out
          have HST := Lib.hid (subTo_set (f := (· - acc)) e1.out)
          have HQB := Lib.hid (HR1.out q (List.mem_of_getElem? e1.out))
          have hil : i < (subTo (· - acc) y1 i).length := by omega
          have hle : (subTo (· - acc) y1 i).length ≤ 17592186044416 := by omega
          have hki : (i : Int) < (y1.length : Int) := by omega
          obtain ⟨Y2, hY2⟩ : ∃ Y2, subTo (· - acc) y1 (i + 1) = Y2 := ⟨_, rfl⟩
          rw [hY2] at HST
          have HY22 := Lib.hid hY2
          clear hY2
          generalize subTo (· - acc) y1 i = Y1 at *
          obtain ⟨g', s5, ao5, l5, c5, bo5, m5, d5, hg', e0, e1, e2, hq5⟩ := HQ.out.cells hle i q hqi
          simp only [Option.some.injEq, Addr.mk.injEq, and_true] at hg'
          subst hg'
          have HSB := Lib.hid (fun (u v : Value) W hu hv => qSub_any u v q acc W hu hv HQB.out HGB.out)
          obtain ⟨T7, hT7⟩ : ∃ T7, wr.heap.size = T7 := ⟨_, rfl⟩
          obtain ⟨W3, hW3⟩ : ∃ W3, wr.alloc (.cells #[.bool s5, .slice ao5 l5 c5, .slice bo5 m5 d5] 78) = W3 := ⟨_, rfl⟩
          have XL : Ext wr W3 := by rw [← hW3]; exact (Ext.refl wr).alloc _
          have t0 : W3.cell? ⟨T7, 0, none⟩ = some (.bool s5) := by rw [← hW3, ← hT7]; simp [go_sem]
          have t1 : W3.cell? ⟨T7, 1, none⟩ = some (.slice ao5 l5 c5) := by rw [← hW3, ← hT7]; simp [go_sem]
          have t2 : W3.cell? ⟨T7, 2, none⟩ = some (.slice bo5 m5 d5) := by rw [← hW3, ← hT7]; simp [go_sem]
          have HQ5 := Lib.hid (hq5.ext XL)
          have HQ3 := Lib.hid (HQ.out.ext XL)
          have HO3 := Lib.hid (HOT.out.ext XL)
          have HA3 := Lib.hid (HA.out.ext XL)
          have X3 := X.trans XL
          have k0 := HA3.out.c0
          have k1 := HA3.out.c1
          have k2 := HA3.out.c2
          clear hq5 hlt HQ HOT HA X XL hqi hln hle
          go_wp2_with fail
          clear hT7 hW3 e0 e1 e2
          refine (HSB.out _ _ _ (by exact HQ5.out) (by exact HA3.out.val)).mono ?_
          rintro e wa ⟨ua, rfl, ha, Xa⟩
          obtain ⟨s9, ao9, l9, c9, bo9, m9, d9, rfl, _, _, _⟩ := ha.opn
          obtain ⟨x9, y9, z9, hst, hput⟩ := (HQ3.out.ext Xa).stored hil
          obtain ⟨w7, h7, hgr, hO7⟩ := hput _ _ _ _ _ _ _ _ ha
          have f0 := hst.f0
          have c0 := hst.c0
          have f1 := hst.f1
          have c1 := hst.c1
          have f2 := hst.f2
          have c2 := hst.c2
          have HCL := (HQ3.out.ext Xa).clean
          have HP := hO7
          rw [HST.out] at HP
          have HP := Lib.hid HP
          have HOP := Lib.hid (QsO.kept (v := .slice (some ⟨g1, 0, none⟩) y1.length cap1) HCL hgr (HO3.out.ext Xa) (.inr (by simp [Value.ownBlock]; omega)))
          have HAP := Lib.hid ((HA3.out.ext Xa).kept HCL rfl hgr (by omega))
          have X7 := (X3.trans Xa).grown hgr (by omega)
          clear t0 t1 t2 k0 k1 k2 hst hput hO7 HCL hgr
          go_wp2_with fail
          go_roundw
          case rel => exact ⟨i + 1, by omega, by go_num, by show QsO _ _ _ _; rw [HY22.out]; exact HP.out, HOP, HAP, X7⟩
          case measure => simp [intOf] <;> omega
        · have hil : y1.length = i := by omega
          have HQ9 := HQ.out
          rw [← hil, HY1.out] at HQ9
          have HZ1 := Lib.hid HQ9
          have HQ2 := HOT
          have HA5 := HA
          have XX := X
          clear hil HQ HQ9 HOT HA X hi
          go_wp2_with fail
          go_loopw [65] (fun iv wr => ∃ (i : Nat), i ≤ y2.length ∧ iv = .int .i64 i ∧ Hid (QsO wr C (.slice (some ⟨g2, 0, none⟩) y2.length cap2) (subTo (acc - ·) y2 i)) ∧ Hid (QsO wr BB1 (.slice (some ⟨g1, 0, none⟩) y1.length cap1) z1) ∧ Hid (Acc wr O s xo xl xc yo yl yc acc) ∧ Ext w wr) (fun iv _ => y2.length - (intOf iv).toNat)
          case atStart => exact ⟨0, Nat.zero_le _, rfl, by show QsO _ _ _ _; rw [subTo_zero]; exact HQ2.out, HZ1, HA5, XX⟩
          case round =>
            clear HA5 XX HQ2 HZ1
            obtain ⟨i, hi, rfl, HQ, HOT, HA, X⟩ := hrel
            by_cases hlt : i < y2.length
            · obtain ⟨q, e1, _, _⟩ := get_lt hlt
              have hln := subTo_len (acc - ·) y2 i
              have hqi := subTo_get (f := (acc - ·)) e1.out
              have HST := Lib.hid (subTo_set (f := (acc - ·)) e1.out)
              have HQB := Lib.hid (HR2.out q (List.mem_of_getElem? e1.out))
              have hil : i < (subTo (acc - ·) y2 i).length := by omega
              have hle : (subTo (acc - ·) y2 i).length ≤ 17592186044416 := by omega
              have hki : (i : Int) < (y2.length : Int) := by omega
              obtain ⟨Y2, hY2⟩ : ∃ Y2, subTo (acc - ·) y2 (i + 1) = Y2 := ⟨_, rfl⟩
              rw [hY2] at HST
              have HY22 := Lib.hid hY2
              clear hY2
              generalize subTo (acc - ·) y2 i = Y1 at *
              obtain ⟨g', s5, ao5, l5, c5, bo5, m5, d5, hg', e0, e1, e2, hq5⟩ := HQ.out.cells hle i q hqi
              simp only [Option.some.injEq, Addr.mk.injEq, and_true] at hg'
              subst hg'
              have HSB := Lib.hid (fun (u v : Value) W hu hv => qSub_any u v acc q W hu hv HGB.out HQB.out)
              obtain ⟨T7, hT7⟩ : ∃ T7, wr.heap.size = T7 := ⟨_, rfl⟩
              obtain ⟨W3, hW3⟩ : ∃ W3, wr.alloc (.cells #[.bool s5, .slice ao5 l5 c5, .slice bo5 m5 d5] 78) = W3 := ⟨_, rfl⟩
              have XL : Ext wr W3 := by rw [← hW3]; exact (Ext.refl wr).alloc _
              have t0 : W3.cell? ⟨T7, 0, none⟩ = some (.bool s5) := by rw [← hW3, ← hT7]; simp [go_sem]
              have t1 : W3.cell? ⟨T7, 1, none⟩ = some (.slice ao5 l5 c5) := by rw [← hW3, ← hT7]; simp [go_sem]
              have t2 : W3.cell? ⟨T7, 2, none⟩ = some (.slice bo5 m5 d5) := by rw [← hW3, ← hT7]; simp [go_sem]
              have HQ5 := Lib.hid (hq5.ext XL)
              have HQ3 := Lib.hid (HQ.out.ext XL)
              have HO3 := Lib.hid (HOT.out.ext XL)
              have HA3 := Lib.hid (HA.out.ext XL)
              have X3 := X.trans XL
              have k0 := HA3.out.c0
              have k1 := HA3.out.c1
              have k2 := HA3.out.c2
              clear hq5 hlt HQ HOT HA X XL hqi hln hle
              go_wp2_with fail
              clear hT7 hW3 e0 e1 e2
              refine (HSB.out _ _ _ (by exact HA3.out.val) (by exact HQ5.out)).mono ?_
              rintro e wa ⟨ua, rfl, ha, Xa⟩
              obtain ⟨s9, ao9, l9, c9, bo9, m9, d9, rfl, _, _, _⟩ := ha.opn
              obtain ⟨x9, y9, z9, hst, hput⟩ := (HQ3.out.ext Xa).stored hil
              obtain ⟨w7, h7, hgr, hO7⟩ := hput _ _ _ _ _ _ _ _ ha
              have f0 := hst.f0
              have c0 := hst.c0
              have f1 := hst.f1
              have c1 := hst.c1
              have f2 := hst.f2
              have c2 := hst.c2
              have HCL := (HQ3.out.ext Xa).clean
              have HP := hO7
              rw [HST.out] at HP
              have HP := Lib.hid HP
              have HOP := Lib.hid (QsO.kept (v := .slice (some ⟨g2, 0, none⟩) y2.length cap2) HCL hgr (HO3.out.ext Xa) (.inr (by simp [Value.ownBlock]; omega)))
              have HAP := Lib.hid ((HA3.out.ext Xa).kept HCL rfl hgr (by omega))
              have X7 := (X3.trans Xa).grown hgr (by omega)
              clear t0 t1 t2 k0 k1 k2 hst hput hO7 HCL hgr
              go_wp2_with fail
              go_roundw
              case rel => exact ⟨i + 1, by omega, by go_num, by show QsO _ _ _ _; rw [HY22.out]; exact HP.out, HOP, HAP, X7⟩
              case measure => simp [intOf] <;> omega
            · have hil : y2.length = i := by omega
              have HQ9 := HQ.out
              rw [← hil, HY2.out] at HQ9
              have HZ2 := Lib.hid HQ9
              have HZ1 := HOT
              have HA5 := HA
              have XX := X
              clear hil HQ HQ9 HOT HA X hi
              go_wp2_with fail
              refine (HBO.out _ _ _ XX (HZ1.out.toV (by have := HY1L.out; omega)) (HZ2.out.toV (by have := HY2L.out; omega))).mono ?_
              intro e w9 h9
              unfold BothPost at h9 ⊢
              obtain ⟨X9, h9⟩ := h9
              rcases h9 with ⟨os, ps2, u1, u2, hn1, hn2, rfl, hst1, hst2⟩ | ⟨hn, rfl⟩
              · obtain ⟨ao1, c1, rfl, _, _⟩ := hst1.open
                obtain ⟨ao2, c2, rfl, _, _⟩ := hst2.open
                have H1 := Lib.hid hst1
                have H2 := Lib.hid hst2
                clear hst1 hst2
                go_wp2_with fail
                go_ret3
                exact ⟨XX.trans X9, .inl ⟨os, ps2, _, _, hn1, hn2, rfl, H1.out, H2.out⟩⟩
              · go_wp2_with fail
                go_ret3
                exact ⟨XX.trans X9, .inr ⟨hn, rfl⟩⟩
end Go.Proofs.YtjnaecicdaiimaaGreatDoor
