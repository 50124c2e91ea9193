/- walks of the package cards: Draws -/
import Derived.Test.YtllhgkacbpgemaaDoorCards4
namespace Go.Proofs.YtllhgkacbpgemaaDoor
open Go.RowKit
set_option linter.unusedVariables false

def drawsGo (to : List Int) : Nat → List Int → List Int → List Int
  | 0, _, out => out
  | i + 1, now, out => drawsGo to i (swapI now (i + 1) (idxI (to.getD (i + 1) 0) now 0).toNat) (out ++ [idxI (to.getD (i + 1) 0) now 0])
/-- the draws between two decks -/
def drawsF (frm to : List Int) : List Int := drawsGo to (to.length - 1) frm []

theorem idxI_lt (x : Int) (ys : List Int) : ∀ k, 0 ≤ k → idxI x ys k < k + ys.length ∨ idxI x ys k = -1 := by
  induction ys with
  | nil => intro k _; right; rfl
  | cons y ys ih =>
    intro k hk
    simp only [idxI]
    split
    · left; simp; omega
    · rcases ih (k + 1) (by omega) with h | h
      · left; simp only [List.length_cons]; omega
      · right; exact h

theorem idxI_in {x : Int} {ys : List Int} (h : x ∈ ys) : ∃ d : Nat, idxI x ys 0 = d ∧ d < ys.length := by
  have h1 := (idxI_ge x ys 0 (Int.le_refl _)).2 h
  rcases idxI_lt x ys 0 (Int.le_refl _) with h2 | h2
  · exact ⟨(idxI x ys 0).toNat, by omega, by omega⟩
  · omega

theorem mem_swapI {l : List Int} {i d : Nat} {x : Int} (hi : i < l.length) (hd : d < l.length) (h : x ∈ l) : x ∈ swapI l i d := by
  obtain ⟨k, hk, rfl⟩ := List.mem_iff_getElem.1 h
  unfold swapI
  by_cases h1 : k = i
  · subst h1
    apply List.mem_iff_getElem?.2
    exact ⟨d, by simp [List.getElem?_set, hd, hk, List.getD_eq_getElem?_getD]⟩
  · by_cases h2 : k = d
    · subst h2
      apply List.mem_iff_getElem?.2
      refine ⟨i, ?_⟩
      have h3 : ¬ k = i := h1
      simp [List.getElem?_set, h3, hi, hd, hk, List.getD_eq_getElem?_getD]
    · apply List.mem_iff_getElem?.2
      refine ⟨k, ?_⟩
      have h3 : ¬ i = k := fun e => h1 e.symm
      have h4 : ¬ d = k := fun e => h2 e.symm
      simp [List.getElem?_set, h3, h4, hk]

set_option maxHeartbeats 400000 in
theorem draws1_any (c : Int) (a : Addr) (v : Value) (xs : List Int) (w : World) (ha : w.cell? a = some v) (hv : Ints w v xs) (q : Bool) (hq : Hid (decide (c ∈ xs) = q)) :
    Calls Tryd.prog 54 #[.int .i64 c, .pointer (some a)] w fun e w' => e = .returned (.bool (!q)) ∧ Ext w w' := by
  have HC := Lib.hid (contains_ints v xs c w hv q hq)
  clear hv
  go_enter Tryd.func54, Tryd.ntmps54
  go_wp2_with fail
  refine HC.out.mono ?_
  rintro e w1 ⟨rfl, rfl⟩
  go_wp2_with fail
  go_ret
  exact ⟨rfl, Ext.refl _⟩

theorem drawsGo_step (to now out : List Int) (t : Nat) (x : Int) (d : Nat) (h : Hid (to[t + 1]? = some x)) (hd : idxI x now 0 = d) (Q : List Int) (hQ : Hid (drawsGo to (t + 1) now out = Q)) : Hid (drawsGo to t (swapI now (t + 1) d) (out ++ [(d : Int)]) = Q) := by
  have e : to.getD (t + 1) 0 = x := by rw [List.getD_eq_getElem?_getD, h.out]; rfl
  have := hQ.out
  simp only [drawsGo] at this
  rw [e, hd] at this
  simpa [Hid] using this

set_option maxHeartbeats 1600000 in
set_option maxRecDepth 100000 in
theorem draws_ok (u v : Value) (xs ys : List Int) (w : World) (hu : Ints w u xs) (hv : Ints w v ys) (h1 : deckErr xs = 0) (h2 : deckErr ys = 0) (hl : xs.length = ys.length) (hin : ∀ y ∈ ys, y ∈ xs) (hn : 1 ≤ ys.length) :
    Calls Tryd.prog 35 #[u, v] w fun e w' => ∃ r, e = .returned (.tuple #[r, .int .i64 0]) ∧ Ints w' r (drawsF xs ys) ∧ Ext w w' := by
  have h52 := (deckErr_zero h2).1
  have HC1 := fun (W : World) (hW : Ext w W) => check_any u xs W (hu.ext hW)
  have HC2 := fun (W : World) (hW : Ext w W) => check_any v ys W (hv.ext hW)
  rw [h1] at HC1
  rw [h2] at HC2
  have HC1 := Lib.hid HC1
  have HC2 := Lib.hid HC2
  have HCF := Lib.hid (fun (W : World) (a : Addr) (hW : Ext w W) (ha : W.cell? a = some u) => containsFunc_ints v (ys.map (Value.int .i64)) (ys.map fun _ => false) 54 #[.pointer (some a)] W (hv.ext hW) (by simp) (fun _ _ => by kernel_rfl)
    (fun i x q W2 g1 g2 hx => by
      simp only [List.getElem?_map, Option.map_eq_some_iff] at g1 g2
      obtain ⟨y, hy, rfl⟩ := g1
      obtain ⟨_, _, rfl⟩ := g2
      exact draws1_any y a u xs W2 (hx.cell ha) (hu.ext (hW.trans hx)) true (by simpa [Hid] using hin y (List.mem_of_getElem? hy))) false (by simp [Hid, List.any_map]))
  have HK := Lib.hid (fun (W : World) (hW : Ext w W) => clone_ints u xs W (hu.ext hW))
  obtain ⟨uo, uc, rfl, _, _⟩ := hu.open
  obtain ⟨vo, vc, rfl, _, hvc⟩ := hv.open
  have HVC := Lib.hid hvc
  obtain ⟨n, hn2⟩ : ∃ n, Hid (ys.length = n) := ⟨_, rfl⟩
  have hxn : xs.length = n := by rw [hl]; exact hn2.out
  have HXN := Lib.hid hxn
  rw [hn2.out] at h52 hn HC2 HCF ⊢
  rw [hxn] at HC1 HCF HK ⊢
  have HIN := Lib.hid hin
  obtain ⟨Q, hQ⟩ : ∃ Q, Hid (drawsF xs ys = Q) := ⟨_, rfl⟩
  rw [hQ.out]
  have hnb : (((n : Nat) : Int) != (n : Int)) = false := by simp
  clear hu hv h1 h2 hl hin hxn hvc
  go_enter Tryd.func35, Tryd.ntmps35
  go_wp2_with fail
  refine (HC1.out _ (by exact (Ext.refl w).alloc _)).mono ?_
  rintro e w' ⟨rfl, rfl⟩
  go_wp2_with fail
  refine (HC2.out _ (by exact (Ext.refl w).alloc _)).mono ?_
  rintro e w' ⟨rfl, rfl⟩
  go_wp2_with fail
  refine (HCF.out _ _ (by exact (Ext.refl w).alloc _) (by simp [World.cell?_alloc_new])).mono ?_
  rintro e w2 ⟨rfl, hx2⟩
  have hcb := hx2.cell (p := ⟨w.heap.size, 0, none⟩) (v := .slice uo n uc) (by simp [World.cell?_alloc_new])
  have X2 := ((Ext.refl w).alloc _).trans hx2
  go_wp2_with fail
  refine (HK.out _ (by exact X2)).mono ?_
  rintro e w3 ⟨r, rfl, hO3, hx3⟩
  obtain ⟨g, cap, rfl, hg1, hg2⟩ := own_open hO3 (by omega)
  have X3 := X2.trans hx3
  have hB3 : w2.heap.size ≤ w3.heap.size := hx3.size
  have hBw : w.heap.size ≤ w2.heap.size := X2.size
  have HO3 := Lib.hid hO3
  clear hO3 hx3 hx2 hcb X2
  go_wp2_with fail
  go_loopw [9, 10] (fun u i wr => ∃ (t m : Nat) (now out : List Int), t < n ∧ i = .int .i64 t ∧ m + t < n ∧ Ext w wr ∧ w3.heap.size ≤ wr.heap.size ∧ wr.ownsRow w2.heap.size 3 1 (.slice (some ⟨g, 0, none⟩) n cap) n (now.map (Value.int .i64)) ∧ wr.ownsRow w3.heap.size 3 1 u m (out.map (Value.int .i64)) ∧ Hid (now.length = n) ∧ Hid (∀ y ∈ ys, y ∈ now) ∧ Hid (drawsGo ys t now out = Q)) (fun _ i _ => (intOf i).toNat)
  case atStart =>
    refine ⟨n - 1, 0, xs, [], by omega, by congr 1; omega, by omega, X3, Nat.le_refl _, HO3.out, World.ownsRow_nil _ _ _ _, HXN.out, HIN.out, ?_⟩
    have := hQ.out
    unfold drawsF at this
    rw [hn2.out] at this
    exact this
  case round =>
    obtain ⟨t, m, now, out, ht, rfl, hmt, HX, hszw, HN, HOU, HL, HM, HI⟩ := hrel
    cases t with
    | zero =>
      go_wp2_with fail
      go_ret2
      have hq : out = Q := HI.out
      exact ⟨_, rfl, by rw [← hq]; exact own_rowOf HOU (by omega), HX⟩
    | succ t =>
      obtain ⟨x, x1, _, _⟩ := get_lt (xs := ys) (k := t + 1) (by rw [hn2.out]; exact ht)
      obtain ⟨b, off, rfl, hcell0⟩ := HVC.out.at x1
      have hcell := HX.cell hcell0
      clear hcell0
      obtain ⟨d, hd, hdl⟩ := idxI_in (HM.out x (List.mem_of_getElem? x1.out))
      rw [HL.out] at hdl
      have HST := drawsGo_step ys now out t x d x1 hd Q HI
      have HIX := Lib.hid (index_ints (.slice (some ⟨g, 0, none⟩) n cap) now x wr (by have := own_rowOf HN (by omega); exact this) d hd)
      obtain ⟨y1, e1, _, _⟩ := get_lt (xs := now) (k := t + 1) (by rw [HL.out]; exact ht)
      obtain ⟨y2, e2, _, _⟩ := get_lt (xs := now) (k := d) (by rw [HL.out]; exact hdl)
      have c1 := own_cell HN (j := t + 1) (x := .int .i64 y1) (by simp [Hid, e1.out])
      have c2 := own_cell HN (j := d) (x := .int .i64 y2) (by simp [Hid, e2.out])
      have f1 := HN.frozenAt (t + 1)
      have f2 := HN.frozenAt d
      have s1 := HN.stored (t + 1) (.int .i64 y2)
      obtain ⟨z3, hz3, _, _⟩ := get_lt (xs := (now.map (Value.int .i64)).set (t + 1) (.int .i64 y2)) (k := d) (by rw [List.length_set, List.length_map, HL.out]; exact hdl)
      have c3 := own_cell s1.1 (j := d) hz3
      have s2 := s1.1.stored d (.int .i64 y1)
      rw [swapI_map now (t + 1) d y1 y2 e1.out e2.out] at s2
      have H2 := Lib.hid s2.1
      have hgo : ∀ k, u9.ownBlock = some k → g ≠ k := fun k hk => by have := (HOU.lt k hk).1; omega
      have HOU2 := Lib.hid (own_kept (own_kept HOU s1.2 (by
        cases hb : u9.ownBlock with
        | none => exact .inr rfl
        | some k => left; simp [Value.ownBlock]; exact fun e => hgo k hb e.symm)) s2.2 (by
        cases hb : u9.ownBlock with
        | none => exact .inr rfl
        | some k => left; simp [Value.ownBlock]; exact fun e => hgo k hb e.symm))
      have hgu : u9.ownBlock ≠ some g := fun e => hgo g e rfl
      have HGU := Lib.hid hgu
      have hdi : ((d : Nat) : Int) ≤ n := by omega
      have hg3 : g < w3.heap.size := hg2
      clear s1 s2 hgo hgu hd
      go_wp2_with fail
      refine HIX.out.mono ?_
      rintro e w5 ⟨rfl, rfl⟩
      go_wp2_with fail
      go_region
      all_goals
        go_wp2_with (at_builtin; refine wp_app1 rfl rfl ei_ints (own_ext HOU2.out (Ext.refl _).drew) rfl rfl (by simp) rfl (by omega) (by omega) (by simp; omega) ?_; intro v' w' hown hgrew)
        go_roundw
        case rel =>
          refine ⟨t, m + 1, swapI now (t + 1) d, out ++ [(d : Int)], by omega, by go_num, by omega, ?_, ?_, ?_, by rw [List.map_append]; exact hown, by show _ = _; rw [swapI_len]; exact HL.out, fun y hy => mem_swapI (by rw [HL.out]; exact ht) (by rw [HL.out]; exact hdl) (HM.out y hy), HST.out⟩
          · exact hgrew.extNew (((HX.setCell (by simp; omega) _).setCell (by simp; omega) _).drew) (own_ext HOU2.out (Ext.refl _).drew) (by omega)
          · have := hgrew.by'.size; simp at this; omega
          · exact own_kept (own_ext H2.out (Ext.refl _).drew) hgrew.by' (.inl (fun e => HGU.out e.symm))
        case measure => simp [intOf]
end Go.Proofs.YtllhgkacbpgemaaDoor
