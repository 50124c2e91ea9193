/- walks of the package ranks: classOf -/
import Derived.Test.YtllhgkacbpgemaaRanks8
namespace Go.Proofs.Ytllhgkacbpgemaa
open Go.RowKit
set_option linter.unusedVariables false

def flushF (xs : List Int) : Bool := xs.all fun x => decide (x / 13 = xs.headD 0 / 13)
/-- the class, of what order gives -/
def clsP (line flush : Bool) (o0 o1 : Nat) : Int :=
  if flush && line then 8 else if o0 = 4 then 7 else if o0 = 3 ∧ o1 = 2 then 6 else if flush then 5 else if line then 4 else if o0 = 3 then 3 else if o0 = 2 ∧ o1 = 2 then 2 else if o0 = 2 then 1 else 0
def lineP (xs : List Int) : Bool := decide (0 ≤ strP (ordL (cntN xs)))
def classP (xs : List Int) : Int := clsP (lineP xs) (flushF xs) (((ordL (cntN xs)).map (cntN xs)).getD 0 0) (((ordL (cntN xs)).map (cntN xs)).getD 1 0)

/-- what holds of the ranks of a hand -/
structure GoodP (xs : List Int) : Prop where
  len : (rankL (cntN xs) 13).length ≤ 5
  pos : 0 < (rankL (cntN xs) 13).length
  two : (((ordL (cntN xs)).map (cntN xs)).getD 0 0 = 3 ∨ ((ordL (cntN xs)).map (cntN xs)).getD 0 0 = 2) → 2 ≤ (ordL (cntN xs)).length

theorem suit_any (x h : Int) (rest : List Int) (a b off : Nat) (cap len : Nat) (W : World) (hx : 0 ≤ x ∧ x ≤ 51) (hh : 0 ≤ h ∧ h ≤ 51)
    (h1 : W.cell? ⟨a, 0, none⟩ = some (.slice (some ⟨b, off, none⟩) len cap)) (h2 : W.cell? ⟨b, off, none⟩ = some (.int .i64 h)) (hl : 0 < len) (q : Bool) (hq : Hid (decide (x / 13 ≠ h / 13) = q)) :
    Calls Try.prog 83 #[.int .i64 x, .pointer (some ⟨a, 0, none⟩)] W fun e W' => e = .returned (.bool q) ∧ Ext W W' := by
  obtain ⟨x0, x51⟩ := hx
  obtain ⟨g0, g51⟩ := hh
  have hli : (0 : Int) < (len : Int) := by omega
  have hb : (x / 13 != h / 13) = q := by
    rw [← hq.out]
    by_cases e : x / 13 = h / 13 <;> simp [e]
  have HB := Lib.hid hb
  clear hb
  go_enter Try.func83, Try.ntmps83
  go_wp2_with fail
  go_ret
  exact ⟨ret_bool HB.out, Ext.refl W⟩

set_option maxHeartbeats 1600000 in
set_option maxRecDepth 100000 in
theorem classOf_any (v : Value) (xs : List Int) (w : World) (hv : Ints w v xs) (hx : ∀ x ∈ xs, 0 ≤ x ∧ x ≤ 51) (h52 : xs.length ≤ 52) (hg : GoodP xs) (q : Int) (hq : Hid (classP xs = q)) :
    Calls Try.prog 65 #[v] w fun e w' => e = .returned (.int .i64 q) ∧ Ext w w' := by
  have HO := Lib.hid (fun (W : World) (hW : Ext w W) => order_any v xs W (hv.ext hW) hx h52 hg.len hg.pos)
  obtain ⟨line, hline⟩ : ∃ b, Hid (lineP xs = b) := ⟨_, rfl⟩
  obtain ⟨flush, hflush⟩ : ∃ b, Hid (flushF xs = b) := ⟨_, rfl⟩
  have htwo := hg.two
  have hq2 := hq.out
  rw [classP, hline.out, hflush.out] at hq2
  have hxne : ∃ x0 l, xs = x0 :: l := by
    cases xs with
    | nil => exact absurd hg.pos (by decide)
    | cons a l => exact ⟨a, l, rfl⟩
  obtain ⟨x0, xl, hxe⟩ := hxne
  have hh0 := hx x0 (by rw [hxe]; simp)
  obtain ⟨ao, c, rfl, hlen, hc⟩ := hv.open
  have hx00 : Hid (xs[0]? = some x0) := by show _ = _; rw [hxe]; rfl
  obtain ⟨bk, off, rfl, hc0⟩ := hc.at hx00
  rw [Nat.add_zero] at hc0
  have hlp : 0 < xs.length := by rw [hxe]; simp
  have HCF := Lib.hid (fun (W : World) (a : Nat) (hW : Ext w W) (ha : W.cell? ⟨a, 0, none⟩ = some (.slice (some ⟨bk, off, none⟩) xs.length c)) =>
    containsFunc_ints (.slice (some ⟨bk, off, none⟩) xs.length c) (xs.map (Value.int .i64)) (xs.map fun x => decide (x / 13 ≠ x0 / 13)) 83 #[.pointer (some ⟨a, 0, none⟩)] W (hv.ext hW) (by simp) (fun _ _ => by kernel_rfl)
    (fun i u q W2 g1 g2 hW2 => by
      simp only [List.getElem?_map, Option.map_eq_some_iff] at g1 g2
      obtain ⟨y, hy, rfl⟩ := g1
      obtain ⟨y2, hy2, rfl⟩ := g2
      rw [hy] at hy2
      cases hy2
      exact suit_any y x0 [] a bk off c xs.length W2 (hx y (List.mem_of_getElem? hy)) hh0 (hW2.cell ha) ((hW.trans hW2).cell hc0) hlp _ rfl)
    (!flush) (by
      show _ = _
      rw [← hflush.out, flushF, hxe]
      simp [List.all_eq_not_any_not, Function.comp_def]))
  obtain ⟨M, hM⟩ : ∃ M, Hid (ordL (cntN xs) = M) := ⟨_, rfl⟩
  obtain ⟨cn, hcn⟩ : ∃ cn, Hid (cntN xs = cn) := ⟨_, rfl⟩
  have HQ := Lib.hid hq2
  have HTWO := Lib.hid htwo
  have hM13 : ∀ x ∈ ordL (cntN xs), x < 13 := fun x h => rankL_lt (isort_mem h)
  have hMl : (ordL (cntN xs)).length ≤ 5 := by rw [ordL, isort_len]; exact hg.len
  have hMp : 0 < (ordL (cntN xs)).length := by rw [ordL, isort_len]; exact hg.pos
  have hls : lineP xs = decide (0 ≤ strP (ordL (cntN xs))) := rfl
  have HLS := Lib.hid hls
  have HM13 := Lib.hid hM13
  have HML := Lib.hid hMl
  have HMP := Lib.hid hMp
  clear hv hx hc hg hq hq2 htwo hxe hx00 hc0 hM13 hMl hMp hls hh0
  go_enter Try.func65, Try.ntmps65
  go_wp2_with fail
  refine (HO.out _ (by exact (Ext.refl w).alloc _)).mono ?_
  rintro e w1 hP
  obtain ⟨u1, u2, rfl, R1, R2, hx1⟩ := hP
  have R1' := Lib.hid R1
  have R2' := Lib.hid R2
  obtain ⟨ro, rc, rfl, _, _⟩ := R1.open
  obtain ⟨ta, tc, rfl, _, htc⟩ := R2.open
  have HTC := Lib.hid htc
  have X1 := ((Ext.refl w).alloc (.cells #[.slice (some ⟨bk, off, none⟩) xs.length c] 22)).trans hx1
  have cb := hx1.cell (p := ⟨w.heap.size, 0, none⟩) (v := .slice (some ⟨bk, off, none⟩) xs.length c) (by simp)
  have HCb := Lib.hid (HCF.out w1 w.heap.size X1 cb)
  have hrl : (ordL (cntN xs)).length = M.length := by rw [hM.out]
  have hrl2 : ((ordL (cntN xs)).map (cntN xs)).length = M.length := by rw [List.length_map, hM.out]
  rw [hrl] at R1' ⊢
  rw [hrl2] at R2' ⊢
  have hMl := HML.out
  have hMp := HMP.out
  rw [hrl] at hMl hMp
  obtain ⟨o0, ho0, _, _⟩ := get_lt (xs := (ordL (cntN xs)).map (cntN xs)) (k := 0) (by rw [hrl2]; exact hMp)
  obtain ⟨tb, toff, rfl, c0⟩ := HTC.out.at ho0
  rw [Nat.add_zero] at c0
  have hq3 := HQ.out
  have htw := HTWO.out
  rw [getD_of ho0] at hq3 htw
  rw [hrl] at htw
  have hs13 := HM13.out
  have HST := Lib.hid (fun (W : World) (hW : Ext w1 W) => straightP_any _ (ordL (cntN xs)) W (R1.ext hW) hs13 (strP (ordL (cntN xs))) rfl)
  rw [hrl] at HST
  have hline2 := hline.out
  rw [HLS.out] at hline2
  have HQ3 := Lib.hid hq3
  have hkey : ∀ o1 : Nat, Hid (2 ≤ M.length → ((ordL (cntN xs)).map (cntN xs)).getD 1 0 = o1 → clsP line flush o0 o1 = q) := fun o1 => fun _ h => by rw [← h]; exact HQ3.out
  have hone : 2 ≤ M.length → ∃ o1, w1.cell? ⟨tb, toff + 1, none⟩ = some (encN o1) ∧ ((ordL (cntN xs)).map (cntN xs)).getD 1 0 = o1 := by
    intro h2
    obtain ⟨o1, ho1, _, _⟩ := get_lt (xs := (ordL (cntN xs)).map (cntN xs)) (k := 1) (by rw [hrl2]; omega)
    exact ⟨o1, HTC.out.at' ho1, getD_of ho1⟩
  generalize ordL (cntN xs) = M0 at *
  obtain ⟨s, hs⟩ : ∃ s, strP M0 = s := ⟨_, rfl⟩
  rw [hs] at HST hline2
  have HTW := Lib.hid htw
  have HONE := Lib.hid hone
  have hMpi : (0 : Int) < (M.length : Int) := by omega
  generalize M.length = n at *
  clear hs htc hx1 hrl hrl2 ho0 hq3 htw hs13 hone R1 R2
  go_wp2_with fail
  refine HCb.out.mono ?_
  rintro e w2 ⟨rfl, hx2⟩
  have c0' := hx2.cell c0
  go_wp2_with fail
  refine (HST.out _ (by exact hx2)).mono ?_
  rintro e w3 ⟨rfl, hx3⟩
  have c0'' := hx3.cell c0'
  have X3 := X1.trans (hx2.trans hx3)
  clear c0 c0' cb
  by_cases hs0 : 0 ≤ s
  · have hlt : line = true := by rw [← hline2]; simp [hs0]
    subst hlt
    clear hline2 HLS
    cases flush
    · by_cases h4 : o0 = 4
      · subst h4
        have hqq : (7 : Int) = q := by rw [← HQ3.out]; simp [clsP]
        clear HQ3 hkey HTW HONE
        subst hqq
        go_wp2_with fail
        go_ret
        exact ⟨rfl, X3⟩
      · have hb4 : (((o0 : Nat) : Int) == 4) = false := by rw [beq_eq_false_iff_ne]; omega
        by_cases h3 : o0 = 3
        · subst h3
          have hn2 := HTW.out (.inl rfl)
          obtain ⟨o1, c1, ho1⟩ := HONE.out hn2
          have c1' := hx3.cell (hx2.cell c1)
          have hqk := (hkey o1).out hn2 ho1
          have hn2i : (1 : Int) < (n : Int) := by omega
          have hn2n : 1 < n := by omega
          clear c1 ho1
          by_cases h2 : o1 = 2
          · subst h2
            have hqq : (6 : Int) = q := by rw [← hqk]; simp [clsP]
            clear hqk h4
            clear HQ3 hkey HTW HONE
            subst hqq
            go_wp2_with fail
            go_ret
            exact ⟨rfl, X3⟩
          · have hqq : (4 : Int) = q := by rw [← hqk]; simp [clsP, h2]
            have hb2 : (((o1 : Nat) : Int) == 2) = false := by rw [beq_eq_false_iff_ne]; omega
            clear hqk h2 h4
            clear HQ3 hkey HTW HONE
            subst hqq
            go_wp2_with fail
            go_ret
            exact ⟨rfl, X3⟩
        · have hb3 : (((o0 : Nat) : Int) == 3) = false := by rw [beq_eq_false_iff_ne]; omega
          by_cases h5 : o0 = 2
          · subst h5
            have hn2 := HTW.out (.inr rfl)
            obtain ⟨o1, c1, ho1⟩ := HONE.out hn2
            have c1' := hx3.cell (hx2.cell c1)
            have hqk := (hkey o1).out hn2 ho1
            have hn2i : (1 : Int) < (n : Int) := by omega
            have hn2n : 1 < n := by omega
            clear c1 ho1
            by_cases h2 : o1 = 2
            · subst h2
              have hqq : (4 : Int) = q := by rw [← hqk]; simp [clsP]
              clear hqk h4 h3
              clear HQ3 hkey HTW HONE
              subst hqq
              go_wp2_with fail
              go_ret
              exact ⟨rfl, X3⟩
            · have hqq : (4 : Int) = q := by rw [← hqk]; simp [clsP, h2]
              have hb2 : (((o1 : Nat) : Int) == 2) = false := by rw [beq_eq_false_iff_ne]; omega
              clear hqk h2 h4 h3
              clear HQ3 hkey HTW HONE
              subst hqq
              go_wp2_with fail
              go_ret
              exact ⟨rfl, X3⟩
          · have hqq : (4 : Int) = q := by rw [← HQ3.out]; simp [clsP, h3, h4]
            have hb2 : (((o0 : Nat) : Int) == 2) = false := by rw [beq_eq_false_iff_ne]; omega
            clear h3 h4 h5
            clear HQ3 hkey HTW HONE
            subst hqq
            go_wp2_with fail
            go_ret
            exact ⟨rfl, X3⟩
    · have hqq : (8 : Int) = q := by rw [← HQ3.out]; simp [clsP]
      clear HQ3 hkey HTW HONE
      subst hqq
      go_wp2_with fail
      go_ret
      exact ⟨rfl, X3⟩
  · have hlf : line = false := by rw [← hline2]; simp; omega
    subst hlf
    have hs1 : s < 0 := by omega
    clear hline2 HLS hs0
    cases flush
    · by_cases h4 : o0 = 4
      · subst h4
        have hqq : (7 : Int) = q := by rw [← HQ3.out]; simp [clsP]
        clear HQ3 hkey HTW HONE
        subst hqq
        go_wp2_with fail
        go_ret
        exact ⟨rfl, X3⟩
      · have hb4 : (((o0 : Nat) : Int) == 4) = false := by rw [beq_eq_false_iff_ne]; omega
        by_cases h3 : o0 = 3
        · subst h3
          have hn2 := HTW.out (.inl rfl)
          obtain ⟨o1, c1, ho1⟩ := HONE.out hn2
          have c1' := hx3.cell (hx2.cell c1)
          have hqk := (hkey o1).out hn2 ho1
          have hn2i : (1 : Int) < (n : Int) := by omega
          have hn2n : 1 < n := by omega
          clear c1 ho1
          by_cases h2 : o1 = 2
          · subst h2
            have hqq : (6 : Int) = q := by rw [← hqk]; simp [clsP]
            clear hqk h4
            clear HQ3 hkey HTW HONE
            subst hqq
            go_wp2_with fail
            go_ret
            exact ⟨rfl, X3⟩
          · have hqq : (3 : Int) = q := by rw [← hqk]; simp [clsP, h2]
            have hb2 : (((o1 : Nat) : Int) == 2) = false := by rw [beq_eq_false_iff_ne]; omega
            clear hqk h2 h4
            clear HQ3 hkey HTW HONE
            subst hqq
            go_wp2_with fail
            go_ret
            exact ⟨rfl, X3⟩
        · have hb3 : (((o0 : Nat) : Int) == 3) = false := by rw [beq_eq_false_iff_ne]; omega
          by_cases h5 : o0 = 2
          · subst h5
            have hn2 := HTW.out (.inr rfl)
            obtain ⟨o1, c1, ho1⟩ := HONE.out hn2
            have c1' := hx3.cell (hx2.cell c1)
            have hqk := (hkey o1).out hn2 ho1
            have hn2i : (1 : Int) < (n : Int) := by omega
            have hn2n : 1 < n := by omega
            clear c1 ho1
            by_cases h2 : o1 = 2
            · subst h2
              have hqq : (2 : Int) = q := by rw [← hqk]; simp [clsP]
              clear hqk h4 h3
              clear HQ3 hkey HTW HONE
              subst hqq
              go_wp2_with fail
              go_ret
              exact ⟨rfl, X3⟩
            · have hqq : (1 : Int) = q := by rw [← hqk]; simp [clsP, h2]
              have hb2 : (((o1 : Nat) : Int) == 2) = false := by rw [beq_eq_false_iff_ne]; omega
              clear hqk h2 h4 h3
              clear HQ3 hkey HTW HONE
              subst hqq
              go_wp2_with fail
              go_ret
              exact ⟨rfl, X3⟩
          · have hqq : (0 : Int) = q := by rw [← HQ3.out]; simp [clsP, h3, h4, h5]
            have hb2 : (((o0 : Nat) : Int) == 2) = false := by rw [beq_eq_false_iff_ne]; omega
            clear h3 h4 h5
            clear HQ3 hkey HTW HONE
            subst hqq
            go_wp2_with fail
            go_ret
            exact ⟨rfl, X3⟩
    · by_cases h4 : o0 = 4
      · subst h4
        have hqq : (7 : Int) = q := by rw [← HQ3.out]; simp [clsP]
        clear HQ3 hkey HTW HONE
        subst hqq
        go_wp2_with fail
        go_ret
        exact ⟨rfl, X3⟩
      · have hb4 : (((o0 : Nat) : Int) == 4) = false := by rw [beq_eq_false_iff_ne]; omega
        by_cases h3 : o0 = 3
        · subst h3
          have hn2 := HTW.out (.inl rfl)
          obtain ⟨o1, c1, ho1⟩ := HONE.out hn2
          have c1' := hx3.cell (hx2.cell c1)
          have hqk := (hkey o1).out hn2 ho1
          have hn2i : (1 : Int) < (n : Int) := by omega
          have hn2n : 1 < n := by omega
          clear c1 ho1
          by_cases h2 : o1 = 2
          · subst h2
            have hqq : (6 : Int) = q := by rw [← hqk]; simp [clsP]
            clear hqk h4
            clear HQ3 hkey HTW HONE
            subst hqq
            go_wp2_with fail
            go_ret
            exact ⟨rfl, X3⟩
          · have hqq : (5 : Int) = q := by rw [← hqk]; simp [clsP, h2]
            have hb2 : (((o1 : Nat) : Int) == 2) = false := by rw [beq_eq_false_iff_ne]; omega
            clear hqk h2 h4
            clear HQ3 hkey HTW HONE
            subst hqq
            go_wp2_with fail
            go_ret
            exact ⟨rfl, X3⟩
        · have hb3 : (((o0 : Nat) : Int) == 3) = false := by rw [beq_eq_false_iff_ne]; omega
          by_cases h5 : o0 = 2
          · subst h5
            have hn2 := HTW.out (.inr rfl)
            obtain ⟨o1, c1, ho1⟩ := HONE.out hn2
            have c1' := hx3.cell (hx2.cell c1)
            have hqk := (hkey o1).out hn2 ho1
            have hn2i : (1 : Int) < (n : Int) := by omega
            have hn2n : 1 < n := by omega
            clear c1 ho1
            by_cases h2 : o1 = 2
            · subst h2
              have hqq : (5 : Int) = q := by rw [← hqk]; simp [clsP]
              clear hqk h4 h3
              clear HQ3 hkey HTW HONE
              subst hqq
              go_wp2_with fail
              go_ret
              exact ⟨rfl, X3⟩
            · have hqq : (5 : Int) = q := by rw [← hqk]; simp [clsP, h2]
              have hb2 : (((o1 : Nat) : Int) == 2) = false := by rw [beq_eq_false_iff_ne]; omega
              clear hqk h2 h4 h3
              clear HQ3 hkey HTW HONE
              subst hqq
              go_wp2_with fail
              go_ret
              exact ⟨rfl, X3⟩
          · have hqq : (5 : Int) = q := by rw [← HQ3.out]; simp [clsP, h3, h4]
            have hb2 : (((o0 : Nat) : Int) == 2) = false := by rw [beq_eq_false_iff_ne]; omega
            clear h3 h4 h5
            clear HQ3 hkey HTW HONE
            subst hqq
            go_wp2_with fail
            go_ret
            exact ⟨rfl, X3⟩
end Go.Proofs.Ytllhgkacbpgemaa
