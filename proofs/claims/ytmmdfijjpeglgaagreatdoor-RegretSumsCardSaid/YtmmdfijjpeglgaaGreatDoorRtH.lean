/- texts merged: RatT RatU RatV RatW -/
import Derived.Test.YtmmdfijjpeglgaaGreatDoorRtG
/- walk of package rat: Odds -/
namespace Go.Proofs.YtmmdfijjpeglgaaGreatDoor
open Go.RowKit
set_option linter.unusedVariables false

theorem sumG_QB : ∀ (qs : List Rat) (acc : Rat), QB acc → (sumG acc qs).2 = 0 → QB (sumG acc qs).1
  | [], acc, h, _ => h
  | q :: t, acc, h, h2 => by
    rw [sumG] at h2 ⊢
    by_cases hf : fitsB (acc + q) = true
    · rw [if_pos hf] at h2 ⊢
      exact sumG_QB t _ (fits_QB hf) h2
    · rw [if_neg hf] at h2
      cases h2
theorem posL_QB {l : List ByteArray} (h : (posL l).2 = 0) : QB (posL l).1 := by
  have h1 : (sumL l).2 = 0 := by
    unfold posL at h
    dsimp only at h
    by_cases hc : (sumL l).2 = 0 ∧ anyNeg l = true
    · exact hc.1
    · rw [if_neg hc] at h; exact h
  show QB (sumL l).1
  unfold sumL at h1 ⊢
  by_cases ha : 256 < l.length
  · rw [if_pos ha] at h1; cases h1
  · rw [if_neg ha] at h1 ⊢
    by_cases he : errsL l = 0
    · rw [if_neg (by simpa using he)] at h1 ⊢
      exact sumG_QB _ _ zero_QB h1
    · rw [if_pos he] at h1; exact absurd h1 he
theorem one_QB : QB ((1 : Int) : Rat) := by
  refine ⟨?_, ?_⟩
  · rw [Rat.num_intCast]
    show (dig 1).length ≤ _
    rw [← one_len]; omega
  · rw [Rat.den_intCast, ← one_len]; omega
def oddsE (l : List ByteArray) : Int := if (posL l).2 ≠ 0 then (posL l).2 else if cmpQ (posL l).1 ((1 : Int) : Rat) ≠ 0 then 3 else 0

set_option maxHeartbeats 3200000 in
set_option maxRecDepth 100000 in
theorem odds_any (v : Value) (l : List ByteArray) (w : World) (htab : TabPow w) (hv : Strs w v l) (hs : ∀ s ∈ l, s.size ≤ 9223372036854775806) :
    Calls Tryz.prog 44 #[v] w fun e w' => e = .returned (.int .i64 (oddsE l)) ∧ Ext w w' := by
  have HS := Lib.hid (positive_any v l w htab hv hs)
  have hqb := posL_QB (l := l)
  have hod : oddsE l = if (posL l).2 ≠ 0 then (posL l).2 else if cmpQ (posL l).1 ((1 : Int) : Rat) ≠ 0 then 3 else 0 := rfl
  rw [hod]
  obtain ⟨ao, c, rfl, hlen, hc⟩ := hv.open
  generalize posL l = S at *
  obtain ⟨q, p⟩ := S
  dsimp only at HS hqb ⊢
  clear hc hv htab hs hod
  by_cases hp : p = 0
  · subst hp
    rw [if_neg (by simp)]
    have HQB := Lib.hid (hqb rfl)
    have HOF := Lib.hid (fun W => qOf_any 1 W (by omega) (by omega))
    have HCM := Lib.hid (fun (x y : Value) W hx hy => qCmp_any x y q ((1 : Int) : Rat) W hx hy HQB.out one_QB)
    rw [show (q.num * ((((1 : Int) : Rat)).den : Int) - ((((1 : Int) : Rat)).num) * (q.den : Int)).sign = cmpQ q ((1 : Int) : Rat) from rfl] at HCM
    generalize cmpQ q ((1 : Int) : Rat) = z at *
    obtain ⟨rz, hrz⟩ : ∃ rz : Int, (if z ≠ 0 then 3 else 0) = rz := ⟨_, rfl⟩
    rw [hrz]
    have HRZ := Lib.hid hrz
    clear hqb hrz
    go_enter Tryz.func44, Tryz.ntmps44
    go_wp2_with fail
    refine HS.out.mono ?_
    rintro e w2 ⟨u2, rfl, h2, X2⟩
    obtain ⟨s2, ao2, l2, c2, bo2, m2, d2, rfl, _, _, _⟩ := h2.opn
    have hown := World.ownsRow_lit (base := w2.heap.size) (e := 97) (size := 3) w2 #[.bool s2, .slice ao2 l2 c2, .slice bo2 m2 d2] 1 (Nat.le_refl _) (by unfold maxLen; omega) (by simp)
    have XL := (Ext.refl w2).alloc (.cells #[.bool s2, .slice ao2 l2 c2, .slice bo2 m2 d2] 97)
    have HQ := Lib.hid (h2.ext XL)
    clear h2
    go_wp2_with fail
    obtain ⟨W3, hW3⟩ : ∃ W3, w2.alloc (.cells #[.bool s2, .slice ao2 l2 c2, .slice bo2 m2 d2] 97) = W3 := ⟨_, rfl⟩
    rw [hW3] at hown XL HQ ⊢
    have k1 := cell3 hown (j := 0) rfl
    have k2 := cell3 hown (j := 1) rfl
    have k3 := cell3 hown (j := 2) rfl
    clear hW3 hown
    have XA := X2.trans XL
    go_region_held3 (fun w' => w'.cell? ⟨w2.heap.size, 0, none⟩ = some (.bool s2) ∧ w'.cell? ⟨w2.heap.size, 1, none⟩ = some (.slice ao2 l2 c2) ∧ w'.cell? ⟨w2.heap.size, 2, none⟩ = some (.slice bo2 m2 d2))
      (first | exact ⟨k1, k2, k3⟩ | exact ⟨X5.cell k1, X5.cell k2, X5.cell k3⟩ | exact ⟨X6.cell k1, X6.cell k2, X6.cell k3⟩ | go_keep)
      (first
      | (go_at_call 108; refine (HOF.out _).mono ?_; rintro e w5 ⟨r5, rfl, hr5, Y5⟩; have X5 : Ext W3 w5 := (Ext.refl W3).drew.trans Y5; obtain ⟨s15, ao15, l15, c15, bo15, m15, d15, rfl, _, _, _⟩ := hr5.opn; have HR5 := Lib.hid hr5; clear hr5)
      | (go_at_call 98; refine (HCM.out _ _ _ (HQ.out.ext X5) HR5.out).mono ?_; rintro e w6 ⟨rfl, Y6⟩; have X6 : Ext W3 w6 := X5.trans Y6))
    all_goals
      by_cases hz : z = 0
      · subst hz
        go_wp2_with fail
        go_ret
        exact ⟨by rw [← HRZ.out, if_neg (by simp)]; rfl, XA.trans X6⟩
      · have hzb : (z != 0) = true := by simp [hz]
        have HZ := Lib.hid hz
        clear hz
        go_wp2_with fail
        go_ret
        exact ⟨by rw [← HRZ.out, if_pos HZ.out]; rfl, XA.trans X6⟩
  · rw [if_pos hp]
    have hpb : (p != 0) = true := by simp [hp]
    clear hp hqb
    go_enter Tryz.func44, Tryz.ntmps44
    go_wp2_with fail
    refine HS.out.mono ?_
    rintro e w2 ⟨u2, rfl, h2, X2⟩
    obtain ⟨s2, ao2, l2, c2, bo2, m2, d2, rfl, _, _, _⟩ := h2.opn
    clear h2
    go_wp2_with fail
    go_ret
    exact ⟨rfl, X2.alloc _⟩
end Go.Proofs.YtmmdfijjpeglgaaGreatDoor
/- walk of package rat: Best -/
namespace Go.Proofs.YtmmdfijjpeglgaaGreatDoor
open Go.RowKit
set_option linter.unusedVariables false

/-- the index of the first one of the greatest numbers, from a place on -/
def bestG (x : List Rat) : List Rat → Nat → Nat → Nat
  | [], _, b => b
  | q :: t, i, b => if 0 < cmpQ q (x.getD b 0) then bestG x t (i + 1) i else bestG x t (i + 1) b
def bestL (l : List ByteArray) : Int × Int := if 256 < l.length then (0, 2) else if l.length = 0 then (0, 8) else if errsL l ≠ 0 then (0, errsL l) else (((bestG (l.map ratOf) (l.map ratOf) 0 0 : Nat) : Int), 0)

set_option maxHeartbeats 3200000 in
set_option maxRecDepth 100000 in
theorem best_bad (v : Value) (l : List ByteArray) (w : World) (hv : Strs w v l) (hl : 256 < l.length ∨ l.length = 0) :
    Calls Tryz.prog 42 #[v] w fun e w' => e = .returned (.tuple #[.int .i64 0, .int .i64 (if 256 < l.length then 2 else 8)]) ∧ Ext w w' := by
  obtain ⟨ao, c, rfl, hlen, hc⟩ := hv.open
  clear hc hv
  rcases hl with h | h
  · rw [if_pos h]
    have hli : (256 : Int) < (l.length : Int) := by omega
    clear h
    go_enter Tryz.func42, Tryz.ntmps42
    go_wp2_with fail
    go_ret2
    exact ⟨rfl, Ext.refl _⟩
  · rw [h, if_neg (by omega)]
    clear h
    go_enter Tryz.func42, Tryz.ntmps42
    go_wp2_with fail
    go_ret2
    exact ⟨rfl, Ext.refl _⟩

set_option maxHeartbeats 3200000 in
set_option maxRecDepth 100000 in
theorem best_err (v : Value) (l : List ByteArray) (w : World) (hv : Strs w v l) (hs : ∀ s ∈ l, s.size ≤ 9223372036854775806) (hl : l.length ≤ 256) (hl0 : l.length ≠ 0) (he : errsL l ≠ 0) :
    Calls Tryz.prog 42 #[v] w fun e w' => e = .returned (.tuple #[.int .i64 0, .int .i64 (errsL l)]) ∧ Ext w w' := by
  have HCK := Lib.hid (fun W (hx : Ext w W) => checkAll_any v l W (hv.ext hx) hs (errsL l) rfl)
  generalize errsL l = p at *
  have hpb : (p != 0) = true := by simp [he]
  obtain ⟨ao, c, rfl, hlen, hc⟩ := hv.open
  have hli : (l.length : Int) ≤ 256 := by omega
  have hlb : ((l.length : Int) == 0) = false := by rw [beq_eq_false_iff_ne]; omega
  clear hc hv hl he hl0
  go_enter Tryz.func42, Tryz.ntmps42
  go_wp2_with fail
  refine (HCK.out _ (Ext.refl _)).mono ?_
  rintro e w3 ⟨rfl, X3⟩
  go_wp2_with fail
  go_ret2
  exact ⟨rfl, X3⟩

set_option maxHeartbeats 3200000 in
set_option maxRecDepth 100000 in
theorem best_go (v : Value) (l : List ByteArray) (w : World) (hv : Strs w v l) (hs : ∀ s ∈ l, s.size ≤ 9223372036854775806) (hl : l.length ≤ 256) (hl0 : l.length ≠ 0) (he : errsL l = 0) :
    Calls Tryz.prog 42 #[v] w fun e w' => e = .returned (.tuple #[.int .i64 ((bestG (l.map ratOf) (l.map ratOf) 0 0 : Nat) : Int), .int .i64 0]) ∧ Ext w w' := by
  have HCK := Lib.hid (fun W (hx : Ext w W) => checkAll_any v l W (hv.ext hx) hs 0 he)
  have hok := errsL_zero he
  have HIN := Lib.hid (fun W (hx : Ext w W) => ratIn_any v l W (hv.ext hx) (fun s hs2 => ⟨ratErr_ok (hok s hs2), hs s hs2⟩) (by omega))
  have HQB : Hid (∀ q ∈ l.map ratOf, QB q) := fun q hq => by
    obtain ⟨s, hs2, rfl⟩ := List.mem_map.1 hq
    exact ratOf_QB (ratErr_ok (hok s hs2))
  obtain ⟨F, hF⟩ : ∃ F, bestG (l.map ratOf) (l.map ratOf) 0 0 = F := ⟨_, rfl⟩
  rw [hF]
  obtain ⟨ao, c, rfl, hlen, hc⟩ := hv.open
  have hll : (l.map ratOf).length = l.length := List.length_map ..
  generalize l.map ratOf = qs at *
  have hli : (l.length : Int) ≤ 256 := by omega
  have hlb : ((l.length : Int) == 0) = false := by rw [beq_eq_false_iff_ne]; omega
  have hqi : (qs.length : Int) ≤ 256 := by omega
  have hq0 : 0 < qs.length := by omega
  have HF := Lib.hid hF
  clear hc hv he hok hF hs hl0 hll
  go_enter Tryz.func42, Tryz.ntmps42
  go_wp2_with fail
  refine (HCK.out _ (Ext.refl _)).mono ?_
  rintro e w3 ⟨rfl, X3⟩
  go_wp2_with fail
  refine (HIN.out _ X3).mono ?_
  rintro e w4 ⟨u4, rfl, h4, _, X4⟩
  obtain ⟨ao4, c4, ts, rfl, hql, htl, hcells, hqv⟩ := h4
  have HC4 := Lib.hid hcells
  have HV4 := Lib.hid hqv
  have HTL := Lib.hid htl
  have X34 := X3.trans X4
  clear hcells hqv htl
  go_wp2_with fail
  go_loopw [6, 24] (fun bv iv wr => ∃ (i b : Nat), i ≤ qs.length ∧ b < qs.length ∧ iv = .int .i64 i ∧ bv = .int .i64 b ∧ Ext w4 wr ∧ Hid (bestG qs (qs.drop i) i b = F)) (fun _ iv _ => qs.length - (intOf iv).toNat)
  case atStart => exact ⟨0, 0, Nat.zero_le _, hq0, rfl, rfl, Ext.refl _, by show _ = _; rw [List.drop_zero]; exact HF.out⟩
  case round =>
    obtain ⟨i, b, hi, hb, rfl, rfl, X, HI⟩ := hrel
    by_cases hlt : i < qs.length
    · obtain ⟨tt, t1, _, _⟩ := get_lt (xs := ts) (k := i) (by rw [HTL.out]; exact hlt)
      obtain ⟨qq, q1, q2, _⟩ := get_lt hlt
      obtain ⟨tb, b1, _, _⟩ := get_lt (xs := ts) (k := b) (by rw [HTL.out]; exact hb)
      obtain ⟨qb, p1, _, _⟩ := get_lt hb
      obtain ⟨g, rfl, e0, e1, e2⟩ := HC4.out i tt t1.out
      obtain ⟨g', hg', y0, y1, y2⟩ := HC4.out b tb b1.out
      simp only [Option.some.injEq, Addr.mk.injEq, and_true] at hg'
      subst hg'
      have hqq := (HV4.out i tt qq t1.out q1.out).ext X
      have hqb := (HV4.out b tb qb b1.out p1.out).ext X
      have hQ1 := HQB.out qq (List.mem_of_getElem? q1.out)
      have hQ2 := HQB.out qb (List.mem_of_getElem? p1.out)
      have e0 := X.cell e0
      have e1 := X.cell e1
      have e2 := X.cell e2
      have y0 := X.cell y0
      have y1 := X.cell y1
      have y2 := X.cell y2
      obtain ⟨a1, a2, a3⟩ := tt
      obtain ⟨z1, z2, z3⟩ := tb
      obtain ⟨s5, ao5, l5, c5, bo5, m5, c6, hv5, _, _, _⟩ := hqq.opn
      simp only [TV.v, Value.agg.injEq, Array.mk.injEq, List.cons.injEq, and_true] at hv5
      obtain ⟨rfl, rfl, rfl⟩ := hv5
      obtain ⟨s7, ao7, l7, c7, bo7, m7, c8, hv7, _, _, _⟩ := hqb.opn
      simp only [TV.v, Value.agg.injEq, Array.mk.injEq, List.cons.injEq, and_true] at hv7
      obtain ⟨rfl, rfl, rfl⟩ := hv7
      dsimp only at e0 e1 e2 y0 y1 y2
      have HQ5 := Lib.hid (show QV wr (.agg #[.bool s5, .slice ao5 l5 c5, .slice bo5 m5 c6]) qq from hqq)
      have HQ7 := Lib.hid (show QV wr (.agg #[.bool s7, .slice ao7 l7 c7, .slice bo7 m7 c8]) qb from hqb)
      have HCM := Lib.hid (fun (x y : Value) W hx hy => qCmp_any x y qq qb W hx hy hQ1 hQ2)
      rw [show (qq.num * (qb.den : Int) - qb.num * (qq.den : Int)).sign = cmpQ qq qb from rfl] at HCM
      have hi2 := HI.out
      rw [q2.out, bestG, show qs.getD b 0 = qb by rw [List.getD_eq_getElem?_getD, p1.out]; rfl] at hi2
      generalize cmpQ qq qb = z at *
      have hki : (i : Int) < (qs.length : Int) := by omega
      have hbi : (b : Int) < (qs.length : Int) := by omega
      have hb0 : (0 : Int) ≤ (b : Int) := by omega
      obtain ⟨W3, hW3⟩ : ∃ W3, wr.alloc (.cells #[.bool s5, .slice ao5 l5 c5, .slice bo5 m5 c6] 97) = W3 := ⟨_, rfl⟩
      have XL : Ext wr W3 := by rw [← hW3]; exact (Ext.refl wr).alloc _
      have k1 : W3.cell? ⟨wr.heap.size, 0, none⟩ = some (.bool s5) := by rw [← hW3]; simp [go_sem]
      have k2 : W3.cell? ⟨wr.heap.size, 1, none⟩ = some (.slice ao5 l5 c5) := by rw [← hW3]; simp [go_sem]
      have k3 : W3.cell? ⟨wr.heap.size, 2, none⟩ = some (.slice bo5 m5 c6) := by rw [← hW3]; simp [go_sem]
      have k4 := XL.cell y0
      have k5 := XL.cell y1
      have k6 := XL.cell y2
      clear hqq hqb hlt y0 y1 y2
      go_wp2_with fail
      clear hW3
      go_region_held3 (fun w' => w'.cell? ⟨wr.heap.size, 0, none⟩ = some (.bool s5) ∧ w'.cell? ⟨wr.heap.size, 1, none⟩ = some (.slice ao5 l5 c5) ∧ w'.cell? ⟨wr.heap.size, 2, none⟩ = some (.slice bo5 m5 c6) ∧ w'.cell? ⟨g, b * 3, none⟩ = some (.bool s7) ∧ w'.cell? ⟨g, b * 3 + 1, none⟩ = some (.slice ao7 l7 c7) ∧ w'.cell? ⟨g, b * 3 + 2, none⟩ = some (.slice bo7 m7 c8))
        (first | exact ⟨k1, k2, k3, k4, k5, k6⟩ | exact ⟨X5.cell k1, X5.cell k2, X5.cell k3, X5.cell k4, X5.cell k5, X5.cell k6⟩ | go_keep)
        ((go_at_call 98; refine (HCM.out _ _ _ (by exact HQ5.out.ext XL.drew) (by exact HQ7.out.ext XL.drew)).mono ?_; rintro e w5 ⟨rfl, Y5⟩; have X5 : Ext W3 w5 := (Ext.refl W3).drew.trans Y5))
      all_goals
        have XN := X.trans (XL.trans X5)
        by_cases hz : 0 < z
        · rw [if_pos hz] at hi2
          have HI2 := Lib.hid hi2
          clear hi2 k1 k2 k3 k4 k5 k6
          go_wp2_with fail
          go_roundw
          case rel => exact ⟨i + 1, i, by omega, by omega, by go_num, rfl, XN, HI2⟩
          case measure => simp [intOf]; omega
        · rw [if_neg hz] at hi2
          have HI2 := Lib.hid hi2
          clear hi2 k1 k2 k3 k4 k5 k6
          go_wp2_with fail
          go_roundw
          case rel => exact ⟨i + 1, b, by omega, hb, by go_num, rfl, XN, HI2⟩
          case measure => simp [intOf]; omega
    · have hil : qs.length = i := by omega
      have hi2 := HI.out
      rw [← hil, List.drop_length, bestG] at hi2
      subst hi2
      clear hlt HI HF
      go_wp2_with fail
      go_ret2
      exact ⟨rfl, X34.trans X⟩
end Go.Proofs.YtmmdfijjpeglgaaGreatDoor
/- walks of package rat: OutAll, Shares -/
namespace Go.Proofs.YtmmdfijjpeglgaaGreatDoor
open Go.RowKit
set_option linter.unusedVariables false

theorem info_rat : (Tryz.prog.info? 22).map (fun i => (i.zero, i.size, i.bytes)) = some (some (.string ⟨#[]⟩), 1, 16) := by kernel_rfl
theorem ei_rats : EI Tryz.prog 24 22 (.string ⟨#[]⟩) 1 16 := ⟨Tryz.underlying24, info_parts info_rat, rfl, by decide⟩
/-- the texts of numbers, if none is too long -/
def outsG : List Rat → Option (List ByteArray)
  | [] => some []
  | q :: t => if fitsB q = true then (outsG t).map (ratT q :: ·) else none

set_option maxHeartbeats 3200000 in
set_option maxRecDepth 100000 in
theorem outAll_any (v : Value) (qs : List Rat) (w : World) (htab : TabPow w) (hv : QsV w v qs) (hl : qs.length ≤ 1000000) :
    Calls Tryz.prog 107 #[v] w fun e w' => Ext w w' ∧ ((outsG qs = none ∧ e = .returned (.tuple #[.slice none 0 0, .int .i64 2])) ∨ ∃ os u, outsG qs = some os ∧ e = .returned (.tuple #[u, .int .i64 0]) ∧ Strs w' u os) := by
  obtain ⟨wo, rfl⟩ : ∃ wo : World, wo = w := ⟨_, rfl⟩
  obtain ⟨ao4, c4, ts, rfl, hql, htl, hcells, hqv⟩ := hv
  have HC4 := Lib.hid hcells
  have HV4 := Lib.hid hqv
  have HTL := Lib.hid htl
  have HT := Lib.hid htab
  clear hcells hqv htl htab
  go_enter Tryz.func107, Tryz.ntmps107
  go_wp2_with fail
  go_loopw [4, 11] (fun ov iv wr => ∃ (i : Nat) (os : List ByteArray), i ≤ qs.length ∧ iv = .int .i64 i ∧ wr.ownsRow wo.heap.size 22 1 ov i (os.map Value.string) ∧ Ext wo wr ∧ Hid (outsG qs = (outsG (qs.drop i)).map (os ++ ·))) (fun _ iv _ => qs.length - (intOf iv).toNat)
  case atStart => exact ⟨0, [], Nat.zero_le _, rfl, World.ownsRow_nil _ _ _ _, Ext.refl _, by show _ = _; rw [List.drop_zero]; cases outsG qs <;> rfl⟩
  case round =>
    obtain ⟨i, os, hi, rfl, HO, X, HI⟩ := hrel
    by_cases hlt : i < qs.length
    · obtain ⟨tt, t1, _, _⟩ := get_lt (xs := ts) (k := i) (by rw [HTL.out]; exact hlt)
      obtain ⟨qq, q1, q2, _⟩ := get_lt hlt
      obtain ⟨g, rfl, e0, e1, e2⟩ := HC4.out i tt t1.out
      have hqq := (HV4.out i tt qq t1.out q1.out).ext X
      have e0 := X.cell e0
      have e1 := X.cell e1
      have e2 := X.cell e2
      obtain ⟨a1, a2, a3⟩ := tt
      obtain ⟨s5, ao5, l5, c5, bo5, m5, c6, hv5, _, _, _⟩ := hqq.opn
      simp only [TV.v, Value.agg.injEq, Array.mk.injEq, List.cons.injEq, and_true] at hv5
      obtain ⟨rfl, rfl, rfl⟩ := hv5
      dsimp only at e0 e1 e2
      have HQ5 := Lib.hid (show QV wr (.agg #[.bool s5, .slice ao5 l5 c5, .slice bo5 m5 c6]) qq from hqq)
      have hki : (i : Int) < (qs.length : Int) := by omega
      have hi2 := HI.out
      rw [q2.out, outsG] at hi2
      have XL := (Ext.refl wr).alloc (.cells #[.bool s5, .slice ao5 l5 c5, .slice bo5 m5 c6] 97)
      have HOUT := Lib.hid (out_any _ qq _ (HQ5.out.ext XL) (tabPow_ext HT.out (X.trans XL)))
      have XA := X.trans XL
      cases hf : fitsB qq
      · rw [hf, if_neg (by simp), Option.map_none] at hi2
        rw [show outF qq = (⟨#[]⟩, 2) from if_neg (by rw [hf]; simp)] at HOUT
        have HI2 := Lib.hid hi2
        clear hqq hf hi2 hlt
        go_wp2_with fail
        refine HOUT.out.mono ?_
        rintro e w3 ⟨rfl, X3⟩
        go_wp2_with fail
        go_ret2
        exact ⟨XA.trans X3, .inl ⟨HI2.out, rfl⟩⟩
      · rw [hf, if_pos rfl] at hi2
        rw [show outF qq = (ratT qq, 0) from if_pos hf] at HOUT
        have hi3 : outsG qs = (outsG (qs.drop (i + 1))).map ((os ++ [ratT qq]) ++ ·) := by
          rw [hi2]
          cases outsG (qs.drop (i + 1)) <;> simp
        generalize ratT qq = T at *
        have HI2 := Lib.hid hi3
        clear hqq hf hi2 hi3 hlt
        go_wp2_with fail
        refine HOUT.out.mono ?_
        rintro e w3 ⟨rfl, X3⟩
        have HO3 := own_ext HO (XL.trans X3)
        have XB := XA.trans X3
        have hsz := XB.size
        go_wp2_with (at_builtin; refine wp_app1 (s := .tmp 23) (x := .tmp 25) (y := .string T) rfl rfl ei_rats HO3 rfl rfl rfl rfl (by omega) (by omega) (by omega) ?_; intro v' w' hown hgrew)
        go_roundw
        case rel => exact ⟨i + 1, os ++ [T], by omega, by go_num, own_cast hown (by simp) rfl, hgrew.extNew XB HO3 (Nat.le_refl _), HI2⟩
        case measure => simp [intOf]; omega
    · have hil : qs.length = i := by omega
      have hi2 := HI.out
      rw [← hil, List.drop_length, outsG] at hi2
      have HI2 := Lib.hid hi2
      have HR := Lib.hid (own_rowOf (enc := Value.string) HO (by omega))
      clear hlt HO hi2
      go_wp2_with fail
      go_ret2
      exact ⟨X, .inr ⟨os, _, by rw [HI2.out]; simp, rfl, HR.out⟩⟩
end Go.Proofs.YtmmdfijjpeglgaaGreatDoor
/- walk of package rat: Shares -/
namespace Go.Proofs.YtmmdfijjpeglgaaGreatDoor
open Go.RowKit
set_option linter.unusedVariables false

theorem posL_ok {l : List ByteArray} (h : (posL l).2 = 0) : l.length ≤ 256 ∧ errsL l = 0 := by
  have h1 : (sumL l).2 = 0 := by
    unfold posL at h
    dsimp only at h
    by_cases hc : (sumL l).2 = 0 ∧ anyNeg l = true
    · exact hc.1
    · rw [if_neg hc] at h; exact h
  unfold sumL at h1
  by_cases ha : 256 < l.length
  · rw [if_pos ha] at h1; cases h1
  · rw [if_neg ha] at h1
    by_cases he : errsL l = 0
    · exact ⟨by omega, he⟩
    · rw [if_pos he] at h1; exact absurd h1 he
def SharesPost (l : List ByteArray) (w : World) (e : Ending) (w' : World) : Prop := Ext w w' ∧
  (((posL l).2 ≠ 0 ∧ e = .returned (.tuple #[.slice none 0 0, .int .i64 (posL l).2])) ∨
   ((posL l).2 = 0 ∧ (posL l).1 = 0 ∧ e = .returned (.tuple #[.slice none 0 0, .int .i64 18])) ∨
   ((posL l).2 = 0 ∧ (posL l).1 ≠ 0 ∧ outsG ((l.map ratOf).map (· / (posL l).1)) = none ∧ e = .returned (.tuple #[.slice none 0 0, .int .i64 2])) ∨
   ((posL l).2 = 0 ∧ (posL l).1 ≠ 0 ∧ ∃ os u, outsG ((l.map ratOf).map (· / (posL l).1)) = some os ∧ e = .returned (.tuple #[u, .int .i64 0]) ∧ Strs w' u os))

set_option maxHeartbeats 3200000 in
set_option maxRecDepth 100000 in
theorem shares_err (v : Value) (l : List ByteArray) (w : World) (htab : TabPow w) (hv : Strs w v l) (hs : ∀ s ∈ l, s.size ≤ 9223372036854775806) (hp : (posL l).2 ≠ 0) :
    Calls Tryz.prog 43 #[v] w (SharesPost l w) := by
  have HS := Lib.hid (positive_any v l w htab hv hs)
  unfold SharesPost
  obtain ⟨ao, c, rfl, hlen, hc⟩ := hv.open
  generalize posL l = Sp at *
  obtain ⟨q, p⟩ := Sp
  dsimp only at HS hp ⊢
  have hpb : (p != 0) = true := by simp [hp]
  have HP := Lib.hid hp
  clear hc hv htab hs hp
  go_enter Tryz.func43, Tryz.ntmps43
  go_wp2_with fail
  refine HS.out.mono ?_
  rintro e w2 ⟨u2, rfl, h2, X2⟩
  obtain ⟨s2, ao2, l2, c2, bo2, m2, d2, rfl, _, _, _⟩ := h2.opn
  clear h2
  go_wp2_with fail
  go_ret2
  exact ⟨X2.alloc _, .inl ⟨HP.out, rfl⟩⟩

set_option maxHeartbeats 3200000 in
set_option maxRecDepth 100000 in
theorem shares_zero (v : Value) (l : List ByteArray) (w : World) (htab : TabPow w) (hv : Strs w v l) (hs : ∀ s ∈ l, s.size ≤ 9223372036854775806) (hp : (posL l).2 = 0) (hq : (posL l).1 = 0) :
    Calls Tryz.prog 43 #[v] w (SharesPost l w) := by
  have HS := Lib.hid (positive_any v l w htab hv hs)
  unfold SharesPost
  obtain ⟨ao, c, rfl, hlen, hc⟩ := hv.open
  generalize posL l = Sp at *
  obtain ⟨q, p⟩ := Sp
  dsimp only at HS hp hq ⊢
  subst hp
  subst hq
  have HSG := Lib.hid (fun (x : Value) W hx => qSign_any x 0 W hx)
  rw [show ((0 : Rat).num).sign = 0 from rfl] at HSG
  clear hc hv htab hs
  go_enter Tryz.func43, Tryz.ntmps43
  go_wp2_with fail
  refine HS.out.mono ?_
  rintro e w2 ⟨u2, rfl, h2, X2⟩
  obtain ⟨s2, ao2, l2, c2, bo2, m2, d2, rfl, _, _, _⟩ := h2.opn
  have hown := World.ownsRow_lit (base := w2.heap.size) (e := 97) (size := 3) w2 #[.bool s2, .slice ao2 l2 c2, .slice bo2 m2 d2] 1 (Nat.le_refl _) (by unfold maxLen; omega) (by simp)
  have XL := (Ext.refl w2).alloc (.cells #[.bool s2, .slice ao2 l2 c2, .slice bo2 m2 d2] 97)
  have HQ := Lib.hid (h2.ext XL)
  have k0 := cell3 hown (j := 0) rfl
  have k1 := cell3 hown (j := 1) rfl
  have k2 := cell3 hown (j := 2) rfl
  have XA := X2.trans XL
  clear h2 hown
  go_wp2_with fail
  refine (HSG.out _ _ HQ.out).mono ?_
  rintro e w3 ⟨rfl, X3⟩
  go_wp2_with fail
  go_ret2
  exact ⟨XA.trans X3, .inr (.inl ⟨by first | trivial | rfl, by first | trivial | rfl, rfl⟩)⟩

set_option maxHeartbeats 3200000 in
set_option maxRecDepth 100000 in
theorem shares_go (v : Value) (l : List ByteArray) (w : World) (htab : TabPow w) (hv : Strs w v l) (hs : ∀ s ∈ l, s.size ≤ 9223372036854775806) (hp : (posL l).2 = 0) (hq : (posL l).1 ≠ 0) :
    Calls Tryz.prog 43 #[v] w (SharesPost l w) := by
  have HS := Lib.hid (positive_any v l w htab hv hs)
  obtain ⟨hl, he⟩ := posL_ok hp
  have hqb := posL_QB hp
  have hok := errsL_zero he
  have HIN := Lib.hid (fun W (hx : Ext w W) => ratIn_any v l W (hv.ext hx) (fun s hs2 => ⟨ratErr_ok (hok s hs2), hs s hs2⟩) (by omega))
  have HQB : Hid (∀ q ∈ l.map ratOf, QB q) := fun q hq => by
    obtain ⟨s, hs2, rfl⟩ := List.mem_map.1 hq
    exact ratOf_QB (ratErr_ok (hok s hs2))
  unfold SharesPost
  obtain ⟨ao, c, rfl, hlen, hc⟩ := hv.open
  have hll : (l.map ratOf).length = l.length := List.length_map ..
  generalize posL l = Sp at *
  obtain ⟨q, p⟩ := Sp
  dsimp only at HS hp hq hqb ⊢
  subst hp
  generalize l.map ratOf = qs at *
  have hsgn : q.num.sign ≠ 0 := fun h => hq (Rat.num_eq_zero.1 (Int.sign_eq_zero_iff_zero.1 h))
  have HSG := Lib.hid (fun (x : Value) W hx => qSign_any x q W hx)
  obtain ⟨z, hz⟩ : ∃ z, q.num.sign = z := ⟨_, rfl⟩
  rw [hz] at HSG hsgn
  have hzb : (z == 0) = false := by rw [beq_eq_false_iff_ne]; exact hsgn
  have hli : (l.length : Int) ≤ 256 := by omega
  have hqi : (qs.length : Int) ≤ 256 := by omega
  have HQ0 := Lib.hid hq
  have HQB2 := Lib.hid hqb
  have HOA := Lib.hid (fun (x : Value) (ys : List Rat) W (hx : Ext w W) (h : QsV W x ys) (hl : ys.length ≤ 1000000) => outAll_any x ys W (tabPow_ext htab hx) h hl)
  have HLD := Lib.hid (show (qs.map (· / q)).length = qs.length from List.length_map ..)
  have HDG := Lib.hid (fun (i : Nat) (x : Rat) (h : qs[i]? = some x) => show (qs.map (· / q))[i]? = some (x / q) by rw [List.getElem?_map, h]; rfl)
  generalize qs.map (· / q) = ys at *
  clear hc hv he hok hs hll hz hsgn hq hqb htab hl
  go_enter Tryz.func43, Tryz.ntmps43
  go_wp2_with fail
  refine HS.out.mono ?_
  rintro e w2 ⟨u2, rfl, h2, X2⟩
  obtain ⟨s2, ao2, l2, c2, bo2, m2, d2, rfl, _, _, _⟩ := h2.opn
  have hown := World.ownsRow_lit (base := w2.heap.size) (e := 97) (size := 3) w2 #[.bool s2, .slice ao2 l2 c2, .slice bo2 m2 d2] 1 (Nat.le_refl _) (by unfold maxLen; omega) (by simp)
  have XL := (Ext.refl w2).alloc (.cells #[.bool s2, .slice ao2 l2 c2, .slice bo2 m2 d2] 97)
  have HQ := Lib.hid (h2.ext XL)
  have k0 := cell3 hown (j := 0) rfl
  have k1 := cell3 hown (j := 1) rfl
  have k2 := cell3 hown (j := 2) rfl
  have XA := X2.trans XL
  clear h2 hown
  go_wp2_with fail
  refine (HSG.out _ _ HQ.out).mono ?_
  rintro e w3 ⟨rfl, X3⟩
  have j0 := X3.cell k0
  have j1 := X3.cell k1
  have j2 := X3.cell k2
  have XB := XA.trans X3
  clear k0 k1 k2
  go_wp2_with fail
  refine (HIN.out _ XB).mono ?_
  rintro e w4 ⟨u4, rfl, h4, _, X4⟩
  obtain ⟨ao4, c4, ts, rfl, hql, htl, hcells, hqv⟩ := h4
  have HC4 := Lib.hid hcells
  have HV4 := Lib.hid hqv
  have HTL := Lib.hid htl
  have XC := XB.trans X4
  have J0 := Lib.hid (X4.cell j0)
  have J1 := Lib.hid (X4.cell j1)
  have J2 := Lib.hid (X4.cell j2)
  have HQS := Lib.hid (HQ.out.ext (X3.trans X4))
  have hOb : w2.heap.size < w4.heap.size := by have h1 := (XL.trans (X3.trans X4)).size; have h5 := (X3.trans X4).size; simp at h5; omega
  clear hcells hqv htl j0 j1 j2
  go_wp2_with fail
  go_loopw [6, 23] (fun ov iv wr => ∃ (i : Nat) (os : List TV), i ≤ qs.length ∧ iv = .int .i64 i ∧ wr.ownsRow w4.heap.size 97 3 ov i (flatT os) ∧ Clean wr ov ∧ Hid (os.length = i) ∧ Hid (∀ (j : Nat) t x, os[j]? = some t → ys[j]? = some x → QV wr t.v x) ∧ Ext w4 wr) (fun _ iv _ => qs.length - (intOf iv).toNat)
  case atStart => exact ⟨0, [], Nat.zero_le _, rfl, World.ownsRow_nil _ _ _ _, Clean.nil _, rfl, fun j t q h => by simp at h, Ext.refl _⟩
  case round =>
    obtain ⟨i, os, hi, rfl, HO, HCL, HOL, HYS, X⟩ := hrel
    by_cases hlt : i < qs.length
    · obtain ⟨tt, t1, _, _⟩ := get_lt (xs := ts) (k := i) (by rw [HTL.out]; exact hlt)
      obtain ⟨qq, q1, q2, _⟩ := get_lt hlt
      obtain ⟨g, rfl, e0, e1, e2⟩ := HC4.out i tt t1.out
      have hqq := (HV4.out i tt qq t1.out q1.out).ext X
      have hQ1 := HQB.out qq (List.mem_of_getElem? q1.out)
      have hye := HDG.out i qq q1.out
      have HYE := Lib.hid hye
      have e0 := X.cell e0
      have e1 := X.cell e1
      have e2 := X.cell e2
      obtain ⟨a1, a2, a3⟩ := tt
      obtain ⟨s5, ao5, l5, c5, bo5, m5, c6, hv5, _, _, _⟩ := hqq.opn
      simp only [TV.v, Value.agg.injEq, Array.mk.injEq, List.cons.injEq, and_true] at hv5
      obtain ⟨rfl, rfl, rfl⟩ := hv5
      dsimp only at e0 e1 e2
      have HQ5 := Lib.hid (show QV wr (.agg #[.bool s5, .slice ao5 l5 c5, .slice bo5 m5 c6]) qq from hqq)
      have HDV := Lib.hid (fun (x y : Value) W hx hy => qDiv_any x y qq q W hx hy hQ1 HQB2.out HQ0.out)
      have hki : (i : Int) < (qs.length : Int) := by omega
      have XR := (Ext.refl wr).alloc (.cells #[.bool s5, .slice ao5 l5 c5, .slice bo5 m5 c6] 97)
      have r0 := (X.trans XR).cell J0.out
      have r1 := (X.trans XR).cell J1.out
      have r2 := (X.trans XR).cell J2.out
      clear hqq hye hlt hQ1
      go_wp2_with fail
      refine (HDV.out _ _ _ (HQ5.out.ext XR) (HQS.out.ext (X.trans XR))).mono ?_
      rintro e w6 ⟨u6, rfl, h6, X6⟩
      obtain ⟨s6, ao6, l6, d6, bo6, m6, n6, rfl, _, _, _⟩ := h6.opn
      have XX := XR.trans X6
      have HO6 := own_ext HO XX
      have HC6 := HCL.ext XX
      have HQ6 := Lib.hid h6
      have XD := X.trans XX
      have hsz := XD.size
      clear h6 HO HCL e0 e1 e2 r0 r1 r2
      go_wp2_with (at_builtin; refine wp_app3 (s := .tmp 27) (x := .tmp 31) rfl rfl ei_q zc_q HO6 HC6 rfl rfl rfl rfl rfl rfl (by intro y hy d; simp at hy; rcases hy with rfl | rfl | rfl <;> simp [encD]) (by omega) (by omega) (by omega) ?_; intro v' w' hown hgrew hclean)
      have HY7 : Hid (∀ (j : Nat) t x, (os ++ [((.bool s6, .slice ao6 l6 d6, .slice bo6 m6 n6) : TV)])[j]? = some t → ys[j]? = some x → QV w' t.v x) := by
        intro j t x2 hj hx2
        rcases Nat.lt_or_ge j i with hji | hji
        · rw [List.getElem?_append_left (by rw [HOL.out]; exact hji)] at hj
          exact HC6.keptQ hgrew.by' ((HYS.out j t x2 hj hx2).ext XX)
        · rw [List.getElem?_append_right (by rw [HOL.out]; exact hji), HOL.out] at hj
          have hj0 : j - i = 0 := by
            have := (List.getElem?_eq_some_iff.1 hj).1
            simp at this
            omega
          rw [hj0] at hj
          simp only [List.getElem?_cons_zero, Option.some.injEq] at hj
          subst hj
          have : j = i := by omega
          subst this
          rw [HYE.out] at hx2
          cases hx2
          exact HC6.keptQ hgrew.by' HQ6.out
      go_roundw
      case rel => exact ⟨i + 1, os ++ [(.bool s6, .slice ao6 l6 d6, .slice bo6 m6 n6)], by omega, by go_num, own_cast hown (by rw [flatT_app]) rfl, hclean, by show _ = _; rw [List.length_append, HOL.out]; rfl, HY7, hgrew.extNew XD HO6 (Nat.le_refl _)⟩
      case measure => simp [intOf]; omega
    · have hil : qs.length = i := by omega
      have HLD2 := HLD.out
      have HR := QsV.own (qs := ys) HO (by omega) (by omega) HOL.out HYS.out
      have HOA2 := Lib.hid (HOA.out _ ys wr (XC.trans X) HR (by omega))
      clear hlt HO HCL HLD2 HR
      go_wp2_with fail
      refine HOA2.out.mono ?_
      rintro e w7 ⟨X7, h7⟩
      rcases h7 with ⟨hn, rfl⟩ | ⟨os2, u2, hn, rfl, hst⟩
      · go_wp2_with fail
        go_ret2
        exact ⟨(XC.trans X).trans X7, .inr (.inr (.inl ⟨by first | trivial | rfl, HQ0.out, hn, rfl⟩))⟩
      · go_wp2_with fail
        go_ret2
        exact ⟨(XC.trans X).trans X7, .inr (.inr (.inr ⟨by first | trivial | rfl, HQ0.out, os2, _, hn, rfl, hst⟩))⟩

theorem shares_any (v : Value) (l : List ByteArray) (w : World) (htab : TabPow w) (hv : Strs w v l) (hs : ∀ s ∈ l, s.size ≤ 9223372036854775806) :
    Calls Tryz.prog 43 #[v] w (SharesPost l w) := by
  by_cases hp : (posL l).2 = 0
  · by_cases hq : (posL l).1 = 0
    · exact shares_zero v l w htab hv hs hp hq
    · exact shares_go v l w htab hv hs hp hq
  · exact shares_err v l w htab hv hs hp
end Go.Proofs.YtmmdfijjpeglgaaGreatDoor
