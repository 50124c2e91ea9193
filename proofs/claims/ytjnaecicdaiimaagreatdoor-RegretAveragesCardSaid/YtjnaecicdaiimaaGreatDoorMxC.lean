/- walks: rat.OutAll (own slice), matrix.outMatrix -/
import Derived.Test.YtjnaecicdaiimaaGreatDoorMxB
namespace Go.Proofs.YtjnaecicdaiimaaGreatDoor
open Go.RowKit
set_option linter.unusedVariables false

set_option maxHeartbeats 3200000 in
set_option maxRecDepth 100000 in
theorem outAllO_any (v : Value) (qs : List Rat) (w : World) (htab : TabPow w) (hv : QsV w v qs) (hl : qs.length ≤ 1000000) :
    Calls Tryz.prog 67 #[v] w fun e w' => Ext w w' ∧ ((outsG qs = none ∧ e = .returned (.tuple #[.slice none 0 0, .int .i64 2])) ∨ ∃ os u, outsG qs = some os ∧ e = .returned (.tuple #[u, .int .i64 0]) ∧ Strs w' u os ∧ Fr w.heap.size u (os.map Value.string)) := by
  obtain ⟨wo, rfl⟩ : ∃ wo : World, wo = w := ⟨_, rfl⟩
  obtain ⟨ao4, c4, ts, rfl, hql, htl, hcells, hqv⟩ := hv
  have HC4 := Lib.hid hcells
  have HV4 := Lib.hid hqv
  have HTL := Lib.hid htl
  have HT := Lib.hid htab
  clear hcells hqv htl htab
  go_enter Tryz.func67, Tryz.ntmps67
  go_wp2_with fail
  go_loopw [4, 11] (fun ov iv wr => ∃ (i : Nat) (os : List ByteArray), i ≤ qs.length ∧ iv = .int .i64 i ∧ wr.ownsRow wo.heap.size 33 1 ov i (os.map Value.string) ∧ Ext wo wr ∧ Hid (outsG qs = (outsG (qs.drop i)).map (os ++ ·))) (fun _ iv _ => qs.length - (intOf iv).toNat)
  case atStart => exact ⟨0, [], Nat.zero_le _, rfl, World.ownsRow_nil _ _ _ _, Ext.refl _, by show _ = _; rw [List.drop_zero]; cases outsG qs <;> rfl⟩
  case round =>
    obtain ⟨i, os, hi, rfl, HO, X, HI⟩ := hrel
    by_cases hlt : i < qs.length
    · obtain ⟨tt, t1, _, _⟩ := get_lt (xs := ts) (k := i) (by rw [HTL.out]; exact hlt)
      obtain ⟨qq, q1, q2, _⟩ := get_lt hlt
      obtain ⟨g, rfl, e0, e1, e2⟩ := HC4.out i tt t1.out
      have hqq := (HV4.out i tt qq t1.out q1.out).ext X
      have e0 := X.cell e0
      have e1 := X.cell e1
      have e2 := X.cell e2
      obtain ⟨a1, a2, a3⟩ := tt
      obtain ⟨s5, ao5, l5, c5, bo5, m5, c6, hv5, _, _, _⟩ := hqq.opn
      simp only [TV.v, Value.agg.injEq, Array.mk.injEq, List.cons.injEq, and_true] at hv5
      obtain ⟨rfl, rfl, rfl⟩ := hv5
      dsimp only at e0 e1 e2
      have HQ5 := Lib.hid (show QV wr (.agg #[.bool s5, .slice ao5 l5 c5, .slice bo5 m5 c6]) qq from hqq)
      have hki : (i : Int) < (qs.length : Int) := by omega
      have hi2 := HI.out
      rw [q2.out, outsG] at hi2
      have XL := (Ext.refl wr).alloc (.cells #[.bool s5, .slice ao5 l5 c5, .slice bo5 m5 c6] 78)
      have HOUT := Lib.hid (out_any _ qq _ (HQ5.out.ext XL) (tabPow_ext HT.out (X.trans XL)))
      have XA := X.trans XL
      cases hf : fitsB qq
      · rw [hf, if_neg (by simp), Option.map_none] at hi2
        rw [show outF qq = (⟨#[]⟩, 2) from if_neg (by rw [hf]; simp)] at HOUT
        have HI2 := Lib.hid hi2
        clear hqq hf hi2 hlt
        go_wp2_with fail
        refine HOUT.out.mono ?_
        rintro e w3 ⟨rfl, X3⟩
        go_wp2_with fail
        go_ret2
        exact ⟨XA.trans X3, .inl ⟨HI2.out, rfl⟩⟩
      · rw [hf, if_pos rfl] at hi2
        rw [show outF qq = (ratT qq, 0) from if_pos hf] at HOUT
        have hi3 : outsG qs = (outsG (qs.drop (i + 1))).map ((os ++ [ratT qq]) ++ ·) := by
          rw [hi2]
          cases outsG (qs.drop (i + 1)) <;> simp
        generalize ratT qq = T at *
        have HI2 := Lib.hid hi3
        clear hqq hf hi2 hi3 hlt
        go_wp2_with fail
        refine HOUT.out.mono ?_
        rintro e w3 ⟨rfl, X3⟩
        have HO3 := own_ext HO (XL.trans X3)
        have XB := XA.trans X3
        have hsz := XB.size
        go_wp2_with (at_builtin; refine wp_app1 (s := .tmp 23) (x := .tmp 25) (y := .string T) rfl rfl ei_rats HO3 rfl rfl rfl rfl (by omega) (by omega) (by omega) ?_; intro v' w' hown hgrew)
        go_roundw
        case rel => exact ⟨i + 1, os ++ [T], by omega, by go_num, own_cast hown (by simp) rfl, hgrew.extNew XB HO3 (Nat.le_refl _), HI2⟩
        case measure => simp [intOf]; omega
    · have hil : qs.length = i := by omega
      have hi2 := HI.out
      rw [← hil, List.drop_length, outsG] at hi2
      have HI2 := Lib.hid hi2
      have HR := Lib.hid (own_rowOf (enc := Value.string) HO (by omega))
      have HFR := Lib.hid (own_fr (vs := os.map Value.string) HO (fun hne => by
        have := HO.1
        have := List.length_pos_iff.2 hne
        omega))
      clear hlt HO hi2
      go_wp2_with fail
      go_ret2
      exact ⟨X, .inr ⟨os, _, by rw [HI2.out]; simp, rfl, HR.out, HFR.out⟩⟩

theorem info_vec : (Tryz.prog.info? 36).map (fun i => (i.zero, i.size, i.bytes)) = some (some (.slice none 0 0), 1, 24) := by kernel_rfl
theorem ei_mat : EI Tryz.prog 23 36 (.slice none 0 0) 1 24 := ⟨Tryz.underlying23, info_parts info_vec, rfl, by decide⟩
/-- the texts of rows of numbers, if none is too long -/
def outsM : List (List Rat) → Option (List (List ByteArray))
  | [] => some []
  | r :: t => match outsG r with
    | none => none
    | some os => (outsM t).map (os :: ·)
theorem rowsX_rows {B : Nat} {r : Option Nat} {w : World} {v : Value} {us : List Value} {xss : List (List ByteArray)} (h : RowsX B r w us (xss.map (·.map Value.string))) (hv : Row w v us) : Rows Value.string w v xss := by
  refine ⟨us, hv, by have := h.len; rwa [List.length_map] at this, fun i u xs a b => (h.row i u (xs.map Value.string) a (by rw [List.getElem?_map, b]; rfl)).1.1⟩
/-- what a function returns that makes a matrix -/
def MatPost (M : List (List Rat)) (w : World) (e : Ending) (w' : World) : Prop := Ext w w' ∧
  ((outsM M = none ∧ e = .returned (.tuple #[.slice none 0 0, .int .i64 2])) ∨ ∃ os u, outsM M = some os ∧ e = .returned (.tuple #[u, .int .i64 0]) ∧ Rows Value.string w' u os)

set_option maxHeartbeats 3200000 in
set_option maxRecDepth 100000 in
theorem outMatrix_any (v : Value) (ms : List (List Rat)) (w : World) (htab : TabPow w) (hv : QssV w v ms) (hl : ms.length ≤ 1000000) (hll : ∀ r ∈ ms, r.length ≤ 1000000) :
    Calls Tryz.prog 76 #[v] w (MatPost ms w) := by
  obtain ⟨wo, rfl⟩ : ∃ wo : World, wo = w := ⟨_, rfl⟩
  obtain ⟨us, hr, hul, hel⟩ := hv
  obtain ⟨ao, c, rfl, _, hlen, _, hc⟩ := hr
  have HC := Lib.hid hc
  have HEL := Lib.hid hel
  have HUL := Lib.hid hul
  have HT := Lib.hid htab
  have HLL := Lib.hid hll
  have hu1 : us.length ≤ 1000000 := by omega
  unfold MatPost
  clear hc hel hul hl htab hll
  go_enter Tryz.func76, Tryz.ntmps76
  go_wp2_with fail
  go_loopw [4, 11] (fun ov iv wr => ∃ (i : Nat) (oss : List (List ByteArray)) (xs : List Value), i ≤ us.length ∧ iv = .int .i64 i ∧ Hid (wr.ownsRow wo.heap.size 36 1 ov i xs) ∧ Hid (RowsX wo.heap.size ov.ownBlock wr xs (oss.map (·.map Value.string))) ∧ Ext wo wr ∧ Hid (outsM ms = (outsM (ms.drop i)).map (oss ++ ·))) (fun _ iv _ => us.length - (intOf iv).toNat)
  case atStart => exact ⟨0, [], [], Nat.zero_le _, rfl, World.ownsRow_nil _ _ _ _, RowsX.nil _ _ _, Ext.refl _, by show _ = _; rw [List.drop_zero]; cases outsM ms <;> rfl⟩
  case round =>
    obtain ⟨i, oss, xs, hi, rfl, HO, HRX, X, HI⟩ := hrel
    by_cases hlt : i < us.length
    · obtain ⟨u, d1, d2, d3⟩ := get_lt hlt
      obtain ⟨qs, q1, q2, q3⟩ := get_lt (xs := ms) (k := i) (by rw [← HUL.out]; exact hlt)
      obtain ⟨b, off, rfl, hc0⟩ := HC.out.ext X i u d1.out
      have hcell : wr.cell? ⟨b, off + i, none⟩ = some u := hc0
      have HOA := Lib.hid (outAllO_any u qs wr (tabPow_ext HT.out X) ((HEL.out i u qs d1.out q1.out).ext X) (HLL.out qs (List.mem_of_getElem? q1.out)))
      obtain ⟨ao2, c2, rfl, _, _⟩ := (HEL.out i u qs d1.out q1.out).opn
      have hki : (i : Int) < (us.length : Int) := by omega
      have hi2 := HI.out
      rw [q2.out, outsM] at hi2
      have HI2 := Lib.hid hi2
      clear hc0 hlt hi2
      go_wp2_with fail
      refine HOA.out.mono ?_
      rintro e w3 ⟨X3, h9⟩
      rcases h9 with ⟨hn, rfl⟩ | ⟨os, u1, hn, rfl, hst1, hfr⟩
      · have hz := HI2.out
        rw [hn] at hz
        have HZ := Lib.hid (show outsM ms = none from hz)
        clear hz hn
        go_wp2_with fail
        go_ret2
        exact ⟨X.trans X3, .inl ⟨HZ.out, rfl⟩⟩
      · have hz := HI2.out
        rw [hn] at hz
        have HZ : Hid (outsM ms = (outsM (ms.drop (i + 1))).map ((oss ++ [os]) ++ ·)) := by
          show _ = _
          rw [hz]
          cases outsM (ms.drop (i + 1)) <;> simp
        obtain ⟨ao1, c1, rfl, _, _⟩ := hst1.open
        have HO4 := own_ext HO.out X3
        have XA := X.trans X3
        have hsz := XA.size
        have hwr : wr.heap.size ≤ w3.heap.size := X3.size
        have HLT := Lib.hid (fun k hk => ((HO.out).lt k hk).2)
        have HRX3 := Lib.hid ((HRX.out.ext X3).snoc (u := .slice ao1 os.length c1) (vs := os.map Value.string) ⟨hst1, hfr.away HLT.out⟩ (hfr.mono X.size))
        generalize os.length = n1 at *
        clear hz hn hst1 HI2 HRX HO hfr
        go_wp2_with (at_builtin; refine wp_app1 (s := .tmp 23) (x := .tmp 25) (y := .slice ao1 n1 c1) rfl rfl ei_mat HO4 rfl rfl rfl rfl (by omega) (by omega) (by omega) ?_; intro v' w' hown hgrew)
        have HRY0 := HRX3.out.grew ⟨hgrew.by', hgrew.blk⟩
        have HRY := Lib.hid (show RowsX wo.heap.size v'.ownBlock w' (xs ++ [.slice ao1 n1 c1]) ((oss ++ [os]).map (·.map Value.string)) by rw [List.map_append]; exact HRY0)
        have HE := Lib.hid (hgrew.extNew XA HO4 (Nat.le_refl _))
        have HOW := Lib.hid hown
        clear HRY0
        go_roundw
        case rel => exact ⟨i + 1, oss ++ [os], xs ++ [.slice ao1 n1 c1], by omega, by go_num, HOW, HRY, HE.out, HZ⟩
        case measure => simp [intOf] <;> omega
    · have hil : us.length = i := by omega
      have hi2 := HI.out
      rw [← hil, HUL.out, List.drop_length, outsM] at hi2
      have HI2 := Lib.hid hi2
      have HR := Lib.hid (rowsX_rows HRX.out (own_row HO.out (by omega)))
      clear hlt HO HRX hi2
      go_wp2_with fail
      go_ret2
      exact ⟨X, .inr ⟨oss, _, by rw [HI2.out]; simp, rfl, HR.out⟩⟩
end Go.Proofs.YtjnaecicdaiimaaGreatDoor
