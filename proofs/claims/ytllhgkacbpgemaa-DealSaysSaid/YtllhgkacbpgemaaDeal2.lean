/- walks of the package deal: Combine -/
import Derived.Test.YtllhgkacbpgemaaCards1
import Derived.Test.YtllhgkacbpgemaaMk
import Derived.Test.YtllhgkacbpgemaaDeal1
namespace Go.Proofs.Ytllhgkacbpgemaa
open Go.RowKit

/-- the first error of rows of draws -/
def firstErr (n : Int) : List (List Int) → Int
  | [] => 0
  | x :: xs => if drawsErr n x ≠ 0 then drawsErr n x else firstErr n xs
/-- the error of a combination -/
def combErr (n : Int) (xss : List (List Int)) : Int := if n < 0 ∨ 52 < n then 4 else if 6 < xss.length then 2 else firstErr n xss

/-- the sum of a column -/
def colSum (xss : List (List Int)) (j : Nat) : Int := (xss.map fun (xs : List Int) => xs.getD j 0).sum
/-- what a combination has at a place -/
def combAt (n : Nat) (xss : List (List Int)) (j : Nat) : Int := colSum xss j % ((n : Int) - j)
def combF (n : Nat) (xss : List (List Int)) : List Int := (List.range (n - 1)).map (combAt n xss)

/-- a list by two functions: the second one ahead of a place -/
def mixF (m : Nat) (A B : Nat → Int) (j : Nat) : List Int := (List.range m).map fun i => if i < j then B i else A i

theorem mixF_len (m : Nat) (A B : Nat → Int) (j : Nat) : (mixF m A B j).length = m := by simp [mixF]
theorem mixF_zero (m : Nat) (A B : Nat → Int) : mixF m A B 0 = (List.range m).map A := by simp [mixF]
theorem mixF_all (m : Nat) (A B : Nat → Int) : mixF m A B m = (List.range m).map B := by
  refine List.map_congr_left fun i hi => ?_
  rw [if_pos (List.mem_range.1 hi)]
theorem mixF_get (m : Nat) (A B : Nat → Int) (j : Nat) (hj : j < m) : (mixF m A B j)[j]? = some (A j) := by simp [mixF, hj]
theorem mixF_set (m : Nat) (A B : Nat → Int) (j : Nat) (hj : j < m) : (mixF m A B j).set j (B j) = mixF m A B (j + 1) := by
  apply List.ext_getElem
  · simp [mixF]
  · intro i h1 h2
    simp only [mixF, List.getElem_set, List.getElem_map, List.getElem_range]
    split
    · subst i; rw [if_pos (by omega)]
    · split
      · rw [if_pos (by omega)]
      · rw [if_neg (by omega)]

theorem firstErr_zero (n : Int) (xss : List (List Int)) (h : firstErr n xss = 0) : ∀ x ∈ xss, drawsErr n x = 0 := by
  induction xss with
  | nil => simp
  | cons y ys ih =>
    simp only [firstErr] at h
    split at h
    · rename_i h1; exact absurd h h1
    · rename_i h1
      intro x hx
      rcases List.mem_cons.1 hx with rfl | hx
      · exact Decidable.not_not.1 h1
      · exact ih h x hx

theorem colSum_snoc {xss : List (List Int)} {k : Nat} {x : List Int} (h : Hid (xss.take (k + 1) = xss.take k ++ [x])) (j : Nat) : colSum (xss.take (k + 1)) j = colSum (xss.take k) j + x.getD j 0 := by
  rw [h.out]; simp [colSum]

theorem combAt_bd (n : Nat) (xss : List (List Int)) (j : Nat) (h : j < n - 1) : 0 ≤ combAt n xss j ∧ combAt n xss j < (n : Int) - j := by
  have h1 : (0 : Int) < (n : Int) - j := by omega
  exact ⟨Int.emod_nonneg _ (by omega), Int.emod_lt_of_pos _ h1⟩

theorem combAt_snoc {n : Nat} {xss : List (List Int)} {k : Nat} {x : List Int} (h : Hid (xss.take (k + 1) = xss.take k ++ [x])) (j : Nat) (d : Int) (hd : x[j]? = some d) :
    combAt n (xss.take (k + 1)) j = (combAt n (xss.take k) j + d) % ((n : Int) - j) := by
  have e : x.getD j 0 = d := by simp [List.getD_eq_getElem?_getD, hd]
  rw [combAt, colSum_snoc h, e, combAt, Int.emod_add_emod]

set_option maxHeartbeats 800000 in
set_option maxRecDepth 100000 in
theorem combine_err (n : Int) (v : Value) (xss : List (List Int)) (w : World) (hv : Rows (Value.int .i64) w v xss) (hn : -9223372036854775808 ≤ n ∧ n ≤ 9223372036854775807) (h : combErr n xss ≠ 0) :
    Calls Try.prog 27 #[.int .i64 n, v] w fun e w' => e = .returned (.tuple #[.slice none 0 0, .int .i64 (combErr n xss)]) ∧ w = w' := by
  obtain ⟨us, ⟨ao, c, rfl, _, hlen, _, hc⟩, hl, hr⟩ := hv
  have HC := Lib.hid hc; have HR := Lib.hid hr; have HL := Lib.hid hl
  have HF := Lib.hid (fun u x (hx : Ints w u x) => fits_any n u x w hx hn)
  have hn1 := hn.1; have hn2 := hn.2
  clear hc hr hl hn
  by_cases h1 : n < 0 ∨ 52 < n
  · have hq : combErr n xss = 4 := by simp [combErr, h1]
    rw [hq]
    clear h hq
    rcases h1 with h1 | h1
    · go_enter Try.func27, Try.ntmps27
      go_wp2_with fail
      go_ret2
      exact ⟨rfl, rfl⟩
    · have h2 : 0 ≤ n := by omega
      go_enter Try.func27, Try.ntmps27
      go_wp2_with fail
      go_ret2
      exact ⟨rfl, rfl⟩
  have h2 : 0 ≤ n := by omega
  have h3 : n ≤ 52 := by omega
  by_cases h4 : 6 < us.length
  · have hq : combErr n xss = 2 := by simp [combErr, h1, ← HL.out, h4]
    rw [hq]
    clear h hq h1
    go_enter Try.func27, Try.ntmps27
    go_wp2_with fail
    go_ret2
    exact ⟨rfl, rfl⟩
  have hq : combErr n xss = firstErr n xss := by simp [combErr, h1, ← HL.out, h4]
  rw [hq] at h ⊢
  have h5 : us.length ≤ 6 := by omega
  obtain ⟨q, hq⟩ : ∃ q, Hid (firstErr n xss = q) := ⟨_, rfl⟩
  rw [hq.out] at h ⊢
  have hq0 : (q != 0) = true := by simp [h]
  have HQ := Lib.hid h
  clear h h1 h4
  go_enter Try.func27, Try.ntmps27
  go_wp2_with fail
  go_loop [7, 8, 25] (fun _ _ i => ∃ k : Nat, k ≤ us.length ∧ i = .int .i64 k ∧ Hid (firstErr n (xss.drop k) = q)) (fun _ _ i => us.length - (intOf i).toNat)
  case atStart => exact ⟨0, Nat.zero_le _, rfl, hq⟩
  case round =>
    obtain ⟨k, hk, rfl, HI⟩ := hrel
    by_cases hlt : k < us.length
    · obtain ⟨u, h1, _, _⟩ := get_lt hlt
      obtain ⟨x, g1, g2, _⟩ := get_lt (xs := xss) (k := k) (by rw [← HL.out]; exact hlt)
      obtain ⟨b, off, rfl, hcell⟩ := HC.out k u h1.out
      have hF := Lib.hid (HF.out u x (HR.out k u x h1.out g1.out))
      have hI := HI.out
      rw [g2.out, firstErr] at hI
      by_cases he : drawsErr n x = 0
      · rw [if_neg (by simp [he])] at hI
        rw [he] at hF
        have HI2 := Lib.hid hI
        clear hI he
        go_wp2_with fail
        refine hF.out.mono ?_
        rintro e w' ⟨rfl, rfl⟩
        go_wp2_with fail
        go_round
        case rel => exact ⟨k + 1, by omega, by go_num, HI2⟩
        case measure => simp [intOf]; omega
      · rw [if_pos he] at hI
        rw [hI] at hF
        clear hI he
        go_wp2_with fail
        refine hF.out.mono ?_
        rintro e w' ⟨rfl, rfl⟩
        go_wp2_with fail
        go_ret2
        exact ⟨rfl, rfl⟩
    · obtain ⟨h1, _⟩ := get_ge (xs := xss) (k := k) (by rw [← HL.out]; exact hlt)
      exact absurd (by rw [← HI.out, h1.out]; rfl) HQ.out

set_option maxHeartbeats 1600000 in
set_option maxRecDepth 100000 in
theorem combine_ok (n : Nat) (v : Value) (xss : List (List Int)) (w : World) (hv : Rows (Value.int .i64) w v xss) (hn : n ≤ 52) (h6 : xss.length ≤ 6) (h : firstErr n xss = 0) :
    Calls Try.prog 27 #[.int .i64 n, v] w fun e w' => ∃ u, e = .returned (.tuple #[u, .int .i64 0]) ∧ w'.ownsRow w.heap.size 3 1 u (n - 1) ((combF n xss).map (Value.int .i64)) ∧ Ext w w' := by
  obtain ⟨us, ⟨ao, c, rfl, _, hlen, _, hc⟩, hl, hr⟩ := hv
  have HE := Lib.hid (firstErr_zero n xss h)
  have HC := Lib.hid hc; have HR := Lib.hid hr; have HL := Lib.hid hl
  have HF := Lib.hid (fun u x (hx : Ints w u x) => fits_any n u x w hx (by omega))
  have h5 : us.length ≤ 6 := by omega
  clear hc hr hl h h6
  obtain ⟨m, hm⟩ : ∃ m, Hid (n - 1 = m) := ⟨_, rfl⟩
  have hm52 : m ≤ 52 := by have := hm.out; omega
  have hnl : (n : Int) < 1 ∨ 1 ≤ (n : Int) := by omega
  have hcf : combF n xss = (List.range m).map (combAt n xss) := by rw [← hm.out]; rfl
  have HCF := Lib.hid hcf; clear hcf
  rcases hnl with hnl | hnl
  all_goals
    go_enter Try.func27, Try.ntmps27
    go_wp2_with fail
    go_loop [7, 8, 25] (fun _ _ i => ∃ k : Nat, k ≤ us.length ∧ i = .int .i64 k) (fun _ _ i => us.length - (intOf i).toNat)
    case atStart => exact ⟨0, Nat.zero_le _, rfl⟩
    case round =>
      obtain ⟨k, hk, rfl⟩ := hrel
      by_cases hlt : k < us.length
      · obtain ⟨u, h1, _, _⟩ := get_lt hlt
        obtain ⟨x, g1, g2, _⟩ := get_lt (xs := xss) (k := k) (by rw [← HL.out]; exact hlt)
        obtain ⟨b, off, rfl, hcell⟩ := HC.out k u h1.out
        have hF := HF.out u x (HR.out k u x h1.out g1.out)
        rw [HE.out x (List.mem_of_getElem? g1.out)] at hF
        have hF := Lib.hid hF
        go_wp2_with fail
        refine hF.out.mono ?_
        rintro e w' ⟨rfl, rfl⟩
        go_wp2_with fail
        go_round
        case rel => exact ⟨k + 1, by omega, by go_num⟩
        case measure => simp [intOf]; omega
      · clear hk
        go_wp2_with (at_make; refine wp_make1 rfl rfl ei_ints rfl rfl rfl m (by have := hm.out; omega) (by have := hm.out; omega) (by omega) (by omega) ?_; intro w1 hown hX)
        go_loopw [12, 13, 11, 46, 47, 48, 42] (fun _ _ _ _ _ _ i wr => ∃ k : Nat, k ≤ us.length ∧ i = .int .i64 k ∧ Ext w wr ∧ wr.ownsRow w.heap.size 3 1 (.slice (some ⟨w.heap.size, 0, none⟩) m m) m (((List.range m).map (combAt n (xss.take k))).map (Value.int .i64))) (fun _ _ _ _ _ _ i _ => us.length - (intOf i).toNat)
        case atStart => exact ⟨0, Nat.zero_le _, rfl, hX, own_cast hown (by apply List.ext_getElem <;> simp [combAt, colSum]) rfl⟩
        case round =>
          obtain ⟨k, hk, rfl, HX, HO⟩ := hrel
          by_cases hlt : k < us.length
          · obtain ⟨u, h1, _, _⟩ := get_lt hlt
            obtain ⟨x, g1, g2, g3⟩ := get_lt (xs := xss) (k := k) (by rw [← HL.out]; exact hlt)
            obtain ⟨b, off, rfl, hcell0⟩ := HC.out k u h1.out
            have hcell := HX.cell hcell0
            clear hcell0
            obtain ⟨ao2, c2, rfl, hl2, hd⟩ := ((HR.out k u x h1.out g1.out)).open
            obtain ⟨hxl, hxd⟩ := drawsErr_zero (HE.out x (List.mem_of_getElem? g1.out))
            rw [hm.out] at hxl
            have HXD := Lib.hid hxd; have HD := Lib.hid hd
            have HXL := Lib.hid hxl
            rw [hxl] at hl2 hcell
            clear hxl hxd hd hl2
            obtain ⟨wo, rfl⟩ : ∃ wo : World, wo = wr := ⟨_, rfl⟩
            go_wp2_with fail
            go_loopw [48] (fun j wr => ∃ jj : Nat, jj ≤ m ∧ j = .int .i64 jj ∧ Ext w wr ∧ wr.ownsRow w.heap.size 3 1 (.slice (some ⟨w.heap.size, 0, none⟩) m m) m ((mixF m (combAt n (xss.take k)) (combAt n (xss.take (k + 1))) jj).map (Value.int .i64))) (fun j _ => m - (intOf j).toNat)
            case atStart => exact ⟨0, Nat.zero_le _, rfl, HX, by rw [mixF_zero]; exact HO⟩
            case round =>
              obtain ⟨j, hj, rfl, HX2, HO2⟩ := hrel
              by_cases hlt2 : j < m
              · obtain ⟨d, d1, _, _⟩ := get_lt (xs := x) (k := j) (by rw [HXL.out]; exact hlt2)
                obtain ⟨b2, off2, rfl, hdc⟩ := HD.out.at d1
                have hdcell := HX2.cell hdc
                clear hdc
                obtain ⟨hd0, hd1⟩ := HXD.out j d d1.out
                have hjn : j < n - 1 := by rw [hm.out]; exact hlt2
                first
                  | (exfalso; omega)
                  | (have hdn : (0 : Int) < (n : Int) - j := by omega
                     obtain ⟨ca0, ca1⟩ := combAt_bd n (xss.take k) j hjn
                     have hsn := combAt_snoc (n := n) g3 j d d1.out
                     obtain ⟨ca, hca⟩ : ∃ ca, Hid (combAt n (xss.take k) j = ca) := ⟨_, rfl⟩
                     rw [hca.out] at ca0 ca1 hsn
                     have hoc := own_cell HO2 (j := j) (x := .int .i64 ca) (by show _ = _; rw [List.getElem?_map, mixF_get _ _ _ _ hlt2, hca.out]; rfl)
                     have hfz := HO2.frozenAt j
                     have hst := HO2.stored j (.int .i64 ((ca + d) % ((n : Int) - j)))
                     rw [← hsn, ← List.map_set, mixF_set _ _ _ _ hlt2, hsn] at hst
                     have HSN := Lib.hid hsn
                     have HST := Lib.hid hst
                     have htm : (ca + d).tmod ((n : Int) - j) = (ca + d) % ((n : Int) - j) := Int.tmod_eq_emod_of_nonneg (by omega)
                     clear hst hsn
                     have hne : ((n : Int) - (j : Int) == 0) = false := by simp; omega
                     go_wp2_with fail
                     go_roundw
                     case rel => exact ⟨j + 1, by omega, by go_num, HX2.setCell (Nat.le_refl _) _, by simpa [htm] using HST.out.1⟩
                     case measure => simp [intOf]; omega)
              · have hjm : j = m := by omega
                subst hjm
                go_wp2_with fail
                go_roundw
                case rel => exact ⟨k + 1, by omega, by go_num, HX2, by rw [mixF_all] at HO2; exact HO2⟩
                case measure => simp [intOf]; omega
          · obtain ⟨_, h1⟩ := get_ge (xs := xss) (k := k) (by rw [← HL.out]; exact hlt)
            go_wp2_with fail
            go_ret2
            refine ⟨_, rfl, ?_, HX⟩
            rw [hm.out, HCF.out]; rw [h1.out] at HO; exact HO
end Go.Proofs.Ytllhgkacbpgemaa
