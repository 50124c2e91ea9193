/- the text of a table; the walk of the reference: TableText -/
import Derived.Test.YtllhgkacbpgemaaDoorTable3
namespace Go.Proofs.YtllhgkacbpgemaaDoor
open Go.RowKit
set_option linter.unusedVariables false

def segB (x k : Nat) : List UInt8 := Lib.decDigits x ++ (if 1 < k then 120 :: Lib.decDigits k else []) ++ [59]
def tabG : List Int → Nat → List UInt8
  | [], _ => []
  | n :: t, long => if t.head? = some n then tabG t (long + 1) else segB n.toNat (long + 1) ++ tabG t 0
def tabB (xs : List Int) : ByteArray := ⟨(tabG xs 0).toArray⟩
def tabT (xs : List Int) : ByteArray := tabB xs ++ ⟨#[35]⟩ ++ decT (sumF (tabB xs))

theorem dec_len {n : Nat} (h : n ≤ 9223372036854775807) : (Lib.decDigits n).length ≤ 21 := by
  have := Lib.itoa_length_le (n : Int) (by omega) (by omega)
  rwa [Lib.itoa_nonneg] at this
theorem decT_size {n : Nat} (h : n ≤ 9223372036854775807) : (decT n).size ≤ 21 := by
  have := dec_len h
  simpa [decT, ByteArray.size] using this
theorem segB_len {x k : Nat} (h1 : x ≤ 9223372036854775807) (h2 : k ≤ 9223372036854775807) : (segB x k).length ≤ 44 := by
  have a := dec_len h1
  have b := dec_len h2
  unfold segB
  split <;> simp <;> omega
theorem tabG_len : ∀ (xs : List Int) (long : Nat), (∀ x ∈ xs, 0 ≤ x ∧ x ≤ 9999) → long + xs.length ≤ 9223372036854775807 → (tabG xs long).length ≤ 44 * xs.length
  | [], _, _, _ => Nat.le_refl _
  | n :: t, long, h, hl => by
    have hn := h n (by simp)
    simp only [List.length_cons] at hl
    rw [tabG]
    split
    · have := tabG_len t (long + 1) (fun x hx => h x (by simp [hx])) (by omega)
      simp only [List.length_cons]; omega
    · have h1 := tabG_len t 0 (fun x hx => h x (by simp [hx])) (by omega)
      have h2 := segB_len (x := n.toNat) (k := long + 1) (by omega) (by omega)
      simp only [List.length_append, List.length_cons]; omega

theorem tblErr_zero {xs : List Int} (h : tblErr xs = 0) : xs.length ≤ 4096 ∧ ∀ x ∈ xs, 0 ≤ x ∧ x ≤ 9999 := by
  rw [tblErr] at h
  split at h
  · cases h
  · split at h
    · cases h
    · rename_i h1 h2
      refine ⟨Nat.le_of_not_lt h1, fun x hx => ?_⟩
      have h3 : ¬ (decide (x < 0) || decide (9999 < x)) = true := fun e => h2 (List.any_eq_true.2 ⟨x, hx, e⟩)
      simp at h3
      omega

theorem head_drop {xs : List Int} {k : Nat} : (xs.drop (k + 1)).head? = xs[k + 1]? := by
  rw [List.head?_eq_getElem?, List.getElem?_drop]

theorem sumS_bd : ∀ (l : List UInt8) (a b : Nat), a ≤ 65520 → b ≤ 65520 → (sumS l (a, b)).1 ≤ 65520 ∧ (sumS l (a, b)).2 ≤ 65520
  | [], a, b, ha, hb => ⟨ha, hb⟩
  | c :: t, a, b, _, _ => by rw [sumS]; exact sumS_bd t _ _ (by omega) (by omega)
theorem sumF_le (s : ByteArray) : sumF s ≤ 4294967295 := by
  have := sumS_bd s.data.toList 1 0 (by omega) (by omega)
  unfold sumF; omega

set_option maxHeartbeats 3200000 in
set_option maxRecDepth 100000 in
theorem tableText_any (v : Value) (xs : List Int) (w : World) (hv : Ints w v xs) (h0 : tblErr xs = 0) :
    Calls Tryd.prog 34 #[v] w fun e w' => e = .returned (.string (tabT xs)) ∧ w = w' := by
  obtain ⟨hl, hrg⟩ := tblErr_zero h0
  have hFl := tabG_len xs 0 hrg (by omega)
  obtain ⟨F, hF⟩ : ∃ F, Hid (tabG xs 0 = F) := ⟨_, rfl⟩
  rw [hF.out] at hFl
  have HFL := Lib.hid hFl
  have hT : tabT xs = (⟨F.toArray⟩ : ByteArray) ++ ⟨#[35]⟩ ++ decT (sumF ⟨F.toArray⟩) := by rw [tabT, tabB, hF.out]
  rw [hT]
  have HRG := Lib.hid hrg
  obtain ⟨ao, c, rfl, hlen, hc⟩ := hv.open
  have HCC := Lib.hid hc
  clear hv hc h0 hrg hT hFl
  go_enter Tryd.func34, Tryd.ntmps34
  go_wp2_with fail
  go_loop [3, 4, 9] (fun s g i => ∃ (k long : Nat) (sb : ByteArray), k ≤ xs.length ∧ i = .int .i64 k ∧ g = .int .i64 long ∧ s = .string sb ∧ long ≤ k ∧ Hid (sb.data.toList ++ tabG (xs.drop k) long = F)) (fun _ _ i => xs.length - (intOf i).toNat)
  case atStart => exact ⟨0, 0, ⟨#[]⟩, Nat.zero_le _, rfl, rfl, rfl, Nat.le_refl _, by show _ = _; simpa using hF.out⟩
  case round =>
    obtain ⟨k, long, sb, hk, rfl, rfl, rfl, hlg, HI⟩ := hrel
    have hsb : sb.size ≤ 180224 := by
      have h1 := congrArg List.length HI.out
      rw [List.length_append, Array.length_toList] at h1
      have h2 := HFL.out
      have h3 : sb.size = sb.data.size := rfl
      omega
    by_cases hlt : k < xs.length
    · obtain ⟨x, x1, x2, _⟩ := get_lt hlt
      obtain ⟨b, off, rfl, hcell⟩ := HCC.out.at x1
      obtain ⟨hx0, hx9⟩ := HRG.out x (List.mem_of_getElem? x1.out)
      obtain ⟨n, rfl⟩ := Int.eq_ofNat_of_zero_le hx0
      have hi := HI.out
      rw [x2.out, tabG, head_drop] at hi
      by_cases hlt2 : k + 1 < xs.length
      · obtain ⟨y, y1, _, _⟩ := get_lt hlt2
        have hcy := HCC.out.at' y1
        rw [y1.out] at hi
        by_cases hyx : y = (n : Int)
        · subst hyx
          rw [if_pos rfl] at hi
          have HI2 := Lib.hid hi
          have hki : (k : Int) + 1 < (xs.length : Int) := by omega
          have hnn : ((n : Int) == (n : Int)) = true := by simp
          clear hi
          go_wp2_with fail
          go_round
          case rel => exact ⟨k + 1, long + 1, sb, by omega, by go_num, by go_num, rfl, by omega, HI2⟩
          case measure => simp [intOf]; omega
        · have hki : (k : Int) + 1 < (xs.length : Int) := by omega
          have hyb : (y == (n : Int)) = false := by rw [beq_eq_false_iff_ne]; exact hyx
          rw [if_neg (by intro e; exact hyx (Option.some.inj e))] at hi
          clear hyx
          obtain ⟨m, hm⟩ : ∃ m, long + 1 = m := ⟨_, rfl⟩
          have hmi : (long : Int) + 1 = (m : Int) := by omega
          rw [hm] at hi
          obtain ⟨D1, hD1⟩ : ∃ D1, decT n = D1 := ⟨_, rfl⟩
          have hs1 : D1.size ≤ 21 := by rw [← hD1]; exact decT_size (by omega)
          have HD1 := dec_any n w (by omega)
          rw [hD1] at HD1
          have HD1 := Lib.hid HD1
          have hb1 : D1.data.toList = Lib.decDigits n := by rw [← hD1]; simp [decT]
          have ha1 : sb.size + D1.size ≤ 180245 := by omega
          by_cases hm1 : 1 < m
          · obtain ⟨D2, hD2⟩ : ∃ D2, decT m = D2 := ⟨_, rfl⟩
            have hs2 : D2.size ≤ 21 := by rw [← hD2]; exact decT_size (by omega)
            have HD2 := dec_any m w (by omega)
            rw [hD2] at HD2
            have HD2 := Lib.hid HD2
            have hb2 : D2.data.toList = Lib.decDigits m := by rw [← hD2]; simp [decT]
            have hnew : Hid ((((sb ++ D1) ++ ((⟨#[120]⟩ : ByteArray) ++ D2)) ++ ⟨#[59]⟩).data.toList ++ tabG (xs.drop (k + 1)) 0 = F) := by
              show _ = _
              rw [← hi]
              simp only [bytes_data_append, hb1, hb2, segB, if_pos hm1, Int.toNat_natCast]
              simp
            have ha2 : 1 + D2.size ≤ 22 := by omega
            have ha3 : sb.size + D1.size + (1 + D2.size) ≤ 180300 := by omega
            have ha4 : sb.size + D1.size + (1 + D2.size) + 1 ≤ 180300 := by omega
            have hm1i : (1 : Int) < (m : Int) := by omega
            clear hi hD1 hD2 hb1 hb2 hm
            go_wp2_with fail
            refine HD1.out.mono ?_
            rintro e w' ⟨rfl, rfl⟩
            go_wp2_with fail
            refine HD2.out.mono ?_
            rintro e w' ⟨rfl, rfl⟩
            go_wp2_with fail
            go_round
            case rel => exact ⟨k + 1, 0, _, by omega, by go_num, rfl, rfl, by omega, hnew⟩
            case measure => simp [intOf]; omega
          · have hnew : Hid (((sb ++ D1) ++ ⟨#[59]⟩).data.toList ++ tabG (xs.drop (k + 1)) 0 = F) := by
              show _ = _
              rw [← hi]
              simp only [bytes_data_append, hb1, segB, if_neg hm1, Int.toNat_natCast]
              simp
            have ha4 : sb.size + D1.size + 1 ≤ 180300 := by omega
            have hm1i : (m : Int) ≤ 1 := by omega
            have hm1n : m ≤ 1 := by omega
            clear hi hD1 hb1 hm hm1
            go_wp2_with fail
            refine HD1.out.mono ?_
            rintro e w' ⟨rfl, rfl⟩
            go_wp2_with fail
            go_round
            case rel => exact ⟨k + 1, 0, _, by omega, by go_num, rfl, rfl, by omega, hnew⟩
            case measure => simp [intOf]; omega
      · have hki : (xs.length : Int) ≤ (k : Int) + 1 := by omega
        rw [List.getElem?_eq_none (by omega), if_neg (by intro e; cases e)] at hi
        obtain ⟨m, hm⟩ : ∃ m, long + 1 = m := ⟨_, rfl⟩
        have hmi : (long : Int) + 1 = (m : Int) := by omega
        rw [hm] at hi
        obtain ⟨D1, hD1⟩ : ∃ D1, decT n = D1 := ⟨_, rfl⟩
        have hs1 : D1.size ≤ 21 := by rw [← hD1]; exact decT_size (by omega)
        have HD1 := dec_any n w (by omega)
        rw [hD1] at HD1
        have HD1 := Lib.hid HD1
        have hb1 : D1.data.toList = Lib.decDigits n := by rw [← hD1]; simp [decT]
        have ha1 : sb.size + D1.size ≤ 180245 := by omega
        by_cases hm1 : 1 < m
        · obtain ⟨D2, hD2⟩ : ∃ D2, decT m = D2 := ⟨_, rfl⟩
          have hs2 : D2.size ≤ 21 := by rw [← hD2]; exact decT_size (by omega)
          have HD2 := dec_any m w (by omega)
          rw [hD2] at HD2
          have HD2 := Lib.hid HD2
          have hb2 : D2.data.toList = Lib.decDigits m := by rw [← hD2]; simp [decT]
          have hnew : Hid ((((sb ++ D1) ++ ((⟨#[120]⟩ : ByteArray) ++ D2)) ++ ⟨#[59]⟩).data.toList ++ tabG (xs.drop (k + 1)) 0 = F) := by
            show _ = _
            rw [← hi]
            simp only [bytes_data_append, hb1, hb2, segB, if_pos hm1, Int.toNat_natCast]
            simp
          have ha2 : 1 + D2.size ≤ 22 := by omega
          have ha3 : sb.size + D1.size + (1 + D2.size) ≤ 180300 := by omega
          have ha4 : sb.size + D1.size + (1 + D2.size) + 1 ≤ 180300 := by omega
          have hm1i : (1 : Int) < (m : Int) := by omega
          clear hi hD1 hD2 hb1 hb2 hm
          go_wp2_with fail
          refine HD1.out.mono ?_
          rintro e w' ⟨rfl, rfl⟩
          go_wp2_with fail
          refine HD2.out.mono ?_
          rintro e w' ⟨rfl, rfl⟩
          go_wp2_with fail
          go_round
          case rel => exact ⟨k + 1, 0, _, by omega, by go_num, rfl, rfl, by omega, hnew⟩
          case measure => simp [intOf]; omega
        · have hnew : Hid (((sb ++ D1) ++ ⟨#[59]⟩).data.toList ++ tabG (xs.drop (k + 1)) 0 = F) := by
            show _ = _
            rw [← hi]
            simp only [bytes_data_append, hb1, segB, if_neg hm1, Int.toNat_natCast]
            simp
          have ha4 : sb.size + D1.size + 1 ≤ 180300 := by omega
          have hm1i : (m : Int) ≤ 1 := by omega
          have hm1n : m ≤ 1 := by omega
          clear hi hD1 hb1 hm hm1
          go_wp2_with fail
          refine HD1.out.mono ?_
          rintro e w' ⟨rfl, rfl⟩
          go_wp2_with fail
          go_round
          case rel => exact ⟨k + 1, 0, _, by omega, by go_num, rfl, rfl, by omega, hnew⟩
          case measure => simp [intOf]; omega
    · have hF2 : sb.data.toList = F := by
        have h := HI.out
        rw [List.drop_eq_nil_of_le (by omega)] at h
        simpa [tabG] using h
      have hsb2 : sb = ⟨F.toArray⟩ := by rw [← hF2]
      obtain ⟨S, hS⟩ : ∃ S, sumF sb = S := ⟨_, rfl⟩
      have HSM := Lib.hid (tableSum_any sb w (by omega) S hS)
      obtain ⟨D3, hD3⟩ : ∃ D3, decT S = D3 := ⟨_, rfl⟩
      have hSb : S ≤ 4294967295 := by rw [← hS]; exact sumF_le sb
      have hs3 : D3.size ≤ 21 := by rw [← hD3]; exact decT_size (by omega)
      have HD3 := dec_any S w (by omega)
      rw [hD3] at HD3
      have HD3 := Lib.hid HD3
      have hgoal : Hid ((⟨F.toArray⟩ : ByteArray) ++ ⟨#[35]⟩ ++ decT (sumF ⟨F.toArray⟩) = sb ++ ⟨#[35]⟩ ++ D3) := by show _ = _; rw [← hsb2, hS, hD3]
      have ha1 : sb.size + 1 ≤ 180300 := by omega
      have ha2 : sb.size + 1 + D3.size ≤ 180400 := by omega
      clear hF2 hsb2 hS hD3
      go_wp2_with fail
      refine HSM.out.mono ?_
      rintro e w' ⟨rfl, rfl⟩
      go_wp2_with fail
      refine HD3.out.mono ?_
      rintro e w' ⟨rfl, rfl⟩
      go_wp2_with fail
      go_ret
      exact ⟨by rw [hgoal.out]; rfl, rfl⟩
end Go.Proofs.YtllhgkacbpgemaaDoor
