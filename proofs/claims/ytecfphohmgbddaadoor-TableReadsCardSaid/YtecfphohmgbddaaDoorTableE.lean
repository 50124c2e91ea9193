/- plain: texts that end with ';'; walk: decimal -/
import Derived.Test.YtecfphohmgbddaaDoorTableA
import Derived.Lib.ParseIntBTie
namespace Go.Proofs.YtecfphohmgbddaaDoor
open Go.RowKit
set_option linter.unusedVariables false

theorem endsB_iff {s : ByteArray} {c : UInt8} : endsB s c = true ↔ ∃ t, s.data.toList = t ++ [c] := by
  unfold endsB Lib.hasSuffix
  rw [List.isSuffixOf_iff_suffix]
  constructor
  · rintro ⟨t, h⟩; exact ⟨t, h.symm⟩
  · rintro ⟨t, h⟩; exact ⟨t, h.symm⟩

theorem bsize (s : ByteArray) : s.data.toList.length = s.size := Array.length_toList

theorem ends_ix {s : ByteArray} (h : endsB s 59 = true) : ∃ i : Nat, ixB s 59 = i ∧ i < s.size := by
  rcases ixB_cases s 59 with h1 | h1
  · exfalso
    obtain ⟨t, ht⟩ := endsB_iff.1 h
    have h2 := Lib.indexByte_none (l := s.data.toList) (c := 59) h1 t.length
    rw [ht, List.getElem?_append_right (Nat.le_refl _), Nat.sub_self] at h2
    exact h2 rfl
  · exact h1

theorem ends_cutR {s : ByteArray} (h : endsB s 59 = true) : (cutR s 59).size = 0 ∨ endsB (cutR s 59) 59 = true := by
  obtain ⟨i, hi, hlt⟩ := ends_ix h
  rw [cutR_hit hi]
  obtain ⟨t, ht⟩ := endsB_iff.1 h
  have hl : t.length + 1 = s.size := by rw [← bsize, ht, List.length_append]; rfl
  have hd : (s.extract (i + 1) s.size).data.toList = s.data.toList.drop (i + 1) := by
    rw [ByteArray.data_extract, Array.toList_extract, List.extract_eq_take_drop, List.take_of_length_le]
    rw [List.length_drop, bsize]; omega
  by_cases h0 : i + 1 = s.size
  · left
    rw [ByteArray.size_extract]; omega
  · right
    refine endsB_iff.2 ⟨t.drop (i + 1), ?_⟩
    rw [hd, ht, List.drop_append_of_le_length (by omega)]

/-- the last byte -/
theorem ends_last {s : ByteArray} (h0 : s.size - 1 < s.size) : endsB s 59 = true ↔ s[s.size - 1] = 59 := by
  have e : s.data.toList[s.size - 1]? = some s[s.size - 1] := by
    rw [List.getElem?_eq_getElem (by rw [bsize]; exact h0)]; rfl
  constructor
  · intro h
    obtain ⟨t, ht⟩ := endsB_iff.1 h
    have hl : t.length = s.size - 1 := by
      have : t.length + 1 = s.size := by rw [← bsize, ht, List.length_append]; rfl
      omega
    rw [ht, List.getElem?_append_right (by omega), hl, Nat.sub_self] at e
    exact (Option.some.inj e).symm
  · intro h
    rw [h] at e
    refine endsB_iff.2 ⟨s.data.toList.take (s.size - 1), ?_⟩
    have hlt : s.size - 1 < s.data.toList.length := by rw [bsize]; exact h0
    have h3 := List.take_succ_eq_append_getElem hlt
    rw [(List.getElem?_eq_some_iff.1 e).2, List.take_of_length_le (by rw [bsize]; omega)] at h3
    exact h3

theorem one_num : numO ⟨#[49]⟩ = some 1 := by decide +kernel

/-- strconv.ParseInt ends with an error -/
def ParseErr (s : ByteArray) (w : World) : Prop :=
  Calls Tryd.prog 35 #[.string s, .int .i64 10, .int .i64 64] w fun e w' => ∃ (v : Int) (T : TypeId) (N : Nat), e = .returned (.tuple #[.int .i64 v, .iface T (.pointer (some ⟨N, 0, none⟩))]) ∧ Ext w w'

theorem format_any (v : Int) (h0 : -9223372036854775808 ≤ v) (h1 : v ≤ 9223372036854775807) (w : World) (ht : TabPow w) :
    Calls Tryd.prog 36 #[.int .i64 v, .int .i64 10] w fun e w' => e = .returned (.string ⟨(Lib.itoa v).toArray⟩) ∧ Ext w w' := by
  refine (Tryd.strconv_FormatInt_10 v h0 h1 w ht).mono ?_
  rintro e w' ⟨rfl, k, os, rfl⟩
  exact ⟨rfl, Lib.below_grow _ w (Nat.le_refl _) k os⟩

set_option maxHeartbeats 800000 in
set_option maxRecDepth 100000 in
theorem decimal_bad (s : ByteArray) (w : World) (HN : Hid (numO s = none)) (HA : Hid (ParseErr s w)) : Calls Tryd.prog 20 #[.string s] w (NumPost s w) := by
  have HA : Hid (Calls Tryd.prog 35 #[.string s, .int .i64 10, .int .i64 64] w fun e w' => ∃ (v : Int) (T : TypeId) (N : Nat), e = .returned (.tuple #[.int .i64 v, .iface T (.pointer (some ⟨N, 0, none⟩))]) ∧ Ext w w') := HA
  go_enter Tryd.func20, Tryd.ntmps20
  go_wp2_with fail
  refine HA.out.mono ?_
  rintro e w1 ⟨v, T, N, rfl, X1⟩
  go_wp2_with fail
  go_ret2
  exact numPost_none HN X1

set_option maxHeartbeats 800000 in
set_option maxRecDepth 100000 in
theorem decimal_ok (s : ByteArray) (v : Int) (w : World) (hs : s.size ≤ 9223372036854775806) (HV : StrV w) (h : Lib.atoiAll s.data.toList = .ok v) : Calls Tryd.prog 20 #[.string s] w (NumPost s w) := by
  obtain ⟨hb0, hb1⟩ := Lib.atoiAll_bounds h
  have HA := Lib.hid (Tryd.strconv_ParseInt_10_at64_ok s hs v (by rw [Lib.parseIntB_64]; exact h) w)
  have hn : numO s = if 0 ≤ v ∧ decT v.toNat = s then some v.toNat else none := by rw [numO, h]
  have HI := Lib.hid (fun W (hx : Ext w W) => format_any v hb0 hb1 W (tabPow_ext HV.tab hx))
  clear h HV
  obtain ⟨D, hD⟩ : ∃ D : ByteArray, (⟨(Lib.itoa v).toArray⟩ : ByteArray) = D := ⟨_, rfl⟩
  rw [hD] at HI
  by_cases h0 : 0 ≤ v
  · obtain ⟨n, rfl⟩ := Int.eq_ofNat_of_zero_le h0
    rw [Int.toNat_natCast] at hn
    rw [Lib.itoa_nonneg] at hD
    rw [show decT n = D from hD] at hn
    by_cases hq : D = s
    · subst hq
      rw [if_pos ⟨h0, rfl⟩] at hn
      have HN := Lib.hid hn
      clear hn hD
      have hdd : (D.toList == D.toList) = true := by simp
      go_enter Tryd.func20, Tryd.ntmps20
      go_wp2_with fail
      refine HA.out.mono ?_
      rintro e w1 ⟨rfl, hw⟩
      have X1 := bytes_or hw
      clear hw
      go_wp2_with fail
      refine (HI.out _ X1).mono ?_
      rintro e w2 ⟨rfl, X2⟩
      go_wp2_with fail
      go_ret2
      exact numPost_some HN (X1.trans X2)
    · rw [if_neg (fun hc => hq hc.2)] at hn
      have HN := Lib.hid hn
      have hdd : (D.toList == s.toList) = false := bytes_beq_ne hq
      clear hn hD hq
      go_enter Tryd.func20, Tryd.ntmps20
      go_wp2_with fail
      refine HA.out.mono ?_
      rintro e w1 ⟨rfl, hw⟩
      have X1 := bytes_or hw
      clear hw
      go_wp2_with fail
      refine (HI.out _ X1).mono ?_
      rintro e w2 ⟨rfl, X2⟩
      go_wp2_with fail
      go_ret2
      exact numPost_none HN (X1.trans X2)
  · rw [if_neg (fun hc => h0 hc.1)] at hn
    have HN := Lib.hid hn
    have h1 : v < 0 := by omega
    have hdz : decide ((0 : Int) ≤ v) = false := by simp; omega
    obtain ⟨q, hq⟩ : ∃ q, (D.toList == s.toList) = q := ⟨_, rfl⟩
    clear hn h0 hD
    cases q
    all_goals
      go_enter Tryd.func20, Tryd.ntmps20
      go_wp2_with fail
      refine HA.out.mono ?_
      rintro e w1 ⟨rfl, hw⟩
      have X1 := bytes_or hw
      clear hw
      go_wp2_with fail
      refine (HI.out _ X1).mono ?_
      rintro e w2 ⟨rfl, X2⟩
      go_wp2_with fail
      go_ret2
      exact numPost_none HN (X1.trans X2)

theorem decimal_any (s : ByteArray) (w : World) (hs : s.size ≤ 281474976710656) (HV : StrV w) : Calls Tryd.prog 20 #[.string s] w (NumPost s w) := by
  cases h : Lib.atoiAll s.data.toList with
  | ok v => exact decimal_ok s v w (by omega) HV h
  | range =>
    refine decimal_bad s w (by show _ = _; rw [numO, h]) ?_
    obtain ⟨tp, p, hv⟩ := HV.rng
    show Calls _ _ _ _ _
    refine (Tryd.strconv_ParseInt_10_at64_range_var s hs (by rw [Lib.parseIntB_64]; exact h) tp p w hv).mono ?_
    rintro e w' ⟨N, rfl, _, _, hb⟩
    exact ⟨_, _, N, rfl, hb⟩
  | _ =>
    refine decimal_bad s w (by show _ = _; rw [numO, h]) ?_
    obtain ⟨tp, p, hv⟩ := HV.syn
    show Calls _ _ _ _ _
    refine (Any.strconv_ParseInt_10_at64_syntax_var Tryd.laysC174 s hs (by rw [Lib.parseIntB_64]; exact h) tp p w hv).mono ?_
    rintro e w' ⟨N, rfl, _, _, hb⟩
    exact ⟨_, _, N, rfl, hb⟩
end Go.Proofs.YtecfphohmgbddaaDoor
