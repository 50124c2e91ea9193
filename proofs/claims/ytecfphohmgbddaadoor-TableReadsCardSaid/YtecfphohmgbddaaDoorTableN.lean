/- walks: strings.Cut at one byte, table.number, slices.Repeat at one element -/
import Derived.Test.YtecfphohmgbddaaDoorTableU
import Derived.Test.YtecfphohmgbddaaDoorShelfA
import Derived.Test.YtecfphohmgbddaaDoorMk
import Derived.Laws.CopyOwn
import Derived.Lib.SmallJoins
namespace Go.Proofs.YtecfphohmgbddaaDoor
open Go.RowKit
set_option linter.unusedVariables false

set_option maxHeartbeats 800000 in
set_option maxRecDepth 100000 in
theorem cutLite_any (s : ByteArray) (c : UInt8) (w : World) (hs : s.size ≤ 9223372036854775806) :
    Calls Tryd.prog 30 #[.string s, .string ⟨#[c]⟩] w fun e w' => e = .returned (.tuple #[.string (cutA s c), .string (cutR s c), .bool (cutK s c)]) ∧ Ext w w' := by
  have HI := Tryd.stringslite_Index_one s c w
  rw [show Lib.indexByte s.data.toList c = ixB s c from rfl] at HI
  rcases ixB_cases s c with h | ⟨i, h, hlt⟩
  · rw [h] at HI
    rw [cutA_miss h, cutR_miss h, cutK_miss h]
    have HI := Lib.hid HI
    clear h
    go_enter Tryd.func30, Tryd.ntmps30
    go_wp2_with fail
    refine HI.out.mono ?_
    rintro e w1 ⟨rfl, rfl⟩
    go_wp2_with fail
    refine bodyPost_ret (v := .tuple #[.string s, .string ⟨#[]⟩, .bool false]) (by simp [results, Tryd.results30, go_sem]) rfl ?_
    exact ⟨rfl, Ext.refl w1⟩
  · rw [h] at HI
    rw [cutA_hit h, cutR_hit h, cutK_hit h]
    have HI := Lib.hid HI
    have hi1 : (i : Int) + 1 ≤ (s.size : Int) := by omega
    have hi2 : (i : Int) ≤ (s.size : Int) := by omega
    have hsz : (s.size : Int) ≤ 9223372036854775806 := by omega
    have e5 : ((i : Int) + 1).toNat = i + 1 := by omega
    clear h
    go_enter Tryd.func30, Tryd.ntmps30
    go_wp2_with fail
    refine HI.out.mono ?_
    rintro e w1 ⟨rfl, rfl⟩
    go_wp2_with fail
    go_quiet (fail)
    go_wp2_with fail
    refine bodyPost_ret (v := .tuple #[.string (s.extract 0 i), .string (s.extract (i + 1) s.size), .bool true]) (by simp [results, Tryd.results30, go_sem]) rfl ?_
    exact ⟨rfl, (Ext.refl w1).drewN _⟩

set_option maxHeartbeats 800000 in
set_option maxRecDepth 100000 in
theorem cut1_any (s : ByteArray) (c : UInt8) (w : World) (hs : s.size ≤ 9223372036854775806) :
    Calls Tryd.prog 15 #[.string s, .string ⟨#[c]⟩] w fun e w' => e = .returned (.tuple #[.string (cutA s c), .string (cutR s c), .bool (cutK s c)]) ∧ Ext w w' := by
  have HI := Lib.hid (cutLite_any s c w hs)
  generalize cutA s c = A at *
  generalize cutR s c = R at *
  generalize cutK s c = K at *
  go_enter Tryd.func15, Tryd.ntmps15
  go_wp2_with fail
  refine HI.out.mono ?_
  rintro e w1 ⟨rfl, hx⟩
  go_wp2_with fail
  refine bodyPost_ret (v := .tuple #[.string A, .string R, .bool K]) (by simp [results, Tryd.results15, go_sem]) rfl ?_
  exact ⟨rfl, hx⟩

/-- the variables that strconv reads: the table of powers and the two errors -/
structure StrV (w : World) : Prop where
  tab : TabPow w
  syn : ∃ tp p, w.var? Tryd.prog "strconv.ErrSyntax" = some #[.iface tp p]
  rng : ∃ tp p, w.var? Tryd.prog "strconv.ErrRange" = some #[.iface tp p]

theorem var_ext {P : Program} {w w' : World} {n : String} {cs : Array Value} (h : w.var? P n = some cs) (he : Ext w w') : w'.var? P n = some cs := by
  cases hg : P.globalNamed n with
  | none => simp [World.var?, hg] at h
  | some g => exact Joins.var_stays hg h he (Nat.le_refl _)

theorem StrV.ext {w w' : World} (h : StrV w) (he : Ext w w') : StrV w' :=
  ⟨tabPow_ext h.tab he, by obtain ⟨tp, p, hv⟩ := h.syn; exact ⟨tp, p, var_ext hv he⟩, by obtain ⟨tp, p, hv⟩ := h.rng; exact ⟨tp, p, var_ext hv he⟩⟩

theorem bytes_or {w w' : World} {e : TypeId} (h : w' = w ∨ ∃ t, w' = Lib.bytesWorld w e t) : Ext w w' := by
  rcases h with rfl | ⟨t, rfl⟩
  · exact Ext.refl _
  · exact Lib.bytesWorld_below _ _ _

theorem bytes_beq_ne {a b : ByteArray} (h : a ≠ b) : (a.toList == b.toList) = false := by
  rw [beq_eq_false_iff_ne]
  intro e
  rw [Lib.toList_data, Lib.toList_data] at e
  obtain ⟨⟨x⟩⟩ := a
  obtain ⟨⟨y⟩⟩ := b
  exact h (by rw [show x = y from e])

def NumPost (s : ByteArray) (w : World) (e : Ending) (w' : World) : Prop :=
  ∃ m : Int, e = .returned (.tuple #[.int .i64 m, .bool (numO s).isSome]) ∧ (∀ n, numO s = some n → m = (n : Int)) ∧ Ext w w'

theorem numPost_some {s : ByteArray} {w w' : World} {n : Nat} (h : Hid (numO s = some n)) (hx : Ext w w') : NumPost s w (.returned (.tuple #[.int .i64 n, .bool true])) w' :=
  ⟨n, by rw [h.out]; rfl, fun m hm => (by rw [h.out] at hm; obtain rfl := Option.some.inj hm; rfl), hx⟩
theorem numPost_none {s : ByteArray} {w w' : World} {v : Int} (h : Hid (numO s = none)) (hx : Ext w w') : NumPost s w (.returned (.tuple #[.int .i64 v, .bool false])) w' :=
  ⟨v, by rw [h.out]; rfl, fun m hm => (by rw [h.out] at hm; cases hm), hx⟩

set_option maxHeartbeats 800000 in
set_option maxRecDepth 100000 in
theorem number_ok (s : ByteArray) (v : Int) (w : World) (hs : s.size ≤ 9223372036854775806) (HV : StrV w) (h : Lib.atoiAll s.data.toList = .ok v) : Calls Tryd.prog 16 #[.string s] w (NumPost s w) := by
  have hb := Lib.atoiAll_bounds h
  have HA := Lib.hid (Tryd.strconv_Atoi_ok s hs v h w)
  have hn : numO s = if 0 ≤ v ∧ decT v.toNat = s then some v.toNat else none := by rw [numO, h]
  have HTB := Lib.hid HV.tab
  clear h HV
  by_cases h0 : 0 ≤ v
  · obtain ⟨n, rfl⟩ := Int.eq_ofNat_of_zero_le h0
    rw [Int.toNat_natCast] at hn
    obtain ⟨D, hD⟩ : ∃ D, decT n = D := ⟨_, rfl⟩
    rw [hD] at hn
    have HI := Lib.hid (fun W (hx : Ext w W) => itoa_any n (by omega) W (tabPow_ext HTB.out hx))
    rw [hD] at HI
    by_cases hq : D = s
    · subst hq
      rw [if_pos ⟨h0, rfl⟩] at hn
      have HN := Lib.hid hn
      clear hn hD
      have hdd : (D.toList == D.toList) = true := by simp
      go_enter Tryd.func16, Tryd.ntmps16
      go_wp2_with fail
      refine HA.out.mono ?_
      rintro e w1 ⟨rfl, hw⟩
      have X1 := bytes_or hw
      clear hw
      go_wp2_with fail
      refine (HI.out _ X1).mono ?_
      rintro e w2 ⟨rfl, X2⟩
      go_wp2_with fail
      go_ret2
      exact numPost_some HN (X1.trans X2)
    · rw [if_neg (fun hc => hq hc.2)] at hn
      have HN := Lib.hid hn
      have hdd : (D.toList == s.toList) = false := bytes_beq_ne hq
      clear hn hD hq
      go_enter Tryd.func16, Tryd.ntmps16
      go_wp2_with fail
      refine HA.out.mono ?_
      rintro e w1 ⟨rfl, hw⟩
      have X1 := bytes_or hw
      clear hw
      go_wp2_with fail
      refine (HI.out _ X1).mono ?_
      rintro e w2 ⟨rfl, X2⟩
      go_wp2_with fail
      go_ret2
      exact numPost_none HN (X1.trans X2)
  · rw [if_neg (fun hc => h0 hc.1)] at hn
    have HN := Lib.hid hn
    have h1 : v < 0 := by omega
    clear hn h0
    go_enter Tryd.func16, Tryd.ntmps16
    go_wp2_with fail
    refine HA.out.mono ?_
    rintro e w1 ⟨rfl, hw⟩
    have X1 := bytes_or hw
    clear hw
    go_wp2_with fail
    go_ret2
    exact numPost_none HN X1

/-- strconv.Atoi ends with an error -/
def AtoiErr (s : ByteArray) (w : World) : Prop :=
  Calls Tryd.prog 31 #[.string s] w fun e w' => ∃ (v : Int) (T : TypeId) (N : Nat), e = .returned (.tuple #[.int .i64 v, .iface T (.pointer (some ⟨N, 0, none⟩))]) ∧ Ext w w'

set_option maxHeartbeats 800000 in
set_option maxRecDepth 100000 in
theorem number_bad (s : ByteArray) (w : World) (HN : Hid (numO s = none)) (HA : Hid (AtoiErr s w)) : Calls Tryd.prog 16 #[.string s] w (NumPost s w) := by
  have HA : Hid (Calls Tryd.prog 31 #[.string s] w fun e w' => ∃ (v : Int) (T : TypeId) (N : Nat), e = .returned (.tuple #[.int .i64 v, .iface T (.pointer (some ⟨N, 0, none⟩))]) ∧ Ext w w') := HA
  go_enter Tryd.func16, Tryd.ntmps16
  go_wp2_with fail
  refine HA.out.mono ?_
  rintro e w1 ⟨v, T, N, rfl, X1⟩
  go_wp2_with fail
  go_ret2
  exact numPost_none HN X1

theorem number_any (s : ByteArray) (w : World) (hs : s.size ≤ 281474976710656) (HV : StrV w) : Calls Tryd.prog 16 #[.string s] w (NumPost s w) := by
  cases h : Lib.atoiAll s.data.toList with
  | ok v => exact number_ok s v w (by omega) HV h
  | range =>
    refine number_bad s w (by show _ = _; rw [numO, h]) ?_
    obtain ⟨tp, p, hv⟩ := HV.rng
    show Calls _ _ _ _ _
    refine (Tryd.strconv_Atoi_range_var s hs h tp p w hv).mono ?_
    rintro e w' ⟨N, rfl, _, _, hb⟩
    exact ⟨_, _, N, rfl, hb⟩
  | _ =>
    refine number_bad s w (by show _ = _; rw [numO, h]) ?_
    obtain ⟨tp, p, hv⟩ := HV.syn
    show Calls _ _ _ _ _
    refine (Any.strconv_Atoi_syntax_var Tryd.laysC172 s hs h tp p w hv).mono ?_
    rintro e w' ⟨N, rfl, _, _, hb⟩
    exact ⟨_, _, N, rfl, hb⟩

end Go.Proofs.YtecfphohmgbddaaDoor
