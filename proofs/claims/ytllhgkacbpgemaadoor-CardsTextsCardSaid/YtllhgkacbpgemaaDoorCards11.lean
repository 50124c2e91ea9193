/- walks of the package cards: Read, the walk -/
import Derived.Test.YtllhgkacbpgemaaDoorCards10
import Derived.Lib.Strings
namespace Go.Proofs.YtllhgkacbpgemaaDoor
open Go.RowKit
set_option linter.unusedVariables false

def ReadPost (s : ByteArray) (w : World) (e : Ending) (w' : World) : Prop :=
  ∃ u, e = .returned (.tuple #[u, .int .i64 (readErr s)]) ∧ ((readErr s ≠ 0 ∧ u = .slice none 0 0) ∨ (readErr s = 0 ∧ ∃ l, readO s = some l ∧ Ints w' u l)) ∧ Ext w w'

theorem readPost_err {s : ByteArray} {w w' : World} {q : Int} (h : readErr s = q) (hq : q ≠ 0) (hx : Ext w w') : ReadPost s w (.returned (.tuple #[.slice none 0 0, .int .i64 q])) w' := by
  subst h
  exact ⟨_, rfl, .inl ⟨hq, rfl⟩, hx⟩
theorem readPost_ok {s : ByteArray} {w w' : World} {u : Value} {l : List Int} (h : readErr s = 0) (hl : readO s = some l) (hu : Ints w' u l) (hx : Ext w w') : ReadPost s w (.returned (.tuple #[u, .int .i64 0])) w' :=
  ⟨u, by rw [h], .inr ⟨h, l, hl, hu⟩, hx⟩

theorem read_step_none {ws : List ByteArray} {k : Nat} {x : ByteArray} {acc : List Int} (h2 : Hid (ws.drop k = x :: ws.drop (k + 1))) (hI : Hid (readL ws = (readL (ws.drop k)).map (acc ++ ·))) (hx : readW x = none) : readL ws = none := by
  rw [hI.out, h2.out]; simp [readL, hx]
theorem read_step_some {ws : List ByteArray} {k : Nat} {x : ByteArray} {acc : List Int} {q : Int} (h2 : Hid (ws.drop k = x :: ws.drop (k + 1))) (hI : Hid (readL ws = (readL (ws.drop k)).map (acc ++ ·))) (hx : readW x = some q) : Hid (readL ws = (readL (ws.drop (k + 1))).map ((acc ++ [q]) ++ ·)) := by
  show _ = _
  rw [hI.out, h2.out]
  simp only [readL, hx, Option.map_map]
  congr 1
  funext l
  simp
theorem read_end {ws : List ByteArray} {k : Nat} {acc : List Int} (h2 : Hid (ws.drop k = [])) (hI : Hid (readL ws = (readL (ws.drop k)).map (acc ++ ·))) : readL ws = some acc := by
  rw [hI.out, h2.out]; simp [readL]

set_option maxHeartbeats 1600000 in
set_option maxRecDepth 100000 in
theorem read_any (s : ByteArray) (w : World) (hsh : w.ShapedOpen Tryd.prog) (hss : s.size ≤ 9223372036854775807) :
    Calls Tryd.prog 22 #[.string s] w (ReadPost s w) := by
  by_cases h1 : 8192 < s.size
  · have hE : readErr s = 2 := by rw [readErr, if_pos h1]
    have HE := Lib.hid hE
    clear hE hsh
    go_enter Tryd.func22, Tryd.ntmps22
    go_wp2_with fail
    go_ret2
    exact readPost_err HE.out (by decide) (Ext.refl _)
  · by_cases h0 : s.size = 0
    · have hs0 : s = ⟨#[]⟩ := by
        obtain ⟨⟨l⟩⟩ := s
        simp [ByteArray.size] at h0
        subst h0; rfl
      have HO : Hid (readO s = some []) := by show _ = _; rw [readO, if_pos h0]
      have HE : Hid (readErr s = 0) := by
        show _ = _
        rw [readErr, if_neg h1, HO.out]; rfl
      subst hs0
      have HC := Lib.hid (fun W => check_any (.slice none 0 0) [] W (Row.nil _))
      have hd : deckErr [] = 0 := by decide
      rw [hd] at HC
      clear hd hsh h1 h0
      go_enter Tryd.func22, Tryd.ntmps22
      go_wp2_with fail
      refine (HC.out _).mono ?_
      rintro e w1 ⟨rfl, rfl⟩
      go_wp2_with fail
      go_ret2
      exact readPost_ok HE.out HO.out (Row.nil _) (Ext.refl _)
    · have hs8 : s.size ≤ 8192 := by omega
      have hne : (!s.toList.isEmpty) = true := by
        have : s.toList.length ≠ 0 := by rw [Lib.toList_data, Array.length_toList]; exact h0
        cases hl : s.toList with
        | nil => rw [hl] at this; exact absurd rfl this
        | cons a l => rfl
      have HO : Hid (readO s = readL (splitT s)) := by show _ = _; rw [readO, if_neg h0]
      have HSP := Lib.hid (split_any s w hsh hs8)
      have hwl := splitT_le s
      have HEr : ∀ q, readErr s = q ↔ optErr (readO s) = q := fun q => by rw [readErr, if_neg h1]
      have HE := Lib.hid HEr
      clear h0 h1 HEr hsh
      generalize splitT s = ws at *
      go_enter Tryd.func22, Tryd.ntmps22
      go_wp2_with fail
      refine HSP.out.mono ?_
      rintro e w1 ⟨u, rfl, hu, hx1⟩
      obtain ⟨uo, uc, rfl, hul, huc⟩ := hu.open
      have HUC := Lib.hid huc
      clear huc hu
      go_wp2_with fail
      go_loopw [4, 18] (fun v i wr => ∃ (k : Nat) (acc : List Int), k ≤ ws.length ∧ i = .int .i64 k ∧ Ext w1 wr ∧ wr.ownsRow w1.heap.size 3 1 v k (acc.map (Value.int .i64)) ∧ Hid (readL ws = (readL (ws.drop k)).map (acc ++ ·))) (fun _ i _ => ws.length - (intOf i).toNat)
      case atStart => exact ⟨0, [], Nat.zero_le _, rfl, Ext.refl _, World.ownsRow_nil _ _ _ _, by simp [Hid]⟩
      case round =>
        obtain ⟨k, acc, hk, rfl, HX, HOW, HI⟩ := hrel
        have hsz := HX.size
        by_cases hlt : k < ws.length
        · obtain ⟨x, x1, x2, _⟩ := get_lt hlt
          obtain ⟨b, off, rfl, hcell0⟩ := HUC.out.at x1
          have hcell := HX.cell hcell0
          clear hcell0
          by_cases hz : x.size = 2
          · obtain ⟨b0, b1, rfl⟩ := two_bytes x hz
            have HR := Lib.hid (fun (W : World) => indexByte_any ⟨#[50, 51, 52, 53, 54, 55, 56, 57, 84, 74, 81, 75, 65]⟩ b0 _ rfl rkL rfl W)
            have HS := Lib.hid (fun (W : World) => indexByte_any ⟨#[67, 68, 72, 83]⟩ b1 _ rfl stL rfl W)
            obtain ⟨r1, r2⟩ := rk_bd b0
            obtain ⟨s1, s2⟩ := st_bd b1
            have hrw : readW ⟨#[b0, b1]⟩ = readB b0 b1 := rfl
            have hrb : readB b0 b1 = if Lib.indexByte rkL b0 < 0 ∨ Lib.indexByte stL b1 < 0 then none else some (13 * Lib.indexByte stL b1 + Lib.indexByte rkL b0) := rfl
            rw [hrb] at hrw
            have HRW := Lib.hid hrw
            clear hrw hrb hz
            generalize Lib.indexByte rkL b0 = r at *
            generalize Lib.indexByte stL b1 = q at *
            have hcs : r < 0 ∨ (0 ≤ r ∧ q < 0) ∨ (0 ≤ r ∧ 0 ≤ q) := by omega
            rcases hcs with hr0 | ⟨hr0, hq0⟩ | ⟨hr0, hq0⟩
            · have HN := Lib.hid (read_step_none x2 HI (by rw [HRW.out, if_pos (.inl hr0)]))
              go_wp2_with fail
              go_quiet (first | (go_at_call_of 42 (Value.string ⟨#[50, 51, 52, 53, 54, 55, 56, 57, 84, 74, 81, 75, 65]⟩); refine Calls.quiet_of_same (HR.out _)) | (go_at_call_of 42 (Value.string ⟨#[67, 68, 72, 83]⟩); refine Calls.quiet_of_same (HS.out _)))
              go_wp2_with fail
              go_ret2
              exact readPost_err ((HE.out 5).2 (by rw [HO.out, HN.out]; rfl)) (by decide) (hx1.trans (HX.drewN _))
            · have HN := Lib.hid (read_step_none x2 HI (by rw [HRW.out, if_pos (.inr hq0)]))
              go_wp2_with fail
              go_quiet (first | (go_at_call_of 42 (Value.string ⟨#[50, 51, 52, 53, 54, 55, 56, 57, 84, 74, 81, 75, 65]⟩); refine Calls.quiet_of_same (HR.out _)) | (go_at_call_of 42 (Value.string ⟨#[67, 68, 72, 83]⟩); refine Calls.quiet_of_same (HS.out _)))
              go_wp2_with fail
              go_ret2
              exact readPost_err ((HE.out 5).2 (by rw [HO.out, HN.out]; rfl)) (by decide) (hx1.trans (HX.drewN _))
            · have HN := read_step_some x2 HI (by rw [HRW.out, if_neg (by omega)])
              have HOU := Lib.hid (own_ext HOW ((Ext.refl wr)))
              clear HOW
              go_wp2_with fail
              go_quiet (first | (go_at_call_of 42 (Value.string ⟨#[50, 51, 52, 53, 54, 55, 56, 57, 84, 74, 81, 75, 65]⟩); refine Calls.quiet_of_same (HR.out _)) | (go_at_call_of 42 (Value.string ⟨#[67, 68, 72, 83]⟩); refine Calls.quiet_of_same (HS.out _)))
              go_wp2_with (at_builtin; refine wp_app1 rfl rfl ei_ints (own_ext HOU.out ((Ext.refl wr).drewN _)) rfl rfl (by simp) rfl (by omega) (by omega) (by simp; omega) ?_; intro v' w' hown hgrew)
              go_roundw
              case rel => exact ⟨k + 1, _, by omega, by go_num, hgrew.extNew (HX.drewN _) (own_ext HOU.out ((Ext.refl wr).drewN _)) (Nat.le_refl _), by rw [List.map_append]; exact hown, HN⟩
              case measure => simp [intOf]; omega
          · have HN := Lib.hid (read_step_none x2 HI (readW_not x hz))
            have hzb : (((x.size : Nat) : Int) != 2) = true := by simp; omega
            clear hz
            go_wp2_with fail
            go_ret2
            exact readPost_err ((HE.out 5).2 (by rw [HO.out, HN.out]; rfl)) (by decide) (hx1.trans HX)
        · obtain ⟨h1, _⟩ := get_ge hlt
          have hkl : k = ws.length := by omega
          subst hkl
          have hend := read_end h1 HI
          have HS := own_rowOf (xs := acc) HOW (by omega)
          have HC := Lib.hid (check_any _ acc wr HS)
          have HSS := Lib.hid HS
          have HEn := Lib.hid hend
          by_cases hd : deckErr acc = 0
          · have HEE : Hid (readErr s = 0) := (HE.out 0).2 (by rw [HO.out, HEn.out]; exact hd)
            have HC2 := HC.out
            rw [hd] at HC2
            have HC := Lib.hid HC2
            clear hd HC2 hend HOW
            go_wp2_with fail
            refine HC.out.mono ?_
            rintro e w' ⟨rfl, rfl⟩
            go_wp2_with fail
            go_ret2
            exact readPost_ok HEE.out (by rw [HO.out, HEn.out]) HSS.out (hx1.trans HX)
          · obtain ⟨de, hde⟩ : ∃ de, deckErr acc = de := ⟨_, rfl⟩
            have HEE : Hid (readErr s = de) := (HE.out de).2 (by rw [HO.out, HEn.out]; exact hde)
            rw [hde] at HC hd
            have hdb : (de != 0) = true := by simp [hd]
            have HD := Lib.hid hd
            clear hd hde hend HOW
            go_wp2_with fail
            refine HC.out.mono ?_
            rintro e w' ⟨rfl, rfl⟩
            go_wp2_with fail
            go_ret2
            exact readPost_err HEE.out HD.out (hx1.trans HX)
end Go.Proofs.YtllhgkacbpgemaaDoor
