/- the walk of CardsTexts -/
import Derived.Test.YtllhgkacbpgemaaDoorCardsU
import Derived.Deep.DeepCutAuto
namespace Go.Proofs.YtllhgkacbpgemaaDoor
open Go.RowKit
set_option linter.unusedVariables false

theorem atTo_hit {x : ByteArray} {j : Nat} (hq : Hid (cardT j = x)) : Hid (atTo x (j + 1) = (j : Int)) := by
  show _ = _
  rw [atTo, if_pos hq.out]
theorem atTo_miss {q x : ByteArray} {j : Nat} {a : Int} (hq : Hid (cardT j = q)) (hn : ¬ q = x) (ha : Hid (atTo x j = a)) : Hid (atTo x (j + 1) = a) := by
  show _ = _
  rw [atTo, if_neg (by rw [hq.out]; exact hn), ha.out]
theorem bytes_ne {q x : ByteArray} (h : ¬ q = x) : (q.toList == x.toList) = false := by
  rw [Lib.toList_data, Lib.toList_data, beq_eq_false_iff_ne]
  intro e
  apply h
  obtain ⟨⟨a⟩⟩ := q
  obtain ⟨⟨b⟩⟩ := x
  exact congrArg (fun l => ByteArray.mk (Array.mk l)) e

def TextPost (xs : List Int) (w : World) (e : Ending) (w' : World) : Prop :=
  ∃ t te, e = .returned (.tuple #[.string t, .int .i64 te]) ∧ Ext w w' ∧ te = deckErr xs ∧ ((deckErr xs ≠ 0 ∧ t = ⟨#[]⟩) ∨ (deckErr xs = 0 ∧ t = joinT (cardTs xs) spaceT))

theorem text_any (v : Value) (xs : List Int) (w : World) (hv : Ints w v xs) : Calls Tryd.prog 21 #[v] w (TextPost xs w) := by
  by_cases h : deckErr xs = 0
  · exact (text_ok v xs w hv h).mono fun e w' hh => ⟨_, 0, hh.1, hh.2, h.symm, .inr ⟨h, rfl⟩⟩
  · exact (text_err v xs w hv h).mono fun e w' hh => ⟨_, _, hh.1, hh.2 ▸ Ext.refl w, rfl, .inl ⟨h, rfl⟩⟩

set_option maxHeartbeats 8000000 in
set_option maxRecDepth 100000 in
theorem texts_walk (v : Value) (xs : List Int) (s : ByteArray) (w : World) (hsh : w.ShapedOpen Tryd.prog) (hv : Ints w v xs) (hl : xs.length + 512 ≤ 17592186044416) (hss : s.size ≤ 9223372036854775807) :
    Calls Tryd.prog 5 #[v, .string s] w fun e w' => e = .returned (.bool true) ∧ Ext w w' := by
  have HF := Lib.hid (cardsFact_any w hsh)
  have HT := Lib.hid (fun (W : World) (hW : Ext w W) => text_any v xs W (hv.ext hW))
  have HR := Lib.hid (fun (W : World) (hW : Ext w W) => read_any s W (hW.shaped hsh) hss)
  have HE := Lib.hid (fun (W : World) (hW : Ext w W) => deckError_any v xs W (hv.ext hW))
  have HSH := Lib.hid hsh
  obtain ⟨ao, c, rfl, hlen, hc⟩ := hv.open
  have HCC := Lib.hid hc
  obtain ⟨de, hde⟩ : ∃ de, Hid (deckErr xs = de) := ⟨_, rfl⟩
  obtain ⟨re, hre⟩ : ∃ re, Hid (readErr s = re) := ⟨_, rfl⟩
  rw [hde.out] at HE
  clear hv hsh hc
  go_enter Tryd.func5, Tryd.ntmps5
  go_wp2_with fail
  refine HF.out.mono ?_
  rintro e w0 ⟨rfl, X0⟩
  go_wp2_with fail
  refine (HT.out _ (by exact X0)).mono ?_
  rintro e w1 hP1
  obtain ⟨t, te, rfl, hx1, hte, htx⟩ := hP1
  rw [hde.out] at hte
  obtain rfl := hte.symm
  have HTX := Lib.hid htx
  have X1 := X0.trans hx1
  clear htx hx1
  go_wp2_with fail
  refine (HR.out _ (by exact X1)).mono ?_
  rintro e w2 hP2
  obtain ⟨u, hu, hru, hx2⟩ := hP2
  rw [hre.out] at hu hru
  subst hu
  have HRU := Lib.hid hru
  have X2 := X1.trans hx2
  have hsl : ∃ uo ul uc, u = .slice uo ul uc := by
    rcases hru with ⟨_, rfl⟩ | ⟨_, l, _, hI⟩
    · exact ⟨_, _, _, rfl⟩
    · obtain ⟨o, cc, rfl, _⟩ := hI.open
      exact ⟨_, _, _, rfl⟩
  obtain ⟨uo, ul, uc, rfl⟩ := hsl
  clear hru hx2
  go_wp2_with fail
  refine (HE.out _ (by exact X2)).mono ?_
  rintro e w' ⟨rfl, rfl⟩
  go_upto_region 6 with fail
  go_cut [34] from 33 to 34 (fun s34 wx => ∃ b, s34 = .bool b ∧ Hid (b = (de != 0)) ∧ w2 = wx)
  case first =>
    go_wp2_with fail
    go_meet
    exact ⟨_, rfl, rfl, rfl⟩
  case rest =>
  obtain ⟨b, rfl, hb, rfl⟩ := hcut
  go_upto_if 34 with fail
  go_cut [] from 35 to 61 (fun wx => Ext w2 wx)
  case first =>
    by_cases hd0 : de = 0
    · subst hd0
      have hbf : b = false := by rw [hb.out]; rfl
      subst hbf
      have hJ : t = joinT (cardTs xs) spaceT := by
        rcases HTX.out with ⟨h, _⟩ | ⟨_, h⟩
        · exact absurd hde.out h
        · exact h
      obtain ⟨h52, hrg, _⟩ := deckErr_zero hde.out
      have HJ := Lib.hid (fun (W : World) (u : Value) (hW : Strs W u (cardTs xs)) => join_any u (cardTs xs) spaceT W hW (joinT_small _ _ (cardTs_two hrg) (by simp [cardTs]; omega) rfl))
      rw [← hJ] at HJ
      have HRG := Lib.hid hrg
      have htt : (t.toList != t.toList) = false := by simp
      clear hrg hJ
      go_wp2_with fail
      go_loopw [10, 44] (fun v i wr => ∃ (k : Nat), k ≤ xs.length ∧ i = .int .i64 k ∧ Ext w2 wr ∧ wr.ownsRow w2.heap.size 9 1 v k ((cardTs (xs.take k)).map Value.string)) (fun _ i _ => xs.length - (intOf i).toNat)
      case atStart => exact ⟨0, Nat.zero_le _, rfl, Ext.refl _, World.ownsRow_nil _ _ _ _⟩
      case round =>
        obtain ⟨k, hk, rfl, HX, HO⟩ := hrel
        have hsz := HX.size
        by_cases hlt : k < xs.length
        · obtain ⟨x, x1, _, x3⟩ := get_lt hlt
          obtain ⟨b, off, rfl, hcell0⟩ := HCC.out.at x1
          have hcell := (X2.trans HX).cell hcell0
          clear hcell0
          obtain ⟨hx0, hx51⟩ := HRG.out x (List.mem_of_getElem? x1.out)
          obtain ⟨cc, rfl⟩ := Int.eq_ofNat_of_zero_le hx0
          obtain ⟨q, hq⟩ : ∃ q, Hid (cardT cc = q) := ⟨_, rfl⟩
          have htk : Hid ((cardTs (xs.take (k + 1))).map Value.string = (cardTs (xs.take k)).map Value.string ++ [.string q]) := by
            rw [x3.out]; simp [Hid, cardTs, hq.out]
          have HOU := Lib.hid HO
          clear HO
          go_wp2_with fail
          refine (cardText_any cc _ (by omega) q hq).mono ?_
          rintro e w3 ⟨rfl, hx3⟩
          have HOU2 := Lib.hid (own_ext HOU.out hx3)
          have HX3 := HX.trans hx3
          have hsz3 := HX3.size
          go_wp2_with (at_builtin; refine wp_app1 rfl rfl ei_strs HOU2.out rfl rfl rfl rfl (by omega) (by omega) (by omega) ?_; intro v' w' hown hgrew)
          go_roundw
          case rel => exact ⟨k + 1, by omega, by go_num, hgrew.extNew HX3 HOU2.out (Nat.le_refl _), by rw [htk.out]; exact hown⟩
          case measure => simp [intOf]; omega
        · obtain ⟨_, h1⟩ := get_ge hlt
          have hkl : k = xs.length := by omega
          subst hkl
          have HS := Lib.hid (own_rowOf (xs := cardTs xs) (by rw [h1.out] at HO; exact HO) (by omega))
          clear HO
          go_wp2_with fail
          refine (HJ.out _ _ HS.out).mono ?_
          rintro e w4 ⟨rfl, hx4⟩
          go_wp2_with fail
          go_meet
          exact HX.trans hx4
    · have ht0 : t = ⟨#[]⟩ := by
        rcases HTX.out with ⟨_, h⟩ | ⟨h, _⟩
        · exact h
        · exact absurd (hde.out.symm.trans h) hd0
      subst ht0
      have hbf : b = true := by rw [hb.out]; simp [hd0]
      subst hbf
      have hdd : (de != de) = false := by simp
      clear hd0
      go_wp2_with fail
      go_meet
      exact Ext.refl _
  case rest =>
    have X3 := X2.trans hcut
    have HE := Lib.hid (fun (W : World) (v : Value) (l : List Int) (hW : Ints W v l) => deckError_any v l W hW)
    by_cases h1 : 8192 < s.size
    · have hE : re = 2 := by rw [← hre.out, readErr, if_pos h1]
      subst hE
      have hu : Value.slice uo ul uc = .slice none 0 0 := by
        rcases HRU.out with ⟨_, h⟩ | ⟨h, _⟩
        · exact h
        · exact absurd h (by decide)
      injection hu with hu1 hu2 hu3
      subst hu1; subst hu2; subst hu3
      go_wp2_with fail
      go_ret
      exact ⟨rfl, X3⟩
    · by_cases h0 : s.size = 0
      · have hs0 : s = ⟨#[]⟩ := by
          obtain ⟨⟨l⟩⟩ := s
          simp [ByteArray.size] at h0
          subst h0; rfl
        subst hs0
        have hE : re = 0 := by
          rw [← hre.out, readErr, if_neg h1, readO, if_pos h0]
          decide
        subst hE
        have HU : Hid (Ints w2 (.slice uo ul uc) []) := by
          rcases HRU.out with ⟨h, _⟩ | ⟨_, l, hl, h⟩
          · exact absurd rfl h
          · rw [readO, if_pos h0] at hl
            cases hl; exact h
        clear h1 h0
        go_wp2_with fail
        refine (equal_ints _ _ [] [] _ (HU.out.ext hcut) (Row.nil _) true (by simp [Hid])).mono ?_
        rintro e w5 ⟨rfl, hx5⟩
        go_wp2_with fail
        go_ret
        exact ⟨rfl, X3.trans hx5⟩
      · have hs8 : s.size ≤ 8192 := by omega
        have hne : (!s.toList.isEmpty) = true := by
          have : s.toList.length ≠ 0 := by rw [Lib.toList_data, Array.length_toList]; exact h0
          cases hl : s.toList with
          | nil => rw [hl] at this; exact absurd rfl this
          | cons a l => rfl
        have HSP := Lib.hid (split_any s _ (X3.shaped HSH.out) hs8)
        have hwl := splitT_le s
        have HEr : ∀ q, re = q ↔ optErr (readL (splitT s)) = q := fun q => by rw [← hre.out, readErr, if_neg h1, readO, if_neg h0]
        have HER := Lib.hid HEr
        have HRO : Hid (readO s = readL (splitT s)) := by show _ = _; rw [readO, if_neg h0]
        clear h0 h1 HEr
        generalize splitT s = ws at *
        go_wp2_with fail
        refine HSP.out.mono ?_
        rintro e w4 ⟨u, rfl, hu, hx4⟩
        obtain ⟨so, sc, rfl, hul, huc⟩ := hu.open
        have HUC := Lib.hid huc
        clear huc hu
        have X4 := X3.trans hx4
        go_wp2_with fail
        go_loopw [13, 14, 72] (fun m v i wr => ∃ (k : Nat) (z : Int), k ≤ ws.length ∧ i = .int .i64 k ∧ m = .int .i64 z ∧ Hid (WantTo (ws.take k) z) ∧ Ext w4 wr ∧ wr.ownsRow w4.heap.size 3 1 v k (((ws.take k).map atF).map (Value.int .i64))) (fun _ _ i _ => ws.length - (intOf i).toNat)
        case atStart => exact ⟨0, 0, Nat.zero_le _, rfl, rfl, WantTo.nil, Ext.refl _, World.ownsRow_nil _ _ _ _⟩
        case round =>
          obtain ⟨k, z, hk, rfl, rfl, HZ, HX, HO⟩ := hrel
          have hsz := HX.size
          have HOU := Lib.hid HO
          clear HO
          by_cases hlt : k < ws.length
          · obtain ⟨x, x1, _, x3⟩ := get_lt hlt
            obtain ⟨b, off, rfl, hcell0⟩ := HUC.out.at x1
            have hcell := HX.cell hcell0
            clear hcell0
            obtain ⟨wo, rfl⟩ : ∃ wo : World, wo = wr := ⟨_, rfl⟩
            go_wp2_with fail
            go_loopw [17, 76] (fun a i wr => ∃ (j : Nat) (a' : Int), j ≤ 52 ∧ i = .int .i64 j ∧ a = .int .i64 a' ∧ Hid (atTo x j = a') ∧ Ext wo wr) (fun _ i _ => 52 - (intOf i).toNat)
            case atStart => exact ⟨0, -1, Nat.zero_le _, rfl, rfl, rfl, Ext.refl _⟩
            case round =>
              obtain ⟨j, a', hj, rfl, rfl, HA, HY⟩ := hrel
              by_cases hjt : j < 52
              · obtain ⟨q, hq⟩ : ∃ q, Hid (cardT j = q) := ⟨_, rfl⟩
                go_wp2_with fail
                refine (cardText_any j _ (by omega) q hq).mono ?_
                rintro e w5 ⟨rfl, hx5⟩
                by_cases hqx : q = x
                · subst hqx
                  have hA2 := atTo_hit hq
                  have hqb : (q.toList == q.toList) = true := by simp
                  go_wp2_with fail
                  go_roundw
                  case rel => exact ⟨j + 1, j, by omega, by go_num, rfl, hA2, HY.trans hx5⟩
                  case measure => simp [intOf]; omega
                · have hA2 := atTo_miss hq hqx HA
                  have hqb := bytes_ne hqx
                  clear hqx
                  go_wp2_with fail
                  go_roundw
                  case rel => exact ⟨j + 1, a', by omega, by go_num, rfl, hA2, HY.trans hx5⟩
                  case measure => simp [intOf]; omega
              · have hj52 : j = 52 := by omega
                subst hj52
                obtain ⟨hb1, hb2⟩ := atTo_bd x 52
                rw [HA.out] at hb1 hb2
                have HXY := HX.trans HY
                have hszY := HXY.size
                have HOU2 := Lib.hid (own_ext HOU.out HY)
                have htk : Hid (((ws.take (k + 1)).map atF).map (Value.int .i64) = ((ws.take k).map atF).map (Value.int .i64) ++ [.int .i64 a']) := by
                  rw [x3.out, ← HA.out]; simp [Hid, atF]
                by_cases ha : a' < 0
                · have HW := Lib.hid (HZ.out.bad (w := x) (by rw [← HA.out] at ha; exact ha))
                  go_wp2_with (at_builtin; refine wp_app1 rfl rfl ei_ints HOU2.out rfl rfl rfl rfl (by omega) (by omega) (by omega) ?_; intro v' w' hown hgrew)
                  go_roundw
                  case rel => exact ⟨k + 1, 5, by omega, by go_num, rfl, by rw [x3.out]; exact HW, hgrew.extNew HXY HOU2.out (Nat.le_refl _), by rw [htk.out]; exact hown⟩
                  case measure => simp [intOf]; omega
                · have HW := Lib.hid (HZ.out.good (w := x) (by rw [← HA.out] at ha; exact Int.not_lt.1 ha))
                  go_wp2_with (at_builtin; refine wp_app1 rfl rfl ei_ints HOU2.out rfl rfl rfl rfl (by omega) (by omega) (by omega) ?_; intro v' w' hown hgrew)
                  go_roundw
                  case rel => exact ⟨k + 1, z, by omega, by go_num, rfl, by rw [x3.out]; exact HW, hgrew.extNew HXY HOU2.out (Nat.le_refl _), by rw [htk.out]; exact hown⟩
                  case measure => simp [intOf]; omega
          · obtain ⟨_, h1⟩ := get_ge hlt
            have hkl : k = ws.length := by omega
            subst hkl
            rw [h1.out] at HZ HOU
            have X5 := X4.trans HX
            have HS := Lib.hid (own_rowOf (xs := ws.map atF) HOU.out (by omega))
            rcases HZ.out.fin with ⟨hz, hrl⟩ | ⟨hz, hrl⟩
            · subst hz
              have hre2 := (HER.out (deckErr (ws.map atF))).2 (by rw [hrl]; rfl)
              obtain ⟨d2, hd2⟩ : ∃ d2, Hid (deckErr (ws.map atF) = d2) := ⟨_, rfl⟩
              rw [hd2.out] at hre2
              subst hre2
              have HE2 := (HE.out wr u14 (ws.map atF) HS.out)
              rw [hd2.out] at HE2
              have HE2 := Lib.hid HE2
              have HRL := Lib.hid hrl
              clear hrl
              by_cases hd0 : re = 0
              · subst hd0
                have HU : Hid (Ints w2 (.slice uo ul uc) (ws.map atF)) := by
                  rcases HRU.out with ⟨h, _⟩ | ⟨_, l, hl, h⟩
                  · exact absurd rfl h
                  · rw [HRO.out, HRL.out] at hl
                    cases hl; exact h
                go_wp2_with fail
                refine HE2.out.mono ?_
                rintro e w' ⟨rfl, rfl⟩
                go_wp2_with fail
                refine (equal_ints _ _ (ws.map atF) (ws.map atF) _ (HU.out.ext (hcut.trans (hx4.trans HX))) HS.out true (by simp [Hid])).mono ?_
                rintro e w5 ⟨rfl, hx5⟩
                go_wp2_with fail
                go_ret
                exact ⟨rfl, X5.trans hx5⟩
              · have hu : Value.slice uo ul uc = .slice none 0 0 := by
                  rcases HRU.out with ⟨_, h⟩ | ⟨h, _⟩
                  · exact h
                  · exact absurd h hd0
                injection hu with hu1 hu2 hu3
                subst hu1; subst hu2; subst hu3
                have hdb : (re != 0) = true := by simp [hd0]
                have hdd : (re == re) = true := by simp
                clear hd0
                go_wp2_with fail
                refine HE2.out.mono ?_
                rintro e w' ⟨rfl, rfl⟩
                go_wp2_with fail
                go_ret
                exact ⟨rfl, X5⟩
            · subst hz
              have hre2 := (HER.out 5).2 (by rw [hrl]; rfl)
              subst hre2
              have hu : Value.slice uo ul uc = .slice none 0 0 := by
                rcases HRU.out with ⟨_, h⟩ | ⟨h, _⟩
                · exact h
                · exact absurd h (by decide)
              injection hu with hu1 hu2 hu3
              subst hu1; subst hu2; subst hu3
              clear hrl
              go_wp2_with fail
              go_ret
              exact ⟨rfl, X5⟩
end Go.Proofs.YtllhgkacbpgemaaDoor
