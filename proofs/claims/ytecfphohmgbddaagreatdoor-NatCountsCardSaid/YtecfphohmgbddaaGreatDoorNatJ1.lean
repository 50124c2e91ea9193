/- walks: the law NatCounts, NatJ1 -/
import Derived.Test.YtecfphohmgbddaaGreatDoorNatJ0
namespace Go.Proofs.YtecfphohmgbddaaGreatDoor
open Go.RowKit
set_option linter.unusedVariables false

set_option maxHeartbeats 3200000 in
set_option maxRecDepth 100000 in
theorem natCounts_small0a (n : Nat) (k : Int) (w : World) (htab : TabPow w) (hn : n ≤ 25) (hk : k < 0) :
    Calls Tryz.prog 6 #[.int .i64 n, .int .i64 k] w fun e w' => e = .returned (.bool true) ∧ Ext w w' := by
  have HF := Lib.hid (natFact_any w htab)
  have HBIN := Lib.hid (fun W (_ : Ext w W) => binomial_bad (n : Int) k W (by omega))
  have HFAC := Lib.hid (fun W (hx : Ext w W) => factorial_ok n W (tabPow_ext htab hx) (by omega))
  rw [prodF_small hn] at HFAC
  have hn0 : (0 : Int) ≤ (n : Int) := by omega
  have hni : (n : Int) ≤ 25 := by omega
  have HN25 := Lib.hid hn
  obtain ⟨XT, hX⟩ : ∃ T, decT (prodF 1 n) = T := ⟨_, rfl⟩
  rw [hX] at HFAC
  clear htab
  go_enter Tryz.func6, Tryz.ntmps6
  go_wp2_with fail
  refine HF.out.mono ?_
  rintro e w1 ⟨rfl, X1⟩
  go_wp2_with fail
  refine (HFAC.out _ X1).mono ?_
  rintro e w2 ⟨rfl, X2⟩
  have E2 := X1.trans X2
  go_wp2_with fail
  refine (HBIN.out _ E2).mono ?_
  rintro e w3 ⟨rfl, X3⟩
  have E3 := E2.trans X3
  clear X1 X2 E2 X3
  go_wp2_with fail
  have E3b := Lib.hid E3
  obtain ⟨wo, rfl⟩ : ∃ wo : World, wo = w3 := ⟨_, rfl⟩
  go_loopw [73, 9] (fun iv xv wr => ∃ (i : Nat), i ≤ n ∧ iv = .int .i64 i ∧ xv = .string (decT (prodF 1 i)) ∧ Ext wo wr) (fun iv _ _ => n - (intOf iv).toNat)
  case atStart => exact ⟨0, Nat.zero_le _, rfl, by rw [show prodF 1 0 = 1 from rfl, decT_one], Ext.refl _⟩
  case round =>
    obtain ⟨i, hi, rfl, rfl, X⟩ := hrel
    by_cases hlt : i < n
    · have hii : (i : Int) < (n : Int) := by omega
      have HRI := Lib.hid (fun W => by
        have := ratInt_any (i + 1) W (by omega)
        rw [show ((i + 1 : Nat) : Int) = (i : Int) + 1 by omega] at this
        exact this)
      have HMU := Lib.hid (fun W => by
        have := rNatMul_any (decT (prodF 1 i)) (decT (i + 1)) W (canon_decT _).1 (canon_decT _).1 (by have := prodF_size (n := i) (by omega); omega) (by have := dec9_len (x := i + 1) (by omega); omega)
        rw [numB_decT, numB_decT, show prodF 1 i * (i + 1) = prodF 1 (i + 1) by rw [prodF, Nat.add_comm 1 i]] at this
        exact this)
      obtain ⟨T1, hT1⟩ : ∃ T, decT (prodF 1 i) = T := ⟨_, rfl⟩
      obtain ⟨T2, hT2⟩ : ∃ T, decT (i + 1) = T := ⟨_, rfl⟩
      obtain ⟨T3, hT3⟩ : ∃ T, decT (prodF 1 (i + 1)) = T := ⟨_, rfl⟩
      rw [hT1, hT2, hT3] at HMU
      rw [hT2] at HRI
      rw [hT1]
      have HT3 := Lib.hid hT3
      clear hT1 hT2 hT3 hlt
      go_wp2_with fail
      refine (HRI.out _).mono ?_
      rintro e w4 ⟨rfl, rfl⟩
      go_wp2_with fail
      refine (HMU.out _).mono ?_
      rintro e w5 ⟨rfl, X5⟩
      go_wp2_with fail
      go_roundw
      case rel => exact ⟨i + 1, by omega, by go_num, by rw [HT3.out], X.trans X5⟩
      case measure => simp [intOf]; omega
    · have hin : n = i := by omega
      subst hin
      rw [hX]
      clear hlt
      go_wp2_with fail
      have X0 := X.alloc (.cells #[.string ⟨#[49]⟩] 9)
      go_loopw [84, 11] (fun iv rv wr => ∃ (i : Nat), i ≤ n ∧ iv = .int .i64 i ∧ Strs wr rv ((rowF i).map decT) ∧ Ext wo wr) (fun iv _ _ => n - (intOf iv).toNat)
      case atStart => exact ⟨0, Nat.zero_le _, rfl, by rw [show (rowF 0).map decT = [(⟨#[49]⟩ : ByteArray)] by rw [rowF, List.map_cons, decT_one]; rfl]; exact lit_strs_at _ _ [⟨#[49]⟩] (by simp) _ (by first | rfl | simp), X0⟩
      case round =>
        clear X X0
        obtain ⟨i, hi, rfl, hrow, X⟩ := hrel
        obtain ⟨wa, rfl⟩ : ∃ wa : World, wa = wr := ⟨_, rfl⟩
        obtain ⟨ao, c, rfl, _, hlc, _, hcs⟩ := hrow.open'
        have hl : ((rowF i).map decT).length = i + 1 := by rw [List.length_map, rowF_len]
        obtain ⟨x0, hx0, _, _⟩ := get_lt (xs := (rowF i).map decT) (k := 0) (by omega)
        obtain ⟨b, off, rfl, _⟩ := hcs.at hx0
        rw [hl] at hlc ⊢
        have HC := Lib.hid hcs
        have hblt : b < wa.heap.size := by
          obtain ⟨kb, h1, h2⟩ := Row.block_lt hrow (fun h => by
            have := congrArg List.length h
            rw [List.length_map, hl] at this
            simp at this)
          have : b = kb := by simpa [Value.ownBlock] using h1
          omega
        clear hrow hx0 hl hcs
        by_cases hlt : i < n
        · have hii : (i : Int) < (n : Int) := by omega
          have hcc : (c = 1 ∧ i = 0) ∨ (¬ c = 1) := by omega
          have hci : (1 : Int) ≤ (c : Int) := by omega
          have hlci : (i : Int) + 1 ≤ (c : Int) := by omega
          have hn1 := HN25.out
          have hi25 : (i : Int) ≤ 25 := by omega
          have hlitO := lit_own wa 9 (.string ⟨#[49]⟩)
          have hXl := (Ext.refl wa).alloc (.cells #[.string ⟨#[49]⟩] 9)
          obtain ⟨B, hB⟩ : ∃ B, wa.heap.size = B := ⟨_, rfl⟩
          have hB0 : wo.heap.size ≤ B := by rw [← hB]; exact X.size
          have hBa : wa.heap.size ≤ B := Nat.le_of_eq hB
          rw [hB] at hlitO hblt
          clear hlt hn1
          rcases hcc with ⟨rfl, hi0⟩ | hc1
          · go_wp2_with fail
            (try rw [hB])
            go_loopw [90, 12] (fun jv nv wr => ∃ (j : Nat), j ≤ i ∧ jv = .int .i64 j ∧ wr.ownsRow B 9 1 nv (j + 1) (((1 :: (pairsF (rowF i)).take j).map decT).map Value.string) ∧ Ext wa wr) (fun jv _ _ => i - (intOf jv).toNat)
            case atStart => exact ⟨0, Nat.zero_le _, rfl, by rw [List.take_zero, List.map_cons, List.map_nil, decT_one]; exact hlitO, hXl⟩
            case round =>
              obtain ⟨j, hj, rfl, HO, XL⟩ := hrel
              by_cases hlt : j < i
              · (exfalso; omega)
              · have hjl : i = j := by omega
                subst hjl
                rw [List.take_of_length_le (by rw [pairs_len, rowF_len]; omega)] at HO
                have hsz := XL.size
                clear hlt
                go_wp2_with (at_builtin; refine wp_app1 (s := .tmp 107) (x := .tmp 108) (y := .string ⟨#[49]⟩) rfl rfl ei_strs HO rfl rfl rfl rfl (by omega) (by omega) (by omega) ?_; intro v' w' hown hgrew)
                go_roundw
                case rel => exact ⟨i + 1, by omega, by go_num, by
                  refine own_rowOf (enc := Value.string) (n := i + 2) (own_cast hown (by rw [rowF, List.map_append, List.map_append, List.map_cons (l := []), List.map_nil, decT_one]; rfl) rfl) (by omega), X.trans (hgrew.extNew XL HO hBa)⟩
                case measure => simp [intOf]; omega
          · go_wp2_with fail
            (try rw [hB])
            go_loopw [90, 12] (fun jv nv wr => ∃ (j : Nat), j ≤ i ∧ jv = .int .i64 j ∧ wr.ownsRow B 9 1 nv (j + 1) (((1 :: (pairsF (rowF i)).take j).map decT).map Value.string) ∧ Ext wa wr) (fun jv _ _ => i - (intOf jv).toNat)
            case atStart => exact ⟨0, Nat.zero_le _, rfl, by rw [List.take_zero, List.map_cons, List.map_nil, decT_one]; exact hlitO, hXl⟩
            case round =>
              obtain ⟨j, hj, rfl, HO, XL⟩ := hrel
              by_cases hlt : j < i
              · obtain ⟨x, x1, _, _⟩ := get_lt (xs := rowF i) (k := j) (by rw [rowF_len]; omega)
                obtain ⟨y, y1, _, _⟩ := get_lt (xs := rowF i) (k := j + 1) (by rw [rowF_len]; omega)
                have hx9 := dec9_len (rowF_small (show i ≤ 25 by have := HN25.out; omega) (List.mem_of_getElem? x1.out))
                have hy9 := dec9_len (rowF_small (show i ≤ 25 by have := HN25.out; omega) (List.mem_of_getElem? y1.out))
                have HAD := Lib.hid (fun W => by
                  have := rNatAdd_any (decT x) (decT y) W (canon_decT _).1 (canon_decT _).1 (by omega) (by omega)
                  rw [numB_decT, numB_decT] at this
                  exact this)
                have c1 : wa.cell? ⟨b, off + j, none⟩ = some (.string (decT x)) := HC.out.at' (by show _ = _; rw [List.getElem?_map, x1.out]; rfl)
                have c2 : wa.cell? ⟨b, off + (j + 1), none⟩ = some (.string (decT y)) := HC.out.at' (by show _ = _; rw [List.getElem?_map, y1.out]; rfl)
                have hnx : (pairsF (rowF i)).take (j + 1) = (pairsF (rowF i)).take j ++ [x + y] := take_last (pairs_get _ j x y x1.out y1.out)
                have HNX := Lib.hid hnx
                obtain ⟨T1, hT1⟩ : ∃ T, decT x = T := ⟨_, rfl⟩
                obtain ⟨T2, hT2⟩ : ∃ T, decT y = T := ⟨_, rfl⟩
                obtain ⟨T3, hT3⟩ : ∃ T, decT (x + y) = T := ⟨_, rfl⟩
                rw [hT1, hT2, hT3] at HAD
                rw [hT1] at c1
                rw [hT2] at c2
                have HT3 := Lib.hid hT3
                have hji : (j : Int) < (i : Int) := by omega
                have hji2 : (j : Int) < (i : Int) + 1 := by omega
                have hji3 : (j : Int) + 1 < (i : Int) + 1 := by omega
                have hji0 : (0 : Int) ≤ (j : Int) := by omega
                have hji1 : (0 : Int) ≤ (j : Int) + 1 := by omega
                have hA : j + 1 + 1 ≤ 17592186044416 := by omega
                have hB2 : (j + 1 + 1) * 16 ≤ 140737488355328 := by omega
                have hBw : B ≤ wr.heap.size := by rw [← hB]; exact XL.size
                clear hnx hT1 hT2 hT3 hx9 hy9 hlt
                go_wp2_with fail
                have e1 : IntKind.i64.wrap ((j : Int) + 1) = (j : Int) + 1 := IntWalk.i64_in _ (by omega)
                have e2 : IntKind.i64.wrap (j : Int) = (j : Int) := IntWalk.i64_in _ (by omega)
                have e3 : ((j : Int) + 1).toNat = j + 1 := by omega
                go_region_held3 (fun w' => w'.cell? ⟨b, off + j, none⟩ = some (.string T1) ∧ w'.cell? ⟨b, off + (j + 1), none⟩ = some (.string T2))
                  (first | exact ⟨XL.drew.cell c1, XL.drew.cell c2⟩ | exact ⟨(XL.drew.trans X5).cell c1, (XL.drew.trans X5).cell c2⟩ | exact ⟨((XL.drew.trans X5).alloc _).cell c1, ((XL.drew.trans X5).alloc _).cell c2⟩ | exact ⟨X6.cell c1, X6.cell c2⟩ | go_keep)
                  (first
                  | (go_at_call 20; refine (HAD.out _).mono ?_; rintro e w5 ⟨rfl, X5⟩)
                  | (refine step_app rfl rfl ei_strs rfl (own_ext HO (((Ext.refl wr).drew.trans X5).alloc _)) rfl (src_new w5 _ _ rfl) hA hB2 (Nat.le_trans hBw (((Ext.refl wr).drew.trans X5).alloc _).size) ?_; intro v' w6 hown6 hgrew6; have X6 : Ext wa w6 := hgrew6.extNew ((XL.drew.trans X5).alloc _) (own_ext HO (((Ext.refl wr).drew.trans X5).alloc _)) hBa))
                all_goals
                  clear e1 e2 e3
                  go_wp2_with fail
                  go_roundw
                  case rel => exact ⟨j + 1, by omega, by go_num, own_cast hown6 (by rw [HNX.out, ← HT3.out]; simp) rfl, X6⟩
                  case measure => simp [intOf]; omega
              · have hjl : i = j := by omega
                subst hjl
                rw [List.take_of_length_le (by rw [pairs_len, rowF_len]; omega)] at HO
                have hsz := XL.size
                clear hlt
                go_wp2_with (at_builtin; refine wp_app1 (s := .tmp 107) (x := .tmp 108) (y := .string ⟨#[49]⟩) rfl rfl ei_strs HO rfl rfl rfl rfl (by omega) (by omega) (by omega) ?_; intro v' w' hown hgrew)
                go_roundw
                case rel => exact ⟨i + 1, by omega, by go_num, by
                  refine own_rowOf (enc := Value.string) (n := i + 2) (own_cast hown (by rw [rowF, List.map_append, List.map_append, List.map_cons (l := []), List.map_nil, decT_one]; rfl) rfl) (by omega), X.trans (hgrew.extNew XL HO hBa)⟩
                case measure => simp [intOf]; omega
        · have hin : n = i := by omega
          subst hin
          clear hlt
          go_wp2_with fail
          go_ret
          exact ⟨by first | rfl | simp, E3b.out.trans X⟩
end Go.Proofs.YtecfphohmgbddaaGreatDoor
