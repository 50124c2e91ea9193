/- walk of table.Pack -/
import Derived.Test.YtecfphohmgbddaaDoorTable5
import Derived.Test.YtecfphohmgbddaaDoorShelfB
import Derived.Lib.AppendIntMem
import Derived.BigQuiet
namespace Go.Proofs.YtecfphohmgbddaaDoor
open Go.RowKit
set_option linter.unusedVariables false

theorem builderAt_ext {T e : TypeId} {B b : Nat} {p : Value} {bs : List Value} {w w' : World} (h : Lib.BuilderAt T e B b p bs w) (he : Ext w w') : Lib.BuilderAt T e B b p bs w' := by
  have hlt := h.lt
  obtain ⟨hB, v, hb, hown, hne⟩ := h
  exact ⟨hB, v, by rw [he.block b hlt]; exact hb, own_ext hown he, hne⟩
theorem isBuilder_ext {T e : TypeId} {B b : Nat} {bs : List Value} {w w' : World} (h : Lib.IsBuilder T e B b bs w) (he : Ext w w') : Lib.IsBuilder T e B b bs w' :=
  h.elim (fun h => .inl (builderAt_ext h he)) (fun h => .inr (builderAt_ext h he))
theorem builderAt_lower {T e : TypeId} {B B' b : Nat} {p : Value} {bs : List Value} {w : World} (h : Lib.BuilderAt T e B b p bs w) (hl : B' ≤ B) : Lib.BuilderAt T e B' b p bs w := by
  obtain ⟨hB, v, hb, ⟨hown1, hown2⟩, hne⟩ := h
  refine ⟨by omega, v, hb, ⟨hown1, ?_⟩, hne⟩
  rcases hown2 with h0 | ⟨g, cap, cur, h1, h2, h3⟩
  · exact .inl h0
  · exact .inr ⟨g, cap, cur, h1, by omega, h3⟩

abbrev TabPow (w : World) : Prop := Lib.TabIs Tryd.prog w "internal/strconv.uint64pow10" .u64 Lib.pow10Tab

theorem itoa_any (n : Nat) (h : n ≤ 9223372036854775807) (w : World) (ht : TabPow w) :
    Calls Tryd.prog 23 #[.int .i64 n] w fun e w' => e = .returned (.string (decT n)) ∧ Ext w w' := by
  refine (Tryd.strconv_Itoa n (by omega) (by omega) w ht).mono ?_
  rintro e w' ⟨rfl, k, os, rfl⟩
  rw [Lib.itoa_nonneg]
  exact ⟨rfl, Lib.below_grow _ w (Nat.le_refl _) k os⟩

set_option maxHeartbeats 800000 in
set_option maxRecDepth 100000 in
theorem pack_bad (v : Value) (xs : List Int) (w : World) (hv : Ints w v xs) (q : Int) (hq : Hid (tblErr xs = q)) (hq0 : q ≠ 0) :
    Calls Tryd.prog 11 #[v] w fun e w' => e = .returned (.tuple #[.string ⟨#[]⟩, .int .i64 q]) ∧ Ext w w' := by
  have HCK := Lib.hid (fun w' (hx : Ext w w') => tcheck_any v xs w' (hv.ext hx) q hq)
  have hqb : (q != 0) = true := by simp [hq0]
  clear hv
  go_enter Tryd.func11, Tryd.ntmps11
  go_wp2_with fail
  refine (HCK.out _ (Ext.refl _)).mono ?_
  rintro e w' ⟨rfl, hx⟩
  go_wp2_with fail
  go_ret2
  exact ⟨rfl, hx⟩

set_option maxHeartbeats 800000 in
set_option maxRecDepth 100000 in
theorem pack_any (v : Value) (xs : List Int) (w : World) (hv : Ints w v xs) (hq : Hid (tblErr xs = 0)) (htab : TabPow w) :
    Calls Tryd.prog 11 #[v] w fun e w' => e = .returned (.tuple #[.string (tabT xs), .int .i64 0]) ∧ Ext w w' := by
  obtain ⟨wo, rfl⟩ : ∃ wo : World, wo = w := ⟨_, rfl⟩
  have HCK := Lib.hid (fun w' (hx : Ext wo w') => tcheck_any v xs w' (hv.ext hx) 0 hq)
  obtain ⟨hl, hrg⟩ := tblErr_zero hq.out
  have hFl := tabG_len xs 0 hrg (by omega)
  obtain ⟨F, hF⟩ : ∃ F, Hid (tabG xs 0 = F) := ⟨_, rfl⟩
  rw [hF.out] at hFl
  have HFL := Lib.hid hFl
  have HRG := Lib.hid hrg
  have hTB := Lib.hid (Lib.tabBelow_of_tabIs htab)
  obtain ⟨ao, c, rfl, hlen, hc⟩ := hv.open
  have HCC := Lib.hid hc
  clear hv hc hrg hFl htab
  go_enter Tryd.func11, Tryd.ntmps11
  go_wp2_with fail
  refine (HCK.out _ (Ext.refl _)).mono ?_
  rintro e w1 ⟨rfl, hx1⟩
  clear HCK
  go_wp2_with fail
  have HB0 := Lib.fresh_isBuilder 51 5 w1
  go_loopw [6] (fun iv wr => ∃ (i : Nat) (bs : List UInt8), i ≤ xs.length ∧ iv = .int .i64 i ∧ Ext w1 wr ∧ Lib.IsBuilder 51 5 w1.heap.size w1.heap.size (Lib.byteCells bs) wr ∧ Hid (bs ++ tabG (xs.drop i) 0 = F)) (fun iv _ => xs.length - (intOf iv).toNat)
  case atStart => exact ⟨0, [], Nat.zero_le _, rfl, (Ext.refl w1).alloc _, HB0, by show _ = _; simpa using hF.out⟩
  case round =>
    obtain ⟨i, bs, hi, rfl, X, HBB, HI⟩ := hrel
    have hbs : bs.length ≤ 180224 := by
      have h1 := congrArg List.length HI.out
      rw [List.length_append] at h1
      have h2 := HFL.out
      omega
    by_cases hlt : i < xs.length
    · obtain ⟨x, x1, x2, _⟩ := get_lt hlt
      obtain ⟨w2, rfl⟩ : ∃ w2 : World, w2 = wr := ⟨_, rfl⟩
      have HCC2 := Lib.hid (HCC.out.ext (hx1.trans X))
      obtain ⟨b, off, rfl, hcell⟩ := HCC2.out.at x1
      obtain ⟨hx0, hx9⟩ := HRG.out x (List.mem_of_getElem? x1.out)
      obtain ⟨n, rfl⟩ := Int.eq_ofNat_of_zero_le hx0
      go_wp2_with fail
      go_loopw [7] (fun kv wr => ∃ (k : Nat), i ≤ k ∧ k ≤ xs.length ∧ kv = .int .i64 k ∧ Ext w2 wr ∧ Hid (∀ j, i ≤ j → j < k → xs[j]? = some (n : Int))) (fun kv _ => xs.length - (intOf kv).toNat)
      case atStart => exact ⟨i, Nat.le_refl _, hi, rfl, Ext.refl _, by show _; intro j h1 h2; omega⟩
      case round =>
        obtain ⟨k, hik, hk, rfl, X2, HR⟩ := hrel
        have hcx := X2.cell hcell
        by_cases hlk : k < xs.length
        · obtain ⟨y, y1, _, _⟩ := get_lt hlk
          have hcy := X2.cell (HCC2.out.at' y1)
          have hgd : decide ((k : Int) < (xs.length : Int)) = true := by simp; omega
          by_cases hyx : y = (n : Int)
          · subst hyx
            have hyy : ((n : Int) == (n : Int)) = true := by simp
            go_wp2_with fail
            go_quiet (fail)
            go_wp2_with fail
            go_roundw
            case rel => exact ⟨k + 1, by omega, by omega, by go_num, X2.drewN _, by
              show _
              intro j h1 h2
              by_cases hj : j = k
              · subst hj; exact y1.out
              · exact HR.out j h1 (by omega)⟩
            case measure => simp [intOf]; omega
          · have hyy : (y == (n : Int)) = false := by rw [beq_eq_false_iff_ne]; exact hyx
            have hik2 : i < k := by
              rcases Nat.lt_or_ge i k with h | h
              · exact h
              · have he : k = i := by omega
                have h1 := y1.out
                rw [he, x1.out] at h1
                exact absurd (Option.some.inj h1).symm hyx
            have HS := tabG_run0 (xs := xs) (x := (n : Int)) (i := i) (k := k) hik2 (by rw [y1.out]; intro e; exact hyx (Option.some.inj e)) HR.out
            clear hyx
            have hi2 := HI.out
            rw [HS, ← List.append_assoc] at hi2
            obtain ⟨m, hm⟩ : ∃ m, k - i = m := ⟨_, rfl⟩
            have hmi : (k : Int) - (i : Int) = (m : Int) := by omega
            have hm9 : m ≤ 4096 := by omega
            rw [hm] at hi2
            simp only [Int.toNat_natCast] at hi2
            have HI2 := Lib.hid hi2
            clear hi2 HS
            obtain ⟨D1, hD1⟩ : ∃ D1, decT n = D1 := ⟨_, rfl⟩
            have hs1 : D1.size ≤ 21 := by rw [← hD1]; exact decT_size (by omega)
            obtain ⟨D2, hD2⟩ : ∃ D2, decT m = D2 := ⟨_, rfl⟩
            have hs2 : D2.size ≤ 21 := by rw [← hD2]; exact decT_size (by omega)
            have HD1 := Lib.hid hD1
            have HD2 := Lib.hid hD2
            have ha2 : 1 + D2.size ≤ 22 := by omega
            clear hD1 hD2 hm
            go_wp2_with fail
            go_quiet (fail)
            go_wp2_with fail
            refine (itoa_any n (by omega) _ (hTB.out _ (hx1.trans (X.trans (X2.drewN _))))).mono ?_
            rintro e w3 ⟨rfl, X3⟩
            rw [HD1.out]
            have XA : Ext w2 w3 := (X2.drewN _).trans X3
            go_wp2_with fail
            refine (writeString_any w1.heap.size w1.heap.size (Lib.byteCells bs) D1 w3 (isBuilder_ext HBB XA) (by rw [Lib.byteCells_length]; omega) (Nat.le_trans X.size XA.size)).mono ?_
            rintro e w4 ⟨rfl, HB4, X4⟩
            have XB : Ext w1 w4 := Below.trans (X.trans XA) X4
            by_cases hm1 : 1 < m
            · have hm1i : (1 : Int) < (m : Int) := by omega
              go_wp2_with fail
              refine (itoa_any m (by omega) _ (hTB.out _ (hx1.trans XB))).mono ?_
              rintro e w5 ⟨rfl, X5⟩
              rw [HD2.out]
              go_wp2_with fail
              obtain ⟨D3, hD3⟩ : ∃ D3, (⟨#[120]⟩ : ByteArray) ++ D2 = D3 := ⟨_, rfl⟩
              have hs3 : D3.size ≤ 22 := by
                rw [← hD3, ByteArray.size_append]
                exact ha2
              rw [hD3]
              have HD3 := Lib.hid hD3
              clear hD3
              have hln : (Lib.byteCells bs ++ Lib.strCells D1).length + D3.size ≤ 140737488355328 := by
                rw [List.length_append, Lib.byteCells_length, Lib.strCells_length]
                omega
              refine (writeString_any w1.heap.size w1.heap.size (Lib.byteCells bs ++ Lib.strCells D1) D3 w5 (isBuilder_ext (.inr HB4) X5) hln (Nat.le_trans XB.size X5.size)).mono ?_
              rintro e w6 ⟨rfl, HB6, X6⟩
              have XC : Ext w1 w6 := Below.trans (XB.trans X5) X6
              go_wp2_with fail
              have hln2 : (Lib.byteCells bs ++ Lib.strCells D1 ++ Lib.strCells D3).length + 1 ≤ 140737488355328 := by
                rw [List.length_append, List.length_append, Lib.byteCells_length, Lib.strCells_length, Lib.strCells_length]
                omega
              refine (writeByte_any w1.heap.size w1.heap.size _ 59 w6 (.inr HB6) hln2 XC.size).mono ?_
              rintro e w7 ⟨rfl, HB7, X7⟩
              have hcl : Lib.byteCells bs ++ Lib.strCells D1 ++ Lib.strCells D3 ++ [.int .u8 59] = Lib.byteCells (bs ++ segB n m) := by
                rw [← HD3.out, ← HD1.out, ← HD2.out]
                simp [Lib.byteCells, Lib.strCells, decT, segB, hm1]
              rw [hcl] at HB7
              clear hcl
              go_wp2_with fail
              go_roundw
              case rel => exact ⟨k, bs ++ segB n m, hk, rfl, Below.trans XC X7, .inr HB7, HI2⟩
              case measure => simp [intOf]; omega
            · have hm1i : (m : Int) ≤ 1 := by omega
              go_wp2_with fail
              refine (writeByte_any w1.heap.size w1.heap.size _ 59 w4 (.inr HB4) (by simp only [List.length_append, Lib.byteCells_length, Lib.strCells_length]; omega) XB.size).mono ?_
              rintro e w7 ⟨rfl, HB7, X7⟩
              have hcl : Lib.byteCells bs ++ Lib.strCells D1 ++ [.int .u8 59] = Lib.byteCells (bs ++ segB n m) := by
                rw [← HD1.out]
                simp [Lib.byteCells, Lib.strCells, decT, segB, hm1]
              rw [hcl] at HB7
              clear hcl
              go_wp2_with fail
              go_roundw
              case rel => exact ⟨k, bs ++ segB n m, hk, rfl, Below.trans XB X7, .inr HB7, HI2⟩
              case measure => simp [intOf]; omega
        · have hgd : decide ((k : Int) < (xs.length : Int)) = false := by simp; omega
          have hik2 : i < k := by omega
          have HS := tabG_run0 (xs := xs) (x := (n : Int)) (i := i) (k := k) hik2 (by rw [List.getElem?_eq_none (by omega)]; intro e; cases e) HR.out
          have hi2 := HI.out
          rw [HS, ← List.append_assoc] at hi2
          obtain ⟨m, hm⟩ : ∃ m, k - i = m := ⟨_, rfl⟩
          have hmi : (k : Int) - (i : Int) = (m : Int) := by omega
          have hm9 : m ≤ 4096 := by omega
          rw [hm] at hi2
          simp only [Int.toNat_natCast] at hi2
          have HI2 := Lib.hid hi2
          clear hi2 HS
          obtain ⟨D1, hD1⟩ : ∃ D1, decT n = D1 := ⟨_, rfl⟩
          have hs1 : D1.size ≤ 21 := by rw [← hD1]; exact decT_size (by omega)
          obtain ⟨D2, hD2⟩ : ∃ D2, decT m = D2 := ⟨_, rfl⟩
          have hs2 : D2.size ≤ 21 := by rw [← hD2]; exact decT_size (by omega)
          have HD1 := Lib.hid hD1
          have HD2 := Lib.hid hD2
          have ha2 : 1 + D2.size ≤ 22 := by omega
          clear hD1 hD2 hm
          go_wp2_with fail
          go_quiet (fail)
          go_wp2_with fail
          refine (itoa_any n (by omega) _ (hTB.out _ (hx1.trans (X.trans (X2.drewN _))))).mono ?_
          rintro e w3 ⟨rfl, X3⟩
          rw [HD1.out]
          have XA : Ext w2 w3 := (X2.drewN _).trans X3
          go_wp2_with fail
          refine (writeString_any w1.heap.size w1.heap.size (Lib.byteCells bs) D1 w3 (isBuilder_ext HBB XA) (by rw [Lib.byteCells_length]; omega) (Nat.le_trans X.size XA.size)).mono ?_
          rintro e w4 ⟨rfl, HB4, X4⟩
          have XB : Ext w1 w4 := Below.trans (X.trans XA) X4
          by_cases hm1 : 1 < m
          · have hm1i : (1 : Int) < (m : Int) := by omega
            go_wp2_with fail
            refine (itoa_any m (by omega) _ (hTB.out _ (hx1.trans XB))).mono ?_
            rintro e w5 ⟨rfl, X5⟩
            rw [HD2.out]
            go_wp2_with fail
            obtain ⟨D3, hD3⟩ : ∃ D3, (⟨#[120]⟩ : ByteArray) ++ D2 = D3 := ⟨_, rfl⟩
            have hs3 : D3.size ≤ 22 := by
              rw [← hD3, ByteArray.size_append]
              exact ha2
            rw [hD3]
            have HD3 := Lib.hid hD3
            clear hD3
            have hln : (Lib.byteCells bs ++ Lib.strCells D1).length + D3.size ≤ 140737488355328 := by
              rw [List.length_append, Lib.byteCells_length, Lib.strCells_length]
              omega
            refine (writeString_any w1.heap.size w1.heap.size (Lib.byteCells bs ++ Lib.strCells D1) D3 w5 (isBuilder_ext (.inr HB4) X5) hln (Nat.le_trans XB.size X5.size)).mono ?_
            rintro e w6 ⟨rfl, HB6, X6⟩
            have XC : Ext w1 w6 := Below.trans (XB.trans X5) X6
            go_wp2_with fail
            have hln2 : (Lib.byteCells bs ++ Lib.strCells D1 ++ Lib.strCells D3).length + 1 ≤ 140737488355328 := by
              rw [List.length_append, List.length_append, Lib.byteCells_length, Lib.strCells_length, Lib.strCells_length]
              omega
            refine (writeByte_any w1.heap.size w1.heap.size _ 59 w6 (.inr HB6) hln2 XC.size).mono ?_
            rintro e w7 ⟨rfl, HB7, X7⟩
            have hcl : Lib.byteCells bs ++ Lib.strCells D1 ++ Lib.strCells D3 ++ [.int .u8 59] = Lib.byteCells (bs ++ segB n m) := by
              rw [← HD3.out, ← HD1.out, ← HD2.out]
              simp [Lib.byteCells, Lib.strCells, decT, segB, hm1]
            rw [hcl] at HB7
            clear hcl
            go_wp2_with fail
            go_roundw
            case rel => exact ⟨k, bs ++ segB n m, hk, rfl, Below.trans XC X7, .inr HB7, HI2⟩
            case measure => simp [intOf]; omega
          · have hm1i : (m : Int) ≤ 1 := by omega
            go_wp2_with fail
            refine (writeByte_any w1.heap.size w1.heap.size _ 59 w4 (.inr HB4) (by simp only [List.length_append, Lib.byteCells_length, Lib.strCells_length]; omega) XB.size).mono ?_
            rintro e w7 ⟨rfl, HB7, X7⟩
            have hcl : Lib.byteCells bs ++ Lib.strCells D1 ++ [.int .u8 59] = Lib.byteCells (bs ++ segB n m) := by
              rw [← HD1.out]
              simp [Lib.byteCells, Lib.strCells, decT, segB, hm1]
            rw [hcl] at HB7
            clear hcl
            go_wp2_with fail
            go_roundw
            case rel => exact ⟨k, bs ++ segB n m, hk, rfl, Below.trans XB X7, .inr HB7, HI2⟩
            case measure => simp [intOf]; omega
    · have hkl : i = xs.length := by omega
      subst hkl
      have hlast := HI.out
      rw [List.drop_length, tabG, List.append_nil] at hlast
      subst hlast
      have hT : tabT xs = (⟨bs.toArray⟩ : ByteArray) ++ ⟨#[35]⟩ ++ decT (sumF ⟨bs.toArray⟩) := by rw [tabT, tabB, hF.out]
      obtain ⟨S, hS⟩ : ∃ S, (⟨bs.toArray⟩ : ByteArray) = S := ⟨_, rfl⟩
      have hs0 : S.size ≤ 180224 := by
        rw [← hS]
        simpa [ByteArray.size] using hbs
      rw [hS] at hT
      obtain ⟨q, hq2⟩ : ∃ q, Hid (sumF S = q) := ⟨_, rfl⟩
      have hq9 : q ≤ 4294967295 := by rw [← hq2.out]; exact sumF_le S
      rw [hq2.out] at hT
      obtain ⟨D, hD⟩ : ∃ D, decT q = D := ⟨_, rfl⟩
      have hs1 : D.size ≤ 21 := by rw [← hD]; exact decT_size (by omega)
      rw [hD] at hT
      have HT := Lib.hid hT
      have HD := Lib.hid hD
      have HS := Lib.hid hS
      have ha1 : S.size + 1 ≤ 180225 := by omega
      have ha2 : S.size + 1 + D.size ≤ 180246 := by omega
      clear hT hD hS
      go_wp2_with fail
      refine (Tryd.Builder_String_any w1.heap.size w1.heap.size bs wr HBB X.size).mono ?_
      rintro e w3 ⟨rfl, X3⟩
      rw [HS.out]
      have XB : Ext w1 w3 := Below.trans X X3
      go_wp2_with fail
      refine (sum_any S _ (by omega) q hq2).mono ?_
      rintro e w4 ⟨rfl, rfl⟩
      go_wp2_with fail
      refine (itoa_any q (by omega) _ (hTB.out _ (hx1.trans XB))).mono ?_
      rintro e w5 ⟨rfl, X5⟩
      rw [HD.out]
      go_wp2_with fail
      go_ret2
      refine ⟨?_, hx1.trans (XB.trans X5)⟩
      rw [HT.out]
      rfl
end Go.Proofs.YtecfphohmgbddaaDoor
