/- walk: the reference's runs -/
import Derived.Test.YtecfphohmgbddaaDoorTableE
namespace Go.Proofs.YtecfphohmgbddaaDoor
open Go.RowKit
set_option linter.unusedVariables false

theorem ix35 (s : ByteArray) (w : World) : Calls Tryd.prog 19 #[.string s, .int .u8 35] w fun e w' => e = .returned (.int .i64 (ixB s 35)) ∧ w' = w := Tryd.strings_IndexByte s 35 w
theorem ix59 (s : ByteArray) (w : World) : Calls Tryd.prog 19 #[.string s, .int .u8 59] w fun e w' => e = .returned (.int .i64 (ixB s 59)) ∧ w' = w := Tryd.strings_IndexByte s 59 w
theorem ix120 (s : ByteArray) (w : World) : Calls Tryd.prog 19 #[.string s, .int .u8 120] w fun e w' => e = .returned (.int .i64 (ixB s 120)) ∧ w' = w := Tryd.strings_IndexByte s 120 w

theorem byte_ne {a : UInt8} (h : a ≠ 59) : ((a.toNat : Int) != 59) = true := by
  simp
  intro e
  apply h
  have : a.toNat = 59 := by omega
  exact UInt8.toNat_inj.1 this
theorem byte_eq {a : UInt8} (h : a = 59) : ((a.toNat : Int) != 59) = false := by subst h; rfl

set_option maxHeartbeats 1600000 in
set_option maxRecDepth 100000 in
theorem runs_a (s : ByteArray) (w : World) (hs : s.size ≤ 140737488355328) (HV : StrV w) (h : cutK s 35 = false ∨ numO (cutR s 35) = none ∨ ((cutA s 35).size ≠ 0 ∧ endsB (cutA s 35) 59 = false)) :
    Calls Tryd.prog 7 #[.string s] w (UnpPost s w) := by
  have HF := unpF_none h
  have HX := ix35 s w
  rcases ixB_cases s 35 with hi | ⟨i, hi, hlt⟩
  · rw [hi] at HX
    have HX := Lib.hid HX
    clear h hi HV
    go_enter Tryd.func7, Tryd.ntmps7
    go_wp2_with fail
    refine HX.out.mono ?_
    rintro e w1 ⟨rfl, rfl⟩
    go_wp2_with fail
    go_ret2
    exact unpPost_err HF (Ext.refl _)
  · rw [hi] at HX
    have HX := Lib.hid HX
    have h : numO (cutR s 35) = none ∨ ((cutA s 35).size ≠ 0 ∧ endsB (cutA s 35) 59 = false) := by
      rcases h with h | h
      · rw [cutK_hit hi] at h; cases h
      · exact h
    have hcR := cutR_le s 35
    have hcA := cutA_le s 35
    have hA0 := (cutA_hit hi).symm
    have hR0 := (cutR_hit hi).symm
    have HN := fun W (hx : Ext w W) => decimal_any (cutR s 35) W (by omega) (HV.ext hx)
    have hii : (i : Int) ≤ (s.size : Int) := by omega
    have hii2 : (i : Int) + 1 ≤ (s.size : Int) := by omega
    have e5 : ((i : Int) + 1).toNat = i + 1 := by omega
    have hsz : (s.size : Int) ≤ 140737488355328 := by omega
    generalize cutA s 35 = A at *
    generalize cutR s 35 = R at *
    have HN := Lib.hid HN
    clear HV hi
    have hc : numO R = none ∨ ((∃ n, numO R = some n) ∧ A.size ≠ 0 ∧ endsB A 59 = false) := by
      cases hn : numO R with
      | none => exact .inl rfl
      | some n =>
        rcases h with h | h
        · rw [hn] at h; cases h
        · exact .inr ⟨⟨n, rfl⟩, h⟩
    clear h
    rcases hc with hn | ⟨⟨n, hn⟩, hA, hE⟩
    · have hN := Lib.hid hn
      clear hn
      go_enter Tryd.func7, Tryd.ntmps7
      go_wp2_with fail
      refine HX.out.mono ?_
      rintro e w1 ⟨rfl, rfl⟩
      go_wp2_with fail
      refine (HN.out _ (Ext.refl _)).mono ?_
      rintro e w2 ⟨m, rfl, hm, X2⟩
      rw [hN.out]
      simp only [Option.isSome_none]
      go_wp2_with fail
      go_ret2
      exact unpPost_err HF X2
    · have hN := Lib.hid hn
      have hAe := isEmpty_pos hA
      have hA1 : A.size - 1 < A.size := by omega
      have hbl : A[A.size - 1] ≠ 59 := by
        intro e
        rw [(ends_last hA1).2 e] at hE
        cases hE
      have hbn := byte_ne hbl
      clear hn hE hbl
      go_enter Tryd.func7, Tryd.ntmps7
      go_wp2_with fail
      refine HX.out.mono ?_
      rintro e w1 ⟨rfl, rfl⟩
      go_wp2_with fail
      refine (HN.out _ (Ext.refl _)).mono ?_
      rintro e w2 ⟨m, rfl, hm, X2⟩
      rw [hN.out]
      simp only [Option.isSome_some]
      go_wp2_with fail

      go_ret2
      exact unpPost_err HF X2

def repC (out : List Int) (j n : Nat) : List Value := (out ++ List.replicate j (n : Int)).map (Value.int .i64)
theorem repC_succ (out : List Int) (j n : Nat) : repC out j n ++ [.int .i64 n] = repC out (j + 1) n := by
  unfold repC
  rw [List.replicate_succ', ← List.append_assoc, List.map_append (l₂ := [(n : Int)])]; rfl

set_option maxHeartbeats 6400000 in
set_option maxRecDepth 100000 in
theorem runs_b (s : ByteArray) (w : World) (hs : s.size ≤ 140737488355328) (HV : StrV w) (h : ¬ (cutK s 35 = false ∨ numO (cutR s 35) = none ∨ ((cutA s 35).size ≠ 0 ∧ endsB (cutA s 35) 59 = false))) :
    Calls Tryd.prog 7 #[.string s] w (UnpPost s w) := by
  obtain ⟨wo, rfl⟩ : ∃ wo : World, wo = w := ⟨_, rfl⟩
  have HE0 := fun q (hq : q ≠ 0) => unpF_loop h q hq
  have HE1 := fun l => unpF_end (l := l) h
  have hcA := cutA_le s 35
  have hcR := cutR_le s 35
  have hi : ∃ i : Nat, ixB s 35 = i ∧ i < s.size := by
    rcases ixB_cases s 35 with h1 | h1
    · exact absurd (.inl (cutK_miss h1)) h
    · exact h1
  obtain ⟨i, hi, hlt⟩ := hi
  have HX := ix35 s wo
  rw [hi] at HX
  have HX := Lib.hid HX
  have hA0 := (cutA_hit hi).symm
  have hR0 := (cutR_hit hi).symm
  have HN := fun W (hx : Ext wo W) => decimal_any (cutR s 35) W (by omega) (HV.ext hx)
  have hii : (i : Int) ≤ (s.size : Int) := by omega
  have hii2 : (i : Int) + 1 ≤ (s.size : Int) := by omega
  have e5 : ((i : Int) + 1).toNat = i + 1 := by omega
  have hsz : (s.size : Int) ≤ 140737488355328 := by omega
  generalize cutA s 35 = A at *
  generalize cutR s 35 = R at *
  obtain ⟨N, hn⟩ : ∃ N, numO R = some N := by
    cases hn : numO R with
    | none => exact absurd (.inr (.inl hn)) h
    | some N => exact ⟨N, rfl⟩
  have hend : A.size = 0 ∨ (A.size ≠ 0 ∧ endsB A 59 = true) := by
    by_cases h0 : A.size = 0
    · exact .inl h0
    · refine .inr ⟨h0, ?_⟩
      cases he : endsB A 59 with
      | true => rfl
      | false => exact absurd (.inr (.inr ⟨h0, he⟩)) h
  obtain ⟨F, hF⟩ : ∃ F, unpL A [] (-1) = F := ⟨_, rfl⟩
  rw [hF] at HE0 HE1
  rw [hn] at HE1
  have HE0 := Lib.hid HE0
  have HE1 := Lib.hid HE1
  have HFF := Lib.hid hF
  have hN := Lib.hid hn
  have HN := Lib.hid HN
  have HVV := Lib.hid (fun W (hx : Ext wo W) => HV.ext hx)
  have HSM := Lib.hid (fun W q (hq : Hid (sumF A = q)) => tableSum_any A W (by omega) q hq)
  have HEND := Lib.hid (show A.size = 0 ∨ endsB A 59 = true from hend.imp id (·.2))
  clear HV h hF hn hi hlt
  rcases hend with h0 | ⟨h0, he⟩
  · have hAe := isEmpty_zero h0
    clear h0
    go_enter Tryd.func7, Tryd.ntmps7
    go_wp2_with fail
    refine HX.out.mono ?_
    rintro e w1 ⟨rfl, rfl⟩
    go_wp2_with fail
    refine (HN.out _ (Ext.refl _)).mono ?_
    rintro e w2 ⟨m, rfl, hm, X02⟩
    obtain rfl := hm N hN.out
    rw [hN.out]
    simp only [Option.isSome_some]
    clear hm
    go_wp2_with fail
    clear hAe hA0 hR0 hii hii2 e5 hsz
    go_loopw [8, 9] (fun o r wr => ∃ (rest : ByteArray) (out : List Int) (last : Int), r = .string rest ∧ wr.ownsRow w2.heap.size 3 1 o out.length (out.map (Value.int .i64)) ∧ Hid ((out = [] ∧ last = -1) ∨ ∃ o', out = o' ++ [last]) ∧ out.length ≤ 4096 ∧ rest.size ≤ 140737488355328 ∧ Hid (rest.size = 0 ∨ endsB rest 59 = true) ∧ Ext w2 wr ∧ Hid (unpL rest out last = F)) (fun _ r _ => strM r)
    case atStart => exact ⟨A, [], -1, rfl, ⟨rfl, .inl ⟨rfl, rfl⟩⟩, .inl ⟨rfl, rfl⟩, by simp, by omega, HEND.out, Ext.refl _, HFF.out⟩
    case round =>
      obtain ⟨rest, out, last, rfl, HO, HLA, hol, hrs, HRE, X, HI⟩ := hrel
      obtain ⟨wr0, rfl⟩ : ∃ wr0 : World, wr0 = wr := ⟨_, rfl⟩
      by_cases h0 : rest.size = 0
      · have hre := isEmpty_zero h0
        have hFe : F = (0, out) := by rw [← HI.out, unpL_nil h0]
        have HEE := HE1.out out hFe
        obtain ⟨q, hq⟩ : ∃ q, Hid (sumF A = q) := ⟨_, rfl⟩
        rw [hq.out] at HEE
        by_cases hqn : N = q
        · subst hqn
          rw [if_pos rfl] at HEE
          have HEE := Lib.hid HEE
          have hnn : ((N : Int) != (N : Int)) = false := by simp
          clear h0 hFe
          go_wp2_with fail
          refine (HSM.out _ N hq).mono ?_
          rintro e w5 ⟨rfl, rfl⟩
          go_wp2_with fail
          go_ret2
          exact ⟨_, by rw [HEE.out]; rfl, X02.trans X, by rw [HEE.out]; exact own_rowOf HO (by omega)⟩
        · rw [if_neg (by intro e; exact hqn (Option.some.inj e))] at HEE
          have HEE := Lib.hid HEE
          have hnn : ((q : Int) != (N : Int)) = true := by simp; omega
          clear h0 hFe hqn
          go_wp2_with fail
          refine (HSM.out _ q hq).mono ?_
          rintro e w5 ⟨rfl, rfl⟩
          go_wp2_with fail
          go_ret2
          exact unpPost_err HEE (X02.trans X)
      · have hre := isEmpty_pos h0
        have hre1 : endsB rest 59 = true := HRE.out.resolve_left h0
        obtain ⟨i2, hi2, hlt2⟩ := ends_ix hre1
        have HRE2 := Lib.hid (ends_cutR hre1)
        have U0 := fun hr => (unpL_none (last := last) (out := out) h0 hr).symm.trans HI.out
        have U1 := fun n k hr hl => (unpL_large (last := last) (out := out) (n := n) (k := k) h0 hr hl).symm.trans HI.out
        have U2 := fun n k hr hl => (unpL_next (last := last) (out := out) (n := n) (k := k) h0 hr hl).symm.trans HI.out
        have c1 := cutR_lt 59 h0
        have c2 := cutA_le rest 59
        have c3 := cutA_le (cutA rest 59) 120
        have c4 := cutR_le (cutA rest 59) 120
        have K1 := fun W => ix59 rest W
        rw [hi2] at K1
        have K2 := fun W => ix120 (cutA rest 59) W
        have K3 := fun W (hx : Ext w1 W) => decimal_any (cutA (cutA rest 59) 120) W (by omega) (HVV.out W hx)
        have K4 := fun W (hx : Ext w1 W) => decimal_any (cutR (cutA rest 59) 120) W (by omega) (HVV.out W hx)
        have K5 := fun W (hx : Ext w1 W) => decimal_any ⟨#[49]⟩ W (by decide) (HVV.out W hx)
        have hrun : runO (cutA rest 59) last = match numO (cutA (cutA rest 59) 120), cntO (cutA rest 59) with
            | some n, some k => if 9999 < n ∨ (n : Int) = last then none else some (n, k)
            | _, _ => none := rfl
        have hcnt : cntO (cutA rest 59) = if cutK (cutA rest 59) 120 = true then (match numO (cutR (cutA rest 59) 120) with | some k => if 1 < k then some k else none | none => none) else some 1 := rfl
        have hcle := fun k => cntO_le (run := cutA rest 59) (k := k)
        have hR1 := (cutA_hit hi2).symm
        have hR2 := (cutR_hit hi2).symm
        have hg1 : (i2 : Int) ≤ (rest.size : Int) := by omega
        have hg2 : (i2 : Int) + 1 ≤ (rest.size : Int) := by omega
        have hg3 : ((i2 : Int) + 1).toNat = i2 + 1 := by omega
        have hg4 : (rest.size : Int) ≤ 140737488355328 := by omega
        have hxx := ixB_cases (cutA rest 59) 120
        have hVm := fun h => cutA_miss (s := cutA rest 59) (c := 120) h
        have hKm := fun h => cutK_miss (s := cutA rest 59) (c := 120) h
        have hVh := fun i h => cutA_hit (s := cutA rest 59) (c := 120) (i := i) h
        have hCh := fun i h => cutR_hit (s := cutA rest 59) (c := 120) (i := i) h
        have hKh := fun i h => cutK_hit (s := cutA rest 59) (c := 120) (i := i) h
        generalize cutA (cutA rest 59) 120 = V at *
        generalize cutR (cutA rest 59) 120 = C at *
        generalize cutK (cutA rest 59) 120 = K at *
        generalize runO (cutA rest 59) last = RO at *
        generalize cntO (cutA rest 59) = CO at *
        generalize cutA rest 59 = R1 at *
        generalize cutR rest 59 = R2 at *
        have U0 := Lib.hid U0
        have U1 := Lib.hid U1
        have U2 := Lib.hid U2
        have K1 := Lib.hid K1
        have K3 := Lib.hid K3
        have K4 := Lib.hid K4
        have K5 := Lib.hid K5
        have HRU := Lib.hid hrun
        have HCN := Lib.hid hcnt
        have HCL := Lib.hid hcle
        have HOO := Lib.hid HO
        have XX := Lib.hid (X02.trans X)
        clear hrun hcnt hcle HO h0 hi2 hre1
        rcases hxx with hx | ⟨j, hx, hj⟩
        · have hV0 := hVm hx
          have hK0 := hKm hx
          subst hV0
          subst hK0
          rw [hx] at K2
          have K2 := Lib.hid K2
          clear hVm hKm hVh hCh hKh hx
          go_wp2_with fail
          refine (K1.out _).mono ?_
          rintro e w3 ⟨rfl, rfl⟩
          go_wp2_with fail
          refine (K2.out _).mono ?_
          rintro e w4 ⟨rfl, rfl⟩
          go_wp2_with fail
          refine (K3.out _ XX.out).mono ?_
          rintro e w5 ⟨nv, rfl, hnv, X5⟩
          have XB := XX.out.trans X5
          have HNV := Lib.hid hnv
          clear hnv
          have hpart : numO V = none ∨ ∃ n, numO V = some n := by cases numO V <;> simp
          rcases hpart with hV | ⟨n, hV⟩
          · have hRO : RO = none := by rw [HRU.out, hV]
            have HEE := HE0.out 5 (by decide) (U0.out hRO).symm
            have HV1 := Lib.hid hV
            clear hRO hV
            rw [HV1.out]
            simp only [Option.isSome_none, Option.isSome_some]
            go_wp2_with fail
            refine (K5.out _ XB).mono ?_
            rintro e w6 ⟨kv, rfl, hkv, X6⟩
            have XC := XB.trans X6
            have XR2 := X5.trans X6
            clear X6
            rw [one_num]
            simp only [Option.isSome_some]
            go_wp2_with fail
            go_ret2
            exact unpPost_err HEE XC
          · have hCO : CO = some 1 := by rw [HCN.out]; rfl
            obtain rfl := HNV.out n hV
            have HV1 := Lib.hid hV
            clear hV
            rw [HV1.out]
            simp only [Option.isSome_some]
            go_wp2_with fail
            refine (K5.out _ XB).mono ?_
            rintro e w6 ⟨kv, rfl, hkv, X6⟩
            have XC := XB.trans X6
            have XR2 := X5.trans X6
            clear X6
            obtain rfl := hkv 1 one_num
            rw [one_num]
            simp only [Option.isSome_some]
            clear hkv

            have HK := Lib.hid hCO
            obtain ⟨hk1, hk9⟩ := HCL.out _ hCO
            clear hCO
            by_cases hn9 : 9999 < n
            · have hRO : RO = none := by rw [HRU.out, HV1.out, HK.out]; exact if_pos (.inl hn9)
              have HEE := HE0.out 5 (by decide) (U0.out hRO).symm
              have hni : (9999 : Int) < (n : Int) := by omega
              clear hRO
              go_wp2_with fail
              go_ret2
              exact unpPost_err HEE XC
            · have hni : (n : Int) ≤ 9999 := by omega
              have HOW := own_ext HOO.out XR2
              rcases HLA.out with ⟨ho0, hl0⟩ | ⟨o', ho'⟩
              · have hRO : RO = some (n, 1) := by rw [HRU.out, HV1.out, HK.out]; exact if_neg (fun h => h.elim hn9 (by omega))
                have hm : out.length = 0 := by rw [ho0]; rfl
                obtain ⟨oa, oc, rfl⟩ := own_shape HOO.out
                rw [hm] at HOW
                clear ho0 hl0
                by_cases hk4 : 4096 < 1
                · exfalso; omega
                · have hki4 : ((1 : Nat) : Int) ≤ 4096 := by omega
                  by_cases hlg : 4096 < out.length + 1
                  · exfalso; omega
                  · have hnext := Lib.hid (U2.out n 1 hRO hlg)
                    have hlgi : (0 : Int) + ((1 : Nat) : Int) ≤ 4096 := by omega
                    clear hRO
                    have XW := X.trans XR2
                    go_wp2_with fail
                    go_loopw [8, 125] (fun o jv wr => ∃ (j : Nat), j ≤ 1 ∧ jv = .int .i64 j ∧ wr.ownsRow w2.heap.size 3 1 o (0 + j) (repC out j n) ∧ Ext w2 wr) (fun _ jv _ => 1 - (intOf jv).toNat)
                    case atStart => exact ⟨0, Nat.zero_le _, rfl, own_cast HOW (by simp [repC]) rfl, XW⟩
                    case round =>
                      obtain ⟨j, hj, rfl, HOJ, XJ⟩ := hrel
                      have hsj := XJ.size
                      by_cases hjk : j < 1
                      · have hji : (j : Int) < ((1 : Nat) : Int) := by omega
                        go_wp2_with (at_builtin; refine wp_app1 (s := .tmp 127) (x := .tmp 129) (y := .int .i64 n) rfl rfl ei_ints HOJ rfl rfl rfl rfl (by omega) (by omega) (by omega) ?_; intro v' w' hown hgrew)
                        go_roundw
                        case rel => exact ⟨j + 1, by omega, by go_num, own_cast hown (repC_succ out j n) (by omega), hgrew.extNew XJ HOJ (Nat.le_refl _)⟩
                        case measure => simp [intOf]; omega
                      · obtain rfl : j = 1 := by omega
                        have hrl : Hid (∃ o', out ++ List.replicate 1 (n : Int) = o' ++ [(n : Int)]) := by
                          show ∃ o', _
                          obtain ⟨q, hq⟩ : ∃ q, 1 = q + 1 := ⟨1 - 1, by omega⟩
                          exact ⟨out ++ List.replicate q (n : Int), by rw [hq, List.replicate_succ', List.append_assoc]⟩
                        have hrlen : Hid ((out ++ List.replicate 1 (n : Int)).length = 0 + 1) := by show _ = _; rw [List.length_append, List.length_replicate, hm]
                        have hrle : 0 + 1 ≤ 4096 := by omega
                        go_wp2_with fail
                        go_roundw
                        case rel => exact ⟨R2, out ++ List.replicate 1 (n : Int), n, rfl, own_cast HOJ rfl hrlen.out.symm, .inr hrl.out, by rw [hrlen.out]; exact hrle, by omega, HRE2.out, XJ, hnext⟩
                        case measure => simp [strM]; omega
              · obtain ⟨m, hm⟩ : ∃ m, out.length = m + 1 := ⟨o'.length, by rw [ho', List.length_append]; rfl⟩
                obtain ⟨g, cap, rfl, hg1, hg2⟩ := own_open HOO.out (by omega)
                have hcl := XR2.cell (own_cell HOO.out (j := m) (x := .int .i64 last) (by
                  show _ = _
                  have hmo : m = o'.length := by have := congrArg List.length ho'; rw [List.length_append] at this; simp at this; omega
                  rw [ho', List.map_append, List.getElem?_append_right (by rw [List.length_map]; omega), List.length_map, hmo, Nat.sub_self]; rfl))
                rw [hm] at HOW
                clear ho'
                by_cases hnl : (n : Int) = last
                · have hRO : RO = none := by rw [HRU.out, HV1.out, HK.out]; exact if_pos (.inr hnl)
                  have HEE := HE0.out 5 (by decide) (U0.out hRO).symm
                  subst hnl
                  have hnb : ((n : Int) == (n : Int)) = true := by simp
                  clear hRO
                  go_wp2_with fail
                  go_ret2
                  exact unpPost_err HEE XC
                · have hRO : RO = some (n, 1) := by rw [HRU.out, HV1.out, HK.out]; exact if_neg (fun h => h.elim hn9 hnl)
                  have hnb : (last == (n : Int)) = false := by rw [beq_eq_false_iff_ne]; exact fun e => hnl e.symm
                  clear hnl
                  by_cases hk4 : 4096 < 1
                  · exfalso; omega
                  · have hki4 : ((1 : Nat) : Int) ≤ 4096 := by omega
                    by_cases hlg : 4096 < out.length + 1
                    · have HEE := HE0.out 2 (by decide) (U1.out n 1 hRO hlg).symm
                      have hlgi : (4096 : Int) < ((m : Int) + 1 : Int) + ((1 : Nat) : Int) := by omega
                      clear hRO
                      go_wp2_with fail
                      go_ret2
                      exact unpPost_err HEE XC
                    · have hnext := Lib.hid (U2.out n 1 hRO hlg)
                      have hlgi : ((m : Int) + 1 : Int) + ((1 : Nat) : Int) ≤ 4096 := by omega
                      clear hRO
                      have XW := X.trans XR2
                      go_wp2_with fail
                      go_loopw [8, 125] (fun o jv wr => ∃ (j : Nat), j ≤ 1 ∧ jv = .int .i64 j ∧ wr.ownsRow w2.heap.size 3 1 o (m + 1 + j) (repC out j n) ∧ Ext w2 wr) (fun _ jv _ => 1 - (intOf jv).toNat)
                      case atStart => exact ⟨0, Nat.zero_le _, rfl, own_cast HOW (by simp [repC]) rfl, XW⟩
                      case round =>
                        obtain ⟨j, hj, rfl, HOJ, XJ⟩ := hrel
                        have hsj := XJ.size
                        by_cases hjk : j < 1
                        · have hji : (j : Int) < ((1 : Nat) : Int) := by omega
                          go_wp2_with (at_builtin; refine wp_app1 (s := .tmp 127) (x := .tmp 129) (y := .int .i64 n) rfl rfl ei_ints HOJ rfl rfl rfl rfl (by omega) (by omega) (by omega) ?_; intro v' w' hown hgrew)
                          go_roundw
                          case rel => exact ⟨j + 1, by omega, by go_num, own_cast hown (repC_succ out j n) (by omega), hgrew.extNew XJ HOJ (Nat.le_refl _)⟩
                          case measure => simp [intOf]; omega
                        · obtain rfl : j = 1 := by omega
                          have hrl : Hid (∃ o', out ++ List.replicate 1 (n : Int) = o' ++ [(n : Int)]) := by
                            show ∃ o', _
                            obtain ⟨q, hq⟩ : ∃ q, 1 = q + 1 := ⟨1 - 1, by omega⟩
                            exact ⟨out ++ List.replicate q (n : Int), by rw [hq, List.replicate_succ', List.append_assoc]⟩
                          have hrlen : Hid ((out ++ List.replicate 1 (n : Int)).length = m + 1 + 1) := by show _ = _; rw [List.length_append, List.length_replicate, hm]
                          have hrle : m + 1 + 1 ≤ 4096 := by omega
                          go_wp2_with fail
                          go_roundw
                          case rel => exact ⟨R2, out ++ List.replicate 1 (n : Int), n, rfl, own_cast HOJ rfl hrlen.out.symm, .inr hrl.out, by rw [hrlen.out]; exact hrle, by omega, HRE2.out, XJ, hnext⟩
                          case measure => simp [strM]; omega
        · have hV0 := (hVh j hx).symm
          have hC0 := (hCh j hx).symm
          have hK0 := hKh j hx
          subst hK0
          rw [hx] at K2
          have K2 := Lib.hid K2
          have hj1 : (j : Int) ≤ (R1.size : Int) := by omega
          have hj2 : (j : Int) + 1 ≤ (R1.size : Int) := by omega
          have hj3 : ((j : Int) + 1).toNat = j + 1 := by omega
          have hj4 : (R1.size : Int) ≤ 140737488355328 := by omega
          clear hVm hKm hVh hCh hKh hx
          go_wp2_with fail
          refine (K1.out _).mono ?_
          rintro e w3 ⟨rfl, rfl⟩
          go_wp2_with fail
          refine (K2.out _).mono ?_
          rintro e w4 ⟨rfl, rfl⟩
          go_wp2_with fail
          go_quiet (fail)
          go_wp2_with fail
          have XX2 := XX.out.drewN 1
          refine (K3.out _ (by exact Ext.drewN XX.out _)).mono ?_
          rintro e w5 ⟨nv, rfl, hnv, X5⟩
          replace X5 : Ext w4 w5 := ((Ext.refl w4).drewN _).trans X5
          have XB := XX.out.trans X5
          have HNV := Lib.hid hnv
          clear hnv hV0 hC0 hj1 hj2 hj3 hj4
          have hpart : numO V = none ∨ (∃ n, numO V = some n ∧ numO C = none) ∨ (∃ n k, numO V = some n ∧ numO C = some k ∧ k ≤ 1) ∨ (∃ n k, numO V = some n ∧ numO C = some k ∧ 1 < k) := by
            cases hV : numO V with
            | none => simp
            | some n =>
              cases hC : numO C with
              | none => simp
              | some k =>
                by_cases hk : 1 < k
                · exact .inr (.inr (.inr ⟨n, k, rfl, rfl, hk⟩))
                · exact .inr (.inr (.inl ⟨n, k, rfl, rfl, by omega⟩))
          rcases hpart with hV | ⟨n, hV, hC⟩ | ⟨n, k, hV, hC, hk⟩ | ⟨n, k, hV, hC, hk⟩
          · have hRO : RO = none := by rw [HRU.out, hV]
            have HEE := HE0.out 5 (by decide) (U0.out hRO).symm
            have HV1 := Lib.hid hV
            clear hRO hV
            rw [HV1.out]
            simp only [Option.isSome_none, Option.isSome_some]
            go_wp2_with fail
            refine (K4.out _ XB).mono ?_
            rintro e w6 ⟨kv, rfl, hkv, X6⟩
            have XC := XB.trans X6
            have XR2 := X5.trans X6
            clear X6
            go_wp2_with fail
            go_ret2
            exact unpPost_err HEE XC
          · have hCO : CO = none := by rw [HCN.out, hC]; rfl
            have HC1 := Lib.hid hC
            clear hC
            have hRO : RO = none := by rw [HRU.out, hV, hCO]
            have HEE := HE0.out 5 (by decide) (U0.out hRO).symm
            have HV1 := Lib.hid hV
            clear hRO hV
            rw [HV1.out]
            simp only [Option.isSome_none, Option.isSome_some]
            go_wp2_with fail
            refine (K4.out _ XB).mono ?_
            rintro e w6 ⟨kv, rfl, hkv, X6⟩
            have XC := XB.trans X6
            have XR2 := X5.trans X6
            clear X6
            rw [HC1.out]
            simp only [Option.isSome_none]
            go_wp2_with fail
            go_ret2
            exact unpPost_err HEE XC
          · have hCO : CO = none := by rw [HCN.out, hC]; show (if 1 < k then some k else none) = none; exact if_neg (by omega)
            have HC1 := Lib.hid hC
            have hki : (k : Int) < 2 := by omega
            clear hC
            obtain rfl := HNV.out n hV
            have hRO : RO = none := by rw [HRU.out, hV, hCO]
            have HEE := HE0.out 5 (by decide) (U0.out hRO).symm
            have HV1 := Lib.hid hV
            clear hRO hV
            rw [HV1.out]
            simp only [Option.isSome_none, Option.isSome_some]
            go_wp2_with fail
            refine (K4.out _ XB).mono ?_
            rintro e w6 ⟨kv, rfl, hkv, X6⟩
            have XC := XB.trans X6
            have XR2 := X5.trans X6
            clear X6
            obtain rfl := hkv k HC1.out
            rw [HC1.out]
            simp only [Option.isSome_some]
            clear hkv
            by_cases hn9 : (9999 : Int) < (n : Int)
            · go_wp2_with fail
              go_ret2
              exact unpPost_err HEE XC
            · have hn9 : (n : Int) ≤ 9999 := by omega
              go_wp2_with fail
              go_ret2
              exact unpPost_err HEE XC
          · have hCO : CO = some k := by rw [HCN.out, hC]; show (if 1 < k then some k else none) = some k; exact if_pos hk
            have HC1 := Lib.hid hC
            have hki : (2 : Int) ≤ (k : Int) := by omega
            obtain rfl := HNV.out n hV
            have HV1 := Lib.hid hV
            clear hC hV
            rw [HV1.out]
            simp only [Option.isSome_some]
            go_wp2_with fail
            refine (K4.out _ XB).mono ?_
            rintro e w6 ⟨kv, rfl, hkv, X6⟩
            have XC := XB.trans X6
            have XR2 := X5.trans X6
            clear X6
            obtain rfl := hkv k HC1.out
            rw [HC1.out]
            simp only [Option.isSome_some]
            clear hkv

            have HK := Lib.hid hCO
            obtain ⟨hk1, hk9⟩ := HCL.out _ hCO
            clear hCO
            by_cases hn9 : 9999 < n
            · have hRO : RO = none := by rw [HRU.out, HV1.out, HK.out]; exact if_pos (.inl hn9)
              have HEE := HE0.out 5 (by decide) (U0.out hRO).symm
              have hni : (9999 : Int) < (n : Int) := by omega
              clear hRO
              go_wp2_with fail
              go_ret2
              exact unpPost_err HEE XC
            · have hni : (n : Int) ≤ 9999 := by omega
              have HOW := own_ext HOO.out XR2
              rcases HLA.out with ⟨ho0, hl0⟩ | ⟨o', ho'⟩
              · have hRO : RO = some (n, k) := by rw [HRU.out, HV1.out, HK.out]; exact if_neg (fun h => h.elim hn9 (by omega))
                have hm : out.length = 0 := by rw [ho0]; rfl
                obtain ⟨oa, oc, rfl⟩ := own_shape HOO.out
                rw [hm] at HOW
                clear ho0 hl0
                by_cases hk4 : 4096 < k
                · have HEE := HE0.out 2 (by decide) (U1.out n k hRO (by omega)).symm
                  have hki4 : (4096 : Int) < ((k : Nat) : Int) := by omega
                  clear hRO
                  go_wp2_with fail
                  go_ret2
                  exact unpPost_err HEE XC
                · have hki4 : ((k : Nat) : Int) ≤ 4096 := by omega
                  by_cases hlg : 4096 < out.length + k
                  · exfalso; omega
                  · have hnext := Lib.hid (U2.out n k hRO hlg)
                    have hlgi : (0 : Int) + ((k : Nat) : Int) ≤ 4096 := by omega
                    clear hRO
                    have XW := X.trans XR2
                    go_wp2_with fail
                    go_loopw [8, 125] (fun o jv wr => ∃ (j : Nat), j ≤ k ∧ jv = .int .i64 j ∧ wr.ownsRow w2.heap.size 3 1 o (0 + j) (repC out j n) ∧ Ext w2 wr) (fun _ jv _ => k - (intOf jv).toNat)
                    case atStart => exact ⟨0, Nat.zero_le _, rfl, own_cast HOW (by simp [repC]) rfl, XW⟩
                    case round =>
                      obtain ⟨j, hj, rfl, HOJ, XJ⟩ := hrel
                      have hsj := XJ.size
                      by_cases hjk : j < k
                      · have hji : (j : Int) < ((k : Nat) : Int) := by omega
                        go_wp2_with (at_builtin; refine wp_app1 (s := .tmp 127) (x := .tmp 129) (y := .int .i64 n) rfl rfl ei_ints HOJ rfl rfl rfl rfl (by omega) (by omega) (by omega) ?_; intro v' w' hown hgrew)
                        go_roundw
                        case rel => exact ⟨j + 1, by omega, by go_num, own_cast hown (repC_succ out j n) (by omega), hgrew.extNew XJ HOJ (Nat.le_refl _)⟩
                        case measure => simp [intOf]; omega
                      · obtain rfl : j = k := by omega
                        have hrl : Hid (∃ o', out ++ List.replicate j (n : Int) = o' ++ [(n : Int)]) := by
                          show ∃ o', _
                          obtain ⟨q, hq⟩ : ∃ q, j = q + 1 := ⟨j - 1, by omega⟩
                          exact ⟨out ++ List.replicate q (n : Int), by rw [hq, List.replicate_succ', List.append_assoc]⟩
                        have hrlen : Hid ((out ++ List.replicate j (n : Int)).length = 0 + j) := by show _ = _; rw [List.length_append, List.length_replicate, hm]
                        have hrle : 0 + j ≤ 4096 := by omega
                        go_wp2_with fail
                        go_roundw
                        case rel => exact ⟨R2, out ++ List.replicate j (n : Int), n, rfl, own_cast HOJ rfl hrlen.out.symm, .inr hrl.out, by rw [hrlen.out]; exact hrle, by omega, HRE2.out, XJ, hnext⟩
                        case measure => simp [strM]; omega
              · obtain ⟨m, hm⟩ : ∃ m, out.length = m + 1 := ⟨o'.length, by rw [ho', List.length_append]; rfl⟩
                obtain ⟨g, cap, rfl, hg1, hg2⟩ := own_open HOO.out (by omega)
                have hcl := XR2.cell (own_cell HOO.out (j := m) (x := .int .i64 last) (by
                  show _ = _
                  have hmo : m = o'.length := by have := congrArg List.length ho'; rw [List.length_append] at this; simp at this; omega
                  rw [ho', List.map_append, List.getElem?_append_right (by rw [List.length_map]; omega), List.length_map, hmo, Nat.sub_self]; rfl))
                rw [hm] at HOW
                clear ho'
                by_cases hnl : (n : Int) = last
                · have hRO : RO = none := by rw [HRU.out, HV1.out, HK.out]; exact if_pos (.inr hnl)
                  have HEE := HE0.out 5 (by decide) (U0.out hRO).symm
                  subst hnl
                  have hnb : ((n : Int) == (n : Int)) = true := by simp
                  clear hRO
                  go_wp2_with fail
                  go_ret2
                  exact unpPost_err HEE XC
                · have hRO : RO = some (n, k) := by rw [HRU.out, HV1.out, HK.out]; exact if_neg (fun h => h.elim hn9 hnl)
                  have hnb : (last == (n : Int)) = false := by rw [beq_eq_false_iff_ne]; exact fun e => hnl e.symm
                  clear hnl
                  by_cases hk4 : 4096 < k
                  · have HEE := HE0.out 2 (by decide) (U1.out n k hRO (by omega)).symm
                    have hki4 : (4096 : Int) < ((k : Nat) : Int) := by omega
                    clear hRO
                    go_wp2_with fail
                    go_ret2
                    exact unpPost_err HEE XC
                  · have hki4 : ((k : Nat) : Int) ≤ 4096 := by omega
                    by_cases hlg : 4096 < out.length + k
                    · have HEE := HE0.out 2 (by decide) (U1.out n k hRO hlg).symm
                      have hlgi : (4096 : Int) < ((m : Int) + 1 : Int) + ((k : Nat) : Int) := by omega
                      clear hRO
                      go_wp2_with fail
                      go_ret2
                      exact unpPost_err HEE XC
                    · have hnext := Lib.hid (U2.out n k hRO hlg)
                      have hlgi : ((m : Int) + 1 : Int) + ((k : Nat) : Int) ≤ 4096 := by omega
                      clear hRO
                      have XW := X.trans XR2
                      go_wp2_with fail
                      go_loopw [8, 125] (fun o jv wr => ∃ (j : Nat), j ≤ k ∧ jv = .int .i64 j ∧ wr.ownsRow w2.heap.size 3 1 o (m + 1 + j) (repC out j n) ∧ Ext w2 wr) (fun _ jv _ => k - (intOf jv).toNat)
                      case atStart => exact ⟨0, Nat.zero_le _, rfl, own_cast HOW (by simp [repC]) rfl, XW⟩
                      case round =>
                        obtain ⟨j, hj, rfl, HOJ, XJ⟩ := hrel
                        have hsj := XJ.size
                        by_cases hjk : j < k
                        · have hji : (j : Int) < ((k : Nat) : Int) := by omega
                          go_wp2_with (at_builtin; refine wp_app1 (s := .tmp 127) (x := .tmp 129) (y := .int .i64 n) rfl rfl ei_ints HOJ rfl rfl rfl rfl (by omega) (by omega) (by omega) ?_; intro v' w' hown hgrew)
                          go_roundw
                          case rel => exact ⟨j + 1, by omega, by go_num, own_cast hown (repC_succ out j n) (by omega), hgrew.extNew XJ HOJ (Nat.le_refl _)⟩
                          case measure => simp [intOf]; omega
                        · obtain rfl : j = k := by omega
                          have hrl : Hid (∃ o', out ++ List.replicate j (n : Int) = o' ++ [(n : Int)]) := by
                            show ∃ o', _
                            obtain ⟨q, hq⟩ : ∃ q, j = q + 1 := ⟨j - 1, by omega⟩
                            exact ⟨out ++ List.replicate q (n : Int), by rw [hq, List.replicate_succ', List.append_assoc]⟩
                          have hrlen : Hid ((out ++ List.replicate j (n : Int)).length = m + 1 + j) := by show _ = _; rw [List.length_append, List.length_replicate, hm]
                          have hrle : m + 1 + j ≤ 4096 := by omega
                          go_wp2_with fail
                          go_roundw
                          case rel => exact ⟨R2, out ++ List.replicate j (n : Int), n, rfl, own_cast HOJ rfl hrlen.out.symm, .inr hrl.out, by rw [hrlen.out]; exact hrle, by omega, HRE2.out, XJ, hnext⟩
                          case measure => simp [strM]; omega
  · have hAe := isEmpty_pos h0
    have hA1 : A.size - 1 < A.size := by omega
    have hbn := byte_eq ((ends_last hA1).1 he)
    clear he h0
    go_enter Tryd.func7, Tryd.ntmps7
    go_wp2_with fail
    refine HX.out.mono ?_
    rintro e w1 ⟨rfl, rfl⟩
    go_wp2_with fail
    refine (HN.out _ (Ext.refl _)).mono ?_
    rintro e w2 ⟨m, rfl, hm, X02⟩
    obtain rfl := hm N hN.out
    rw [hN.out]
    simp only [Option.isSome_some]
    clear hm
    go_wp2_with fail
    clear hAe hA0 hR0 hii hii2 e5 hsz
    go_loopw [8, 9] (fun o r wr => ∃ (rest : ByteArray) (out : List Int) (last : Int), r = .string rest ∧ wr.ownsRow w2.heap.size 3 1 o out.length (out.map (Value.int .i64)) ∧ Hid ((out = [] ∧ last = -1) ∨ ∃ o', out = o' ++ [last]) ∧ out.length ≤ 4096 ∧ rest.size ≤ 140737488355328 ∧ Hid (rest.size = 0 ∨ endsB rest 59 = true) ∧ Ext w2 wr ∧ Hid (unpL rest out last = F)) (fun _ r _ => strM r)
    case atStart => exact ⟨A, [], -1, rfl, ⟨rfl, .inl ⟨rfl, rfl⟩⟩, .inl ⟨rfl, rfl⟩, by simp, by omega, HEND.out, Ext.refl _, HFF.out⟩
    case round =>
      obtain ⟨rest, out, last, rfl, HO, HLA, hol, hrs, HRE, X, HI⟩ := hrel
      obtain ⟨wr0, rfl⟩ : ∃ wr0 : World, wr0 = wr := ⟨_, rfl⟩
      by_cases h0 : rest.size = 0
      · have hre := isEmpty_zero h0
        have hFe : F = (0, out) := by rw [← HI.out, unpL_nil h0]
        have HEE := HE1.out out hFe
        obtain ⟨q, hq⟩ : ∃ q, Hid (sumF A = q) := ⟨_, rfl⟩
        rw [hq.out] at HEE
        by_cases hqn : N = q
        · subst hqn
          rw [if_pos rfl] at HEE
          have HEE := Lib.hid HEE
          have hnn : ((N : Int) != (N : Int)) = false := by simp
          clear h0 hFe
          go_wp2_with fail
          refine (HSM.out _ N hq).mono ?_
          rintro e w5 ⟨rfl, rfl⟩
          go_wp2_with fail
          go_ret2
          exact ⟨_, by rw [HEE.out]; rfl, X02.trans X, by rw [HEE.out]; exact own_rowOf HO (by omega)⟩
        · rw [if_neg (by intro e; exact hqn (Option.some.inj e))] at HEE
          have HEE := Lib.hid HEE
          have hnn : ((q : Int) != (N : Int)) = true := by simp; omega
          clear h0 hFe hqn
          go_wp2_with fail
          refine (HSM.out _ q hq).mono ?_
          rintro e w5 ⟨rfl, rfl⟩
          go_wp2_with fail
          go_ret2
          exact unpPost_err HEE (X02.trans X)
      · have hre := isEmpty_pos h0
        have hre1 : endsB rest 59 = true := HRE.out.resolve_left h0
        obtain ⟨i2, hi2, hlt2⟩ := ends_ix hre1
        have HRE2 := Lib.hid (ends_cutR hre1)
        have U0 := fun hr => (unpL_none (last := last) (out := out) h0 hr).symm.trans HI.out
        have U1 := fun n k hr hl => (unpL_large (last := last) (out := out) (n := n) (k := k) h0 hr hl).symm.trans HI.out
        have U2 := fun n k hr hl => (unpL_next (last := last) (out := out) (n := n) (k := k) h0 hr hl).symm.trans HI.out
        have c1 := cutR_lt 59 h0
        have c2 := cutA_le rest 59
        have c3 := cutA_le (cutA rest 59) 120
        have c4 := cutR_le (cutA rest 59) 120
        have K1 := fun W => ix59 rest W
        rw [hi2] at K1
        have K2 := fun W => ix120 (cutA rest 59) W
        have K3 := fun W (hx : Ext w1 W) => decimal_any (cutA (cutA rest 59) 120) W (by omega) (HVV.out W hx)
        have K4 := fun W (hx : Ext w1 W) => decimal_any (cutR (cutA rest 59) 120) W (by omega) (HVV.out W hx)
        have K5 := fun W (hx : Ext w1 W) => decimal_any ⟨#[49]⟩ W (by decide) (HVV.out W hx)
        have hrun : runO (cutA rest 59) last = match numO (cutA (cutA rest 59) 120), cntO (cutA rest 59) with
            | some n, some k => if 9999 < n ∨ (n : Int) = last then none else some (n, k)
            | _, _ => none := rfl
        have hcnt : cntO (cutA rest 59) = if cutK (cutA rest 59) 120 = true then (match numO (cutR (cutA rest 59) 120) with | some k => if 1 < k then some k else none | none => none) else some 1 := rfl
        have hcle := fun k => cntO_le (run := cutA rest 59) (k := k)
        have hR1 := (cutA_hit hi2).symm
        have hR2 := (cutR_hit hi2).symm
        have hg1 : (i2 : Int) ≤ (rest.size : Int) := by omega
        have hg2 : (i2 : Int) + 1 ≤ (rest.size : Int) := by omega
        have hg3 : ((i2 : Int) + 1).toNat = i2 + 1 := by omega
        have hg4 : (rest.size : Int) ≤ 140737488355328 := by omega
        have hxx := ixB_cases (cutA rest 59) 120
        have hVm := fun h => cutA_miss (s := cutA rest 59) (c := 120) h
        have hKm := fun h => cutK_miss (s := cutA rest 59) (c := 120) h
        have hVh := fun i h => cutA_hit (s := cutA rest 59) (c := 120) (i := i) h
        have hCh := fun i h => cutR_hit (s := cutA rest 59) (c := 120) (i := i) h
        have hKh := fun i h => cutK_hit (s := cutA rest 59) (c := 120) (i := i) h
        generalize cutA (cutA rest 59) 120 = V at *
        generalize cutR (cutA rest 59) 120 = C at *
        generalize cutK (cutA rest 59) 120 = K at *
        generalize runO (cutA rest 59) last = RO at *
        generalize cntO (cutA rest 59) = CO at *
        generalize cutA rest 59 = R1 at *
        generalize cutR rest 59 = R2 at *
        have U0 := Lib.hid U0
        have U1 := Lib.hid U1
        have U2 := Lib.hid U2
        have K1 := Lib.hid K1
        have K3 := Lib.hid K3
        have K4 := Lib.hid K4
        have K5 := Lib.hid K5
        have HRU := Lib.hid hrun
        have HCN := Lib.hid hcnt
        have HCL := Lib.hid hcle
        have HOO := Lib.hid HO
        have XX := Lib.hid (X02.trans X)
        clear hrun hcnt hcle HO h0 hi2 hre1
        rcases hxx with hx | ⟨j, hx, hj⟩
        · have hV0 := hVm hx
          have hK0 := hKm hx
          subst hV0
          subst hK0
          rw [hx] at K2
          have K2 := Lib.hid K2
          clear hVm hKm hVh hCh hKh hx
          go_wp2_with fail
          refine (K1.out _).mono ?_
          rintro e w3 ⟨rfl, rfl⟩
          go_wp2_with fail
          refine (K2.out _).mono ?_
          rintro e w4 ⟨rfl, rfl⟩
          go_wp2_with fail
          refine (K3.out _ XX.out).mono ?_
          rintro e w5 ⟨nv, rfl, hnv, X5⟩
          have XB := XX.out.trans X5
          have HNV := Lib.hid hnv
          clear hnv
          have hpart : numO V = none ∨ ∃ n, numO V = some n := by cases numO V <;> simp
          rcases hpart with hV | ⟨n, hV⟩
          · have hRO : RO = none := by rw [HRU.out, hV]
            have HEE := HE0.out 5 (by decide) (U0.out hRO).symm
            have HV1 := Lib.hid hV
            clear hRO hV
            rw [HV1.out]
            simp only [Option.isSome_none, Option.isSome_some]
            go_wp2_with fail
            refine (K5.out _ XB).mono ?_
            rintro e w6 ⟨kv, rfl, hkv, X6⟩
            have XC := XB.trans X6
            have XR2 := X5.trans X6
            clear X6
            rw [one_num]
            simp only [Option.isSome_some]
            go_wp2_with fail
            go_ret2
            exact unpPost_err HEE XC
          · have hCO : CO = some 1 := by rw [HCN.out]; rfl
            obtain rfl := HNV.out n hV
            have HV1 := Lib.hid hV
            clear hV
            rw [HV1.out]
            simp only [Option.isSome_some]
            go_wp2_with fail
            refine (K5.out _ XB).mono ?_
            rintro e w6 ⟨kv, rfl, hkv, X6⟩
            have XC := XB.trans X6
            have XR2 := X5.trans X6
            clear X6
            obtain rfl := hkv 1 one_num
            rw [one_num]
            simp only [Option.isSome_some]
            clear hkv

            have HK := Lib.hid hCO
            obtain ⟨hk1, hk9⟩ := HCL.out _ hCO
            clear hCO
            by_cases hn9 : 9999 < n
            · have hRO : RO = none := by rw [HRU.out, HV1.out, HK.out]; exact if_pos (.inl hn9)
              have HEE := HE0.out 5 (by decide) (U0.out hRO).symm
              have hni : (9999 : Int) < (n : Int) := by omega
              clear hRO
              go_wp2_with fail
              go_ret2
              exact unpPost_err HEE XC
            · have hni : (n : Int) ≤ 9999 := by omega
              have HOW := own_ext HOO.out XR2
              rcases HLA.out with ⟨ho0, hl0⟩ | ⟨o', ho'⟩
              · have hRO : RO = some (n, 1) := by rw [HRU.out, HV1.out, HK.out]; exact if_neg (fun h => h.elim hn9 (by omega))
                have hm : out.length = 0 := by rw [ho0]; rfl
                obtain ⟨oa, oc, rfl⟩ := own_shape HOO.out
                rw [hm] at HOW
                clear ho0 hl0
                by_cases hk4 : 4096 < 1
                · exfalso; omega
                · have hki4 : ((1 : Nat) : Int) ≤ 4096 := by omega
                  by_cases hlg : 4096 < out.length + 1
                  · exfalso; omega
                  · have hnext := Lib.hid (U2.out n 1 hRO hlg)
                    have hlgi : (0 : Int) + ((1 : Nat) : Int) ≤ 4096 := by omega
                    clear hRO
                    have XW := X.trans XR2
                    go_wp2_with fail
                    go_loopw [8, 125] (fun o jv wr => ∃ (j : Nat), j ≤ 1 ∧ jv = .int .i64 j ∧ wr.ownsRow w2.heap.size 3 1 o (0 + j) (repC out j n) ∧ Ext w2 wr) (fun _ jv _ => 1 - (intOf jv).toNat)
                    case atStart => exact ⟨0, Nat.zero_le _, rfl, own_cast HOW (by simp [repC]) rfl, XW⟩
                    case round =>
                      obtain ⟨j, hj, rfl, HOJ, XJ⟩ := hrel
                      have hsj := XJ.size
                      by_cases hjk : j < 1
                      · have hji : (j : Int) < ((1 : Nat) : Int) := by omega
                        go_wp2_with (at_builtin; refine wp_app1 (s := .tmp 127) (x := .tmp 129) (y := .int .i64 n) rfl rfl ei_ints HOJ rfl rfl rfl rfl (by omega) (by omega) (by omega) ?_; intro v' w' hown hgrew)
                        go_roundw
                        case rel => exact ⟨j + 1, by omega, by go_num, own_cast hown (repC_succ out j n) (by omega), hgrew.extNew XJ HOJ (Nat.le_refl _)⟩
                        case measure => simp [intOf]; omega
                      · obtain rfl : j = 1 := by omega
                        have hrl : Hid (∃ o', out ++ List.replicate 1 (n : Int) = o' ++ [(n : Int)]) := by
                          show ∃ o', _
                          obtain ⟨q, hq⟩ : ∃ q, 1 = q + 1 := ⟨1 - 1, by omega⟩
                          exact ⟨out ++ List.replicate q (n : Int), by rw [hq, List.replicate_succ', List.append_assoc]⟩
                        have hrlen : Hid ((out ++ List.replicate 1 (n : Int)).length = 0 + 1) := by show _ = _; rw [List.length_append, List.length_replicate, hm]
                        have hrle : 0 + 1 ≤ 4096 := by omega
                        go_wp2_with fail
                        go_roundw
                        case rel => exact ⟨R2, out ++ List.replicate 1 (n : Int), n, rfl, own_cast HOJ rfl hrlen.out.symm, .inr hrl.out, by rw [hrlen.out]; exact hrle, by omega, HRE2.out, XJ, hnext⟩
                        case measure => simp [strM]; omega
              · obtain ⟨m, hm⟩ : ∃ m, out.length = m + 1 := ⟨o'.length, by rw [ho', List.length_append]; rfl⟩
                obtain ⟨g, cap, rfl, hg1, hg2⟩ := own_open HOO.out (by omega)
                have hcl := XR2.cell (own_cell HOO.out (j := m) (x := .int .i64 last) (by
                  show _ = _
                  have hmo : m = o'.length := by have := congrArg List.length ho'; rw [List.length_append] at this; simp at this; omega
                  rw [ho', List.map_append, List.getElem?_append_right (by rw [List.length_map]; omega), List.length_map, hmo, Nat.sub_self]; rfl))
                rw [hm] at HOW
                clear ho'
                by_cases hnl : (n : Int) = last
                · have hRO : RO = none := by rw [HRU.out, HV1.out, HK.out]; exact if_pos (.inr hnl)
                  have HEE := HE0.out 5 (by decide) (U0.out hRO).symm
                  subst hnl
                  have hnb : ((n : Int) == (n : Int)) = true := by simp
                  clear hRO
                  go_wp2_with fail
                  go_ret2
                  exact unpPost_err HEE XC
                · have hRO : RO = some (n, 1) := by rw [HRU.out, HV1.out, HK.out]; exact if_neg (fun h => h.elim hn9 hnl)
                  have hnb : (last == (n : Int)) = false := by rw [beq_eq_false_iff_ne]; exact fun e => hnl e.symm
                  clear hnl
                  by_cases hk4 : 4096 < 1
                  · exfalso; omega
                  · have hki4 : ((1 : Nat) : Int) ≤ 4096 := by omega
                    by_cases hlg : 4096 < out.length + 1
                    · have HEE := HE0.out 2 (by decide) (U1.out n 1 hRO hlg).symm
                      have hlgi : (4096 : Int) < ((m : Int) + 1 : Int) + ((1 : Nat) : Int) := by omega
                      clear hRO
                      go_wp2_with fail
                      go_ret2
                      exact unpPost_err HEE XC
                    · have hnext := Lib.hid (U2.out n 1 hRO hlg)
                      have hlgi : ((m : Int) + 1 : Int) + ((1 : Nat) : Int) ≤ 4096 := by omega
                      clear hRO
                      have XW := X.trans XR2
                      go_wp2_with fail
                      go_loopw [8, 125] (fun o jv wr => ∃ (j : Nat), j ≤ 1 ∧ jv = .int .i64 j ∧ wr.ownsRow w2.heap.size 3 1 o (m + 1 + j) (repC out j n) ∧ Ext w2 wr) (fun _ jv _ => 1 - (intOf jv).toNat)
                      case atStart => exact ⟨0, Nat.zero_le _, rfl, own_cast HOW (by simp [repC]) rfl, XW⟩
                      case round =>
                        obtain ⟨j, hj, rfl, HOJ, XJ⟩ := hrel
                        have hsj := XJ.size
                        by_cases hjk : j < 1
                        · have hji : (j : Int) < ((1 : Nat) : Int) := by omega
                          go_wp2_with (at_builtin; refine wp_app1 (s := .tmp 127) (x := .tmp 129) (y := .int .i64 n) rfl rfl ei_ints HOJ rfl rfl rfl rfl (by omega) (by omega) (by omega) ?_; intro v' w' hown hgrew)
                          go_roundw
                          case rel => exact ⟨j + 1, by omega, by go_num, own_cast hown (repC_succ out j n) (by omega), hgrew.extNew XJ HOJ (Nat.le_refl _)⟩
                          case measure => simp [intOf]; omega
                        · obtain rfl : j = 1 := by omega
                          have hrl : Hid (∃ o', out ++ List.replicate 1 (n : Int) = o' ++ [(n : Int)]) := by
                            show ∃ o', _
                            obtain ⟨q, hq⟩ : ∃ q, 1 = q + 1 := ⟨1 - 1, by omega⟩
                            exact ⟨out ++ List.replicate q (n : Int), by rw [hq, List.replicate_succ', List.append_assoc]⟩
                          have hrlen : Hid ((out ++ List.replicate 1 (n : Int)).length = m + 1 + 1) := by show _ = _; rw [List.length_append, List.length_replicate, hm]
                          have hrle : m + 1 + 1 ≤ 4096 := by omega
                          go_wp2_with fail
                          go_roundw
                          case rel => exact ⟨R2, out ++ List.replicate 1 (n : Int), n, rfl, own_cast HOJ rfl hrlen.out.symm, .inr hrl.out, by rw [hrlen.out]; exact hrle, by omega, HRE2.out, XJ, hnext⟩
                          case measure => simp [strM]; omega
        · have hV0 := (hVh j hx).symm
          have hC0 := (hCh j hx).symm
          have hK0 := hKh j hx
          subst hK0
          rw [hx] at K2
          have K2 := Lib.hid K2
          have hj1 : (j : Int) ≤ (R1.size : Int) := by omega
          have hj2 : (j : Int) + 1 ≤ (R1.size : Int) := by omega
          have hj3 : ((j : Int) + 1).toNat = j + 1 := by omega
          have hj4 : (R1.size : Int) ≤ 140737488355328 := by omega
          clear hVm hKm hVh hCh hKh hx
          go_wp2_with fail
          refine (K1.out _).mono ?_
          rintro e w3 ⟨rfl, rfl⟩
          go_wp2_with fail
          refine (K2.out _).mono ?_
          rintro e w4 ⟨rfl, rfl⟩
          go_wp2_with fail
          go_quiet (fail)
          go_wp2_with fail
          have XX2 := XX.out.drewN 1
          refine (K3.out _ (by exact Ext.drewN XX.out _)).mono ?_
          rintro e w5 ⟨nv, rfl, hnv, X5⟩
          replace X5 : Ext w4 w5 := ((Ext.refl w4).drewN _).trans X5
          have XB := XX.out.trans X5
          have HNV := Lib.hid hnv
          clear hnv hV0 hC0 hj1 hj2 hj3 hj4
          have hpart : numO V = none ∨ (∃ n, numO V = some n ∧ numO C = none) ∨ (∃ n k, numO V = some n ∧ numO C = some k ∧ k ≤ 1) ∨ (∃ n k, numO V = some n ∧ numO C = some k ∧ 1 < k) := by
            cases hV : numO V with
            | none => simp
            | some n =>
              cases hC : numO C with
              | none => simp
              | some k =>
                by_cases hk : 1 < k
                · exact .inr (.inr (.inr ⟨n, k, rfl, rfl, hk⟩))
                · exact .inr (.inr (.inl ⟨n, k, rfl, rfl, by omega⟩))
          rcases hpart with hV | ⟨n, hV, hC⟩ | ⟨n, k, hV, hC, hk⟩ | ⟨n, k, hV, hC, hk⟩
          · have hRO : RO = none := by rw [HRU.out, hV]
            have HEE := HE0.out 5 (by decide) (U0.out hRO).symm
            have HV1 := Lib.hid hV
            clear hRO hV
            rw [HV1.out]
            simp only [Option.isSome_none, Option.isSome_some]
            go_wp2_with fail
            refine (K4.out _ XB).mono ?_
            rintro e w6 ⟨kv, rfl, hkv, X6⟩
            have XC := XB.trans X6
            have XR2 := X5.trans X6
            clear X6
            go_wp2_with fail
            go_ret2
            exact unpPost_err HEE XC
          · have hCO : CO = none := by rw [HCN.out, hC]; rfl
            have HC1 := Lib.hid hC
            clear hC
            have hRO : RO = none := by rw [HRU.out, hV, hCO]
            have HEE := HE0.out 5 (by decide) (U0.out hRO).symm
            have HV1 := Lib.hid hV
            clear hRO hV
            rw [HV1.out]
            simp only [Option.isSome_none, Option.isSome_some]
            go_wp2_with fail
            refine (K4.out _ XB).mono ?_
            rintro e w6 ⟨kv, rfl, hkv, X6⟩
            have XC := XB.trans X6
            have XR2 := X5.trans X6
            clear X6
            rw [HC1.out]
            simp only [Option.isSome_none]
            go_wp2_with fail
            go_ret2
            exact unpPost_err HEE XC
          · have hCO : CO = none := by rw [HCN.out, hC]; show (if 1 < k then some k else none) = none; exact if_neg (by omega)
            have HC1 := Lib.hid hC
            have hki : (k : Int) < 2 := by omega
            clear hC
            obtain rfl := HNV.out n hV
            have hRO : RO = none := by rw [HRU.out, hV, hCO]
            have HEE := HE0.out 5 (by decide) (U0.out hRO).symm
            have HV1 := Lib.hid hV
            clear hRO hV
            rw [HV1.out]
            simp only [Option.isSome_none, Option.isSome_some]
            go_wp2_with fail
            refine (K4.out _ XB).mono ?_
            rintro e w6 ⟨kv, rfl, hkv, X6⟩
            have XC := XB.trans X6
            have XR2 := X5.trans X6
            clear X6
            obtain rfl := hkv k HC1.out
            rw [HC1.out]
            simp only [Option.isSome_some]
            clear hkv
            by_cases hn9 : (9999 : Int) < (n : Int)
            · go_wp2_with fail
              go_ret2
              exact unpPost_err HEE XC
            · have hn9 : (n : Int) ≤ 9999 := by omega
              go_wp2_with fail
              go_ret2
              exact unpPost_err HEE XC
          · have hCO : CO = some k := by rw [HCN.out, hC]; show (if 1 < k then some k else none) = some k; exact if_pos hk
            have HC1 := Lib.hid hC
            have hki : (2 : Int) ≤ (k : Int) := by omega
            obtain rfl := HNV.out n hV
            have HV1 := Lib.hid hV
            clear hC hV
            rw [HV1.out]
            simp only [Option.isSome_some]
            go_wp2_with fail
            refine (K4.out _ XB).mono ?_
            rintro e w6 ⟨kv, rfl, hkv, X6⟩
            have XC := XB.trans X6
            have XR2 := X5.trans X6
            clear X6
            obtain rfl := hkv k HC1.out
            rw [HC1.out]
            simp only [Option.isSome_some]
            clear hkv

            have HK := Lib.hid hCO
            obtain ⟨hk1, hk9⟩ := HCL.out _ hCO
            clear hCO
            by_cases hn9 : 9999 < n
            · have hRO : RO = none := by rw [HRU.out, HV1.out, HK.out]; exact if_pos (.inl hn9)
              have HEE := HE0.out 5 (by decide) (U0.out hRO).symm
              have hni : (9999 : Int) < (n : Int) := by omega
              clear hRO
              go_wp2_with fail
              go_ret2
              exact unpPost_err HEE XC
            · have hni : (n : Int) ≤ 9999 := by omega
              have HOW := own_ext HOO.out XR2
              rcases HLA.out with ⟨ho0, hl0⟩ | ⟨o', ho'⟩
              · have hRO : RO = some (n, k) := by rw [HRU.out, HV1.out, HK.out]; exact if_neg (fun h => h.elim hn9 (by omega))
                have hm : out.length = 0 := by rw [ho0]; rfl
                obtain ⟨oa, oc, rfl⟩ := own_shape HOO.out
                rw [hm] at HOW
                clear ho0 hl0
                by_cases hk4 : 4096 < k
                · have HEE := HE0.out 2 (by decide) (U1.out n k hRO (by omega)).symm
                  have hki4 : (4096 : Int) < ((k : Nat) : Int) := by omega
                  clear hRO
                  go_wp2_with fail
                  go_ret2
                  exact unpPost_err HEE XC
                · have hki4 : ((k : Nat) : Int) ≤ 4096 := by omega
                  by_cases hlg : 4096 < out.length + k
                  · exfalso; omega
                  · have hnext := Lib.hid (U2.out n k hRO hlg)
                    have hlgi : (0 : Int) + ((k : Nat) : Int) ≤ 4096 := by omega
                    clear hRO
                    have XW := X.trans XR2
                    go_wp2_with fail
                    go_loopw [8, 125] (fun o jv wr => ∃ (j : Nat), j ≤ k ∧ jv = .int .i64 j ∧ wr.ownsRow w2.heap.size 3 1 o (0 + j) (repC out j n) ∧ Ext w2 wr) (fun _ jv _ => k - (intOf jv).toNat)
                    case atStart => exact ⟨0, Nat.zero_le _, rfl, own_cast HOW (by simp [repC]) rfl, XW⟩
                    case round =>
                      obtain ⟨j, hj, rfl, HOJ, XJ⟩ := hrel
                      have hsj := XJ.size
                      by_cases hjk : j < k
                      · have hji : (j : Int) < ((k : Nat) : Int) := by omega
                        go_wp2_with (at_builtin; refine wp_app1 (s := .tmp 127) (x := .tmp 129) (y := .int .i64 n) rfl rfl ei_ints HOJ rfl rfl rfl rfl (by omega) (by omega) (by omega) ?_; intro v' w' hown hgrew)
                        go_roundw
                        case rel => exact ⟨j + 1, by omega, by go_num, own_cast hown (repC_succ out j n) (by omega), hgrew.extNew XJ HOJ (Nat.le_refl _)⟩
                        case measure => simp [intOf]; omega
                      · obtain rfl : j = k := by omega
                        have hrl : Hid (∃ o', out ++ List.replicate j (n : Int) = o' ++ [(n : Int)]) := by
                          show ∃ o', _
                          obtain ⟨q, hq⟩ : ∃ q, j = q + 1 := ⟨j - 1, by omega⟩
                          exact ⟨out ++ List.replicate q (n : Int), by rw [hq, List.replicate_succ', List.append_assoc]⟩
                        have hrlen : Hid ((out ++ List.replicate j (n : Int)).length = 0 + j) := by show _ = _; rw [List.length_append, List.length_replicate, hm]
                        have hrle : 0 + j ≤ 4096 := by omega
                        go_wp2_with fail
                        go_roundw
                        case rel => exact ⟨R2, out ++ List.replicate j (n : Int), n, rfl, own_cast HOJ rfl hrlen.out.symm, .inr hrl.out, by rw [hrlen.out]; exact hrle, by omega, HRE2.out, XJ, hnext⟩
                        case measure => simp [strM]; omega
              · obtain ⟨m, hm⟩ : ∃ m, out.length = m + 1 := ⟨o'.length, by rw [ho', List.length_append]; rfl⟩
                obtain ⟨g, cap, rfl, hg1, hg2⟩ := own_open HOO.out (by omega)
                have hcl := XR2.cell (own_cell HOO.out (j := m) (x := .int .i64 last) (by
                  show _ = _
                  have hmo : m = o'.length := by have := congrArg List.length ho'; rw [List.length_append] at this; simp at this; omega
                  rw [ho', List.map_append, List.getElem?_append_right (by rw [List.length_map]; omega), List.length_map, hmo, Nat.sub_self]; rfl))
                rw [hm] at HOW
                clear ho'
                by_cases hnl : (n : Int) = last
                · have hRO : RO = none := by rw [HRU.out, HV1.out, HK.out]; exact if_pos (.inr hnl)
                  have HEE := HE0.out 5 (by decide) (U0.out hRO).symm
                  subst hnl
                  have hnb : ((n : Int) == (n : Int)) = true := by simp
                  clear hRO
                  go_wp2_with fail
                  go_ret2
                  exact unpPost_err HEE XC
                · have hRO : RO = some (n, k) := by rw [HRU.out, HV1.out, HK.out]; exact if_neg (fun h => h.elim hn9 hnl)
                  have hnb : (last == (n : Int)) = false := by rw [beq_eq_false_iff_ne]; exact fun e => hnl e.symm
                  clear hnl
                  by_cases hk4 : 4096 < k
                  · have HEE := HE0.out 2 (by decide) (U1.out n k hRO (by omega)).symm
                    have hki4 : (4096 : Int) < ((k : Nat) : Int) := by omega
                    clear hRO
                    go_wp2_with fail
                    go_ret2
                    exact unpPost_err HEE XC
                  · have hki4 : ((k : Nat) : Int) ≤ 4096 := by omega
                    by_cases hlg : 4096 < out.length + k
                    · have HEE := HE0.out 2 (by decide) (U1.out n k hRO hlg).symm
                      have hlgi : (4096 : Int) < ((m : Int) + 1 : Int) + ((k : Nat) : Int) := by omega
                      clear hRO
                      go_wp2_with fail
                      go_ret2
                      exact unpPost_err HEE XC
                    · have hnext := Lib.hid (U2.out n k hRO hlg)
                      have hlgi : ((m : Int) + 1 : Int) + ((k : Nat) : Int) ≤ 4096 := by omega
                      clear hRO
                      have XW := X.trans XR2
                      go_wp2_with fail
                      go_loopw [8, 125] (fun o jv wr => ∃ (j : Nat), j ≤ k ∧ jv = .int .i64 j ∧ wr.ownsRow w2.heap.size 3 1 o (m + 1 + j) (repC out j n) ∧ Ext w2 wr) (fun _ jv _ => k - (intOf jv).toNat)
                      case atStart => exact ⟨0, Nat.zero_le _, rfl, own_cast HOW (by simp [repC]) rfl, XW⟩
                      case round =>
                        obtain ⟨j, hj, rfl, HOJ, XJ⟩ := hrel
                        have hsj := XJ.size
                        by_cases hjk : j < k
                        · have hji : (j : Int) < ((k : Nat) : Int) := by omega
                          go_wp2_with (at_builtin; refine wp_app1 (s := .tmp 127) (x := .tmp 129) (y := .int .i64 n) rfl rfl ei_ints HOJ rfl rfl rfl rfl (by omega) (by omega) (by omega) ?_; intro v' w' hown hgrew)
                          go_roundw
                          case rel => exact ⟨j + 1, by omega, by go_num, own_cast hown (repC_succ out j n) (by omega), hgrew.extNew XJ HOJ (Nat.le_refl _)⟩
                          case measure => simp [intOf]; omega
                        · obtain rfl : j = k := by omega
                          have hrl : Hid (∃ o', out ++ List.replicate j (n : Int) = o' ++ [(n : Int)]) := by
                            show ∃ o', _
                            obtain ⟨q, hq⟩ : ∃ q, j = q + 1 := ⟨j - 1, by omega⟩
                            exact ⟨out ++ List.replicate q (n : Int), by rw [hq, List.replicate_succ', List.append_assoc]⟩
                          have hrlen : Hid ((out ++ List.replicate j (n : Int)).length = m + 1 + j) := by show _ = _; rw [List.length_append, List.length_replicate, hm]
                          have hrle : m + 1 + j ≤ 4096 := by omega
                          go_wp2_with fail
                          go_roundw
                          case rel => exact ⟨R2, out ++ List.replicate j (n : Int), n, rfl, own_cast HOJ rfl hrlen.out.symm, .inr hrl.out, by rw [hrlen.out]; exact hrle, by omega, HRE2.out, XJ, hnext⟩
                          case measure => simp [strM]; omega

theorem runs_any (s : ByteArray) (w : World) (hs : s.size ≤ 140737488355328) (HV : StrV w) : Calls Tryd.prog 7 #[.string s] w (UnpPost s w) := by
  by_cases h : cutK s 35 = false ∨ numO (cutR s 35) = none ∨ ((cutA s 35).size ≠ 0 ∧ endsB (cutA s 35) 59 = false)
  · exact runs_a s w hs HV h
  · exact runs_b s w hs HV h
end Go.Proofs.YtecfphohmgbddaaDoor
