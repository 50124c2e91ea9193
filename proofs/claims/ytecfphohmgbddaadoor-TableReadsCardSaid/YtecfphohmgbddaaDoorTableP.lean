/- walk: table.Unpack -/
import Derived.Test.YtecfphohmgbddaaDoorTableR
namespace Go.Proofs.YtecfphohmgbddaaDoor
open Go.RowKit
set_option linter.unusedVariables false

def UnpPost (s : ByteArray) (w : World) (e : Ending) (w' : World) : Prop :=
  ∃ v, e = .returned (.tuple #[v, .int .i64 (unpF s).1]) ∧ Ext w w' ∧ Ints w' v (unpF s).2

theorem unpPost_err {s : ByteArray} {w w' : World} {q : Int} (h : Hid (unpF s = (q, []))) (hx : Ext w w') : UnpPost s w (.returned (.tuple #[.slice none 0 0, .int .i64 q])) w' :=
  ⟨_, by rw [h.out], hx, by rw [h.out]; exact Row.nil w'⟩

theorem unpF_none {s : ByteArray} (h : cutK s 35 = false ∨ numO (cutR s 35) = none ∨ ((cutA s 35).size ≠ 0 ∧ endsB (cutA s 35) 59 = false)) : Hid (unpF s = (5, [])) := by
  show _ = _
  rw [unpF, if_pos h]
theorem unpF_loop {s : ByteArray} (h : ¬ (cutK s 35 = false ∨ numO (cutR s 35) = none ∨ ((cutA s 35).size ≠ 0 ∧ endsB (cutA s 35) 59 = false))) (q : Int) (hq : q ≠ 0) (hu : unpL (cutA s 35) [] (-1) = (q, [])) : Hid (unpF s = (q, [])) := by
  show _ = _
  rw [unpF, if_neg h, hu, if_pos hq]
theorem unpF_end {s : ByteArray} {l : List Int} (h : ¬ (cutK s 35 = false ∨ numO (cutR s 35) = none ∨ ((cutA s 35).size ≠ 0 ∧ endsB (cutA s 35) 59 = false))) (hu : unpL (cutA s 35) [] (-1) = (0, l)) :
    unpF s = if numO (cutR s 35) = some (sumF (cutA s 35)) then (0, l) else (15, []) := by
  rw [unpF, if_neg h, hu, if_neg (by simp)]

theorem isEmpty_zero {s : ByteArray} (h : s.size = 0) : s.toList.isEmpty = true := by
  rw [Lib.toList_data, List.isEmpty_iff]
  exact List.eq_nil_of_length_eq_zero (by rw [Array.length_toList]; exact h)
theorem isEmpty_pos {s : ByteArray} (h : s.size ≠ 0) : s.toList.isEmpty = false := by
  rw [Lib.toList_data, List.isEmpty_eq_false_iff]
  intro e
  have := congrArg List.length e
  rw [Array.length_toList] at this
  exact h this

theorem own_shape {w : World} {B : Nat} {e : TypeId} {sz : Nat} {v : Value} {n : Nat} {vs : List Value} (h : w.ownsRow B e sz v n vs) : ∃ ao c, v = .slice ao n c := by
  rcases h.2 with ⟨rfl, rfl⟩ | ⟨g, cap, cur, rfl, _⟩
  · exact ⟨none, 0, rfl⟩
  · exact ⟨_, _, rfl⟩

abbrev strM (v : Value) : Nat := match v with
  | .string b => b.size
  | _ => 0

set_option maxHeartbeats 800000 in
set_option maxRecDepth 100000 in
theorem unpack_a (s : ByteArray) (w : World) (hs : s.size ≤ 140737488355328) (HV : StrV w) (h : cutK s 35 = false ∨ numO (cutR s 35) = none ∨ ((cutA s 35).size ≠ 0 ∧ endsB (cutA s 35) 59 = false)) :
    Calls Tryd.prog 5 #[.string s] w (UnpPost s w) := by
  have HF := unpF_none h
  have hcA := cutA_le s 35
  have hcR := cutR_le s 35
  have HC := fun W => cut1_any s 35 W (by omega)
  have HN := fun W (hx : Ext w W) => number_any (cutR s 35) W (by omega) (HV.ext hx)
  have HS := fun W => Tryd.strings_HasSuffix (cutA s 35) ⟨#[59]⟩ W (by omega)
  rw [show Lib.hasSuffix (cutA s 35).data.toList (⟨#[59]⟩ : ByteArray).data.toList = endsB (cutA s 35) 59 from rfl] at HS
  generalize cutA s 35 = A at *
  generalize cutR s 35 = R at *
  generalize cutK s 35 = K at *
  have HC := Lib.hid HC
  have HN := Lib.hid HN
  have HS := Lib.hid HS
  clear HV
  have hc : K = false ∨ (K = true ∧ numO R = none) ∨ (K = true ∧ (∃ n, numO R = some n) ∧ A.size ≠ 0 ∧ endsB A 59 = false) := by
    cases K with
    | false => exact .inl rfl
    | true =>
      cases hn : numO R with
      | none => exact .inr (.inl ⟨rfl, rfl⟩)
      | some n =>
        rcases h with h | h | h
        · cases h
        · rw [hn] at h; cases h
        · exact .inr (.inr ⟨rfl, ⟨n, rfl⟩, h⟩)
  clear h
  rcases hc with rfl | ⟨rfl, hn⟩ | ⟨rfl, ⟨n, hn⟩, hA, hE⟩
  · go_enter Tryd.func5, Tryd.ntmps5
    go_wp2_with fail
    refine (HC.out _).mono ?_
    rintro e w1 ⟨rfl, X1⟩
    go_wp2_with fail
    refine (HN.out _ X1).mono ?_
    rintro e w2 ⟨m, rfl, hm, X2⟩
    go_wp2_with fail
    go_ret2
    exact unpPost_err HF (X1.trans X2)
  · have hN := Lib.hid hn
    clear hn
    go_enter Tryd.func5, Tryd.ntmps5
    go_wp2_with fail
    refine (HC.out _).mono ?_
    rintro e w1 ⟨rfl, X1⟩
    go_wp2_with fail
    refine (HN.out _ X1).mono ?_
    rintro e w2 ⟨m, rfl, hm, X2⟩
    rw [hN.out]
    simp only [Option.isSome_none]
    go_wp2_with fail
    go_ret2
    exact unpPost_err HF (X1.trans X2)
  · have hN := Lib.hid hn
    have hAe := isEmpty_pos hA
    rw [hE] at HS
    clear hn hE hA
    go_enter Tryd.func5, Tryd.ntmps5
    go_wp2_with fail
    refine (HC.out _).mono ?_
    rintro e w1 ⟨rfl, X1⟩
    go_wp2_with fail
    refine (HN.out _ X1).mono ?_
    rintro e w2 ⟨m, rfl, hm, X2⟩
    rw [hN.out]
    simp only [Option.isSome_some]
    go_wp2_with fail
    refine (HS.out _).mono ?_
    rintro e w3 ⟨rfl, rfl⟩
    go_wp2_with fail
    go_ret2
    exact unpPost_err HF (X1.trans X2)


set_option maxHeartbeats 6400000 in
set_option maxRecDepth 100000 in
theorem unpack_b (s : ByteArray) (w : World) (hs : s.size ≤ 140737488355328) (HV : StrV w) (h : ¬ (cutK s 35 = false ∨ numO (cutR s 35) = none ∨ ((cutA s 35).size ≠ 0 ∧ endsB (cutA s 35) 59 = false))) :
    Calls Tryd.prog 5 #[.string s] w (UnpPost s w) := by
  obtain ⟨wo, rfl⟩ : ∃ wo : World, wo = w := ⟨_, rfl⟩
  have HE0 := fun q (hq : q ≠ 0) => unpF_loop h q hq
  have HE1 := fun l => unpF_end (l := l) h
  have hcA := cutA_le s 35
  have hcR := cutR_le s 35
  have HC := fun W => cut1_any s 35 W (by omega)
  have HN := fun W (hx : Ext wo W) => number_any (cutR s 35) W (by omega) (HV.ext hx)
  have HS := fun W => Tryd.strings_HasSuffix (cutA s 35) ⟨#[59]⟩ W (by omega)
  rw [show Lib.hasSuffix (cutA s 35).data.toList (⟨#[59]⟩ : ByteArray).data.toList = endsB (cutA s 35) 59 from rfl] at HS
  have hK : cutK s 35 = true := by
    cases hk : cutK s 35 with
    | true => rfl
    | false => exact absurd (.inl hk) h
  rw [hK] at HC
  generalize cutA s 35 = A at *
  generalize cutR s 35 = R at *
  obtain ⟨N, hn⟩ : ∃ N, numO R = some N := by
    cases hn : numO R with
    | none => exact absurd (.inr (.inl hn)) h
    | some N => exact ⟨N, rfl⟩
  have hend : A.size = 0 ∨ (A.size ≠ 0 ∧ endsB A 59 = true) := by
    by_cases h0 : A.size = 0
    · exact .inl h0
    · refine .inr ⟨h0, ?_⟩
      cases he : endsB A 59 with
      | true => rfl
      | false => exact absurd (.inr (.inr ⟨h0, he⟩)) h
  obtain ⟨F, hF⟩ : ∃ F, unpL A [] (-1) = F := ⟨_, rfl⟩
  rw [hF] at HE0 HE1
  rw [hn] at HE1
  have HE0 := Lib.hid HE0
  have HE1 := Lib.hid HE1
  have HFF := Lib.hid hF
  have hN := Lib.hid hn
  have HC := Lib.hid HC
  have HN := Lib.hid HN
  have HVV := Lib.hid (fun W (hx : Ext wo W) => HV.ext hx)
  have HSM := Lib.hid (fun W q (hq : Hid (sumF A = q)) => sum_any A W (by omega) q hq)
  clear HV h hK hF hn
  go_enter Tryd.func5, Tryd.ntmps5
  go_wp2_with fail
  refine (HC.out _).mono ?_
  rintro e w1 ⟨rfl, X1⟩
  go_wp2_with fail
  refine (HN.out _ X1).mono ?_
  rintro e w2 ⟨m, rfl, hm, X2⟩
  obtain rfl := hm N hN.out
  rw [hN.out]
  simp only [Option.isSome_some]
  clear hm
  have X02 := X1.trans X2
  clear X1 X2
  obtain ⟨wa, rfl⟩ : ∃ wa : World, wa = w1 := ⟨_, rfl⟩
  clear wa
  rcases hend with h0 | ⟨h0, he⟩
  all_goals first
    | have hAe := isEmpty_zero h0
    | have hAe := isEmpty_pos h0
  all_goals try rw [he] at HS
  all_goals have HS := Lib.hid HS
  all_goals clear h0
  · go_wp2_with fail
    clear hAe HS
    go_loopw [9, 10, 11] (fun o la r wr => ∃ (rest : ByteArray) (out : List Int) (last : Int), r = .string rest ∧ la = .int .i64 last ∧ wr.ownsRow w2.heap.size 3 1 o out.length (out.map (Value.int .i64)) ∧ out.length ≤ 4096 ∧ rest.size ≤ 140737488355328 ∧ Ext w2 wr ∧ Hid (unpL rest out last = F)) (fun _ _ r _ => strM r)
    case atStart => exact ⟨A, [], -1, rfl, rfl, ⟨rfl, .inl ⟨rfl, rfl⟩⟩, by simp, by omega, Ext.refl _, HFF.out⟩
    case round =>
      obtain ⟨rest, out, last, rfl, rfl, HO, hol, hrs, X, HI⟩ := hrel
      obtain ⟨wr0, rfl⟩ : ∃ wr0 : World, wr0 = wr := ⟨_, rfl⟩
      by_cases h0 : rest.size = 0
      · have hre := isEmpty_zero h0
        have hFe : F = (0, out) := by rw [← HI.out, unpL_nil h0]
        have HEE := HE1.out out hFe
        obtain ⟨q, hq⟩ : ∃ q, Hid (sumF A = q) := ⟨_, rfl⟩
        rw [hq.out] at HEE
        by_cases hqn : N = q
        · subst hqn
          rw [if_pos rfl] at HEE
          have HEE := Lib.hid HEE
          have hnn : ((N : Int) != (N : Int)) = false := by simp
          clear h0 hFe
          go_wp2_with fail
          refine (HSM.out _ N hq).mono ?_
          rintro e w5 ⟨rfl, rfl⟩
          go_wp2_with fail
          go_ret2
          exact ⟨_, by rw [HEE.out]; rfl, X02.trans X, by rw [HEE.out]; exact own_rowOf HO (by omega)⟩
        · rw [if_neg (by intro e; exact hqn (Option.some.inj e))] at HEE
          have HEE := Lib.hid HEE
          have hnn : ((q : Int) != (N : Int)) = true := by simp; omega
          clear h0 hFe hqn
          go_wp2_with fail
          refine (HSM.out _ q hq).mono ?_
          rintro e w5 ⟨rfl, rfl⟩
          go_wp2_with fail
          go_ret2
          exact unpPost_err HEE (X02.trans X)
      · have hre := isEmpty_pos h0
        have U0 := fun hr => (unpL_none (last := last) (out := out) h0 hr).symm.trans HI.out
        have U1 := fun n k hr hl => (unpL_large (last := last) (out := out) (n := n) (k := k) h0 hr hl).symm.trans HI.out
        have U2 := fun n k hr hl => (unpL_next (last := last) (out := out) (n := n) (k := k) h0 hr hl).symm.trans HI.out
        have c1 := cutR_lt 59 h0
        have c2 := cutA_le rest 59
        have c3 := cutA_le (cutA rest 59) 120
        have c4 := cutR_le (cutA rest 59) 120
        have K1 := fun W => cut1_any rest 59 W (by omega)
        have K2 := fun W => cut1_any (cutA rest 59) 120 W (by omega)
        have K3 := fun W (hx : Ext wo W) => number_any (cutA (cutA rest 59) 120) W (by omega) (HVV.out W hx)
        have K4 := fun W (hx : Ext wo W) => number_any (cutR (cutA rest 59) 120) W (by omega) (HVV.out W hx)
        have hrun : runO (cutA rest 59) last = match numO (cutA (cutA rest 59) 120), cntO (cutA rest 59) with
            | some n, some k => if 9999 < n ∨ (n : Int) = last then none else some (n, k)
            | _, _ => none := rfl
        have hcnt : cntO (cutA rest 59) = if cutK (cutA rest 59) 120 = true then (match numO (cutR (cutA rest 59) 120) with | some k => if 1 < k then some k else none | none => none) else some 1 := rfl
        have hcle := fun k => cntO_le (run := cutA rest 59) (k := k)
        generalize cutA (cutA rest 59) 120 = V at *
        generalize cutR (cutA rest 59) 120 = C at *
        generalize cutK (cutA rest 59) 120 = K at *
        generalize runO (cutA rest 59) last = RO at *
        generalize cntO (cutA rest 59) = CO at *
        generalize cutA rest 59 = R1 at *
        generalize cutR rest 59 = R2 at *
        generalize cutK rest 59 = KK at *
        have U0 := Lib.hid U0
        have U1 := Lib.hid U1
        have U2 := Lib.hid U2
        have K1 := Lib.hid K1
        have K2 := Lib.hid K2
        have K3 := Lib.hid K3
        have K4 := Lib.hid K4
        have HRU := Lib.hid hrun
        have HCN := Lib.hid hcnt
        have HCL := Lib.hid hcle
        have HOO := Lib.hid HO
        have XX := Lib.hid (X02.trans X)
        clear hrun hcnt hcle HO h0
        go_wp2_with fail
        refine (K1.out _).mono ?_
        rintro e w3 ⟨rfl, X3⟩
        go_wp2_with fail
        refine (K2.out _).mono ?_
        rintro e w4 ⟨rfl, X4⟩
        go_wp2_with fail
        have XA := (XX.out.trans X3).trans X4
        refine (K3.out _ XA).mono ?_
        rintro e w5 ⟨nv, rfl, hnv, X5⟩
        have XB := XA.trans X5
        have XR := (X3.trans X4).trans X5
        clear X3 X4 X5 XA
        have HNV := Lib.hid hnv
        clear hnv
        have hpart : (numO V = none ∧ K = false) ∨ (numO V = none ∧ K = true) ∨ (∃ n, numO V = some n ∧ K = false) ∨ (∃ n, numO V = some n ∧ K = true ∧ numO C = none) ∨ (∃ n k, numO V = some n ∧ K = true ∧ numO C = some k ∧ k ≤ 1) ∨ (∃ n k, numO V = some n ∧ K = true ∧ numO C = some k ∧ 1 < k) := by
          cases hV : numO V with
          | none => cases K <;> simp
          | some n =>
            cases K with
            | false => simp
            | true =>
              cases hC : numO C with
              | none => simp
              | some k =>
                by_cases hk : 1 < k
                · refine .inr (.inr (.inr (.inr (.inr ⟨n, k, rfl, rfl, rfl, hk⟩))))
                · refine .inr (.inr (.inr (.inr (.inl ⟨n, k, rfl, rfl, rfl, by omega⟩))))
        rcases hpart with ⟨hV, rfl⟩ | ⟨hV, rfl⟩ | ⟨n, hV, rfl⟩ | ⟨n, hV, rfl, hC⟩ | ⟨n, k, hV, rfl, hC, hk⟩ | ⟨n, k, hV, rfl, hC, hk⟩
        · have hRO : RO = none := by rw [HRU.out, hV]
          have HEE := HE0.out 5 (by decide) (U0.out hRO).symm
          have HV1 := Lib.hid hV
          clear hRO hV
          rw [HV1.out]
          simp only [Option.isSome_none, Option.isSome_some]
          go_wp2_with fail
          go_ret2
          exact unpPost_err HEE XB
        · have hRO : RO = none := by rw [HRU.out, hV]
          have HEE := HE0.out 5 (by decide) (U0.out hRO).symm
          have HV1 := Lib.hid hV
          clear hRO hV
          rw [HV1.out]
          simp only [Option.isSome_none, Option.isSome_some]
          go_wp2_with fail
          refine (K4.out _ XB).mono ?_
          rintro e w6 ⟨kv, rfl, hkv, X6⟩
          have XC := XB.trans X6
          have XR2 := XR.trans X6
          clear X6
          go_wp2_with fail
          go_ret2
          exact unpPost_err HEE XC
        · have hCO : CO = some 1 := by rw [HCN.out]; rfl
          obtain rfl := HNV.out n hV
          have HV1 := Lib.hid hV
          clear hV
          rw [HV1.out]
          simp only [Option.isSome_some]
      
          have HK := Lib.hid hCO
          obtain ⟨hk1, hk9⟩ := HCL.out _ hCO
          clear hCO
          by_cases hn9 : 9999 < n
          · have hRO : RO = none := by rw [HRU.out, HV1.out, HK.out]; exact if_pos (.inl hn9)
            have HEE := HE0.out 5 (by decide) (U0.out hRO).symm
            have hni : (9999 : Int) < (n : Int) := by omega
            clear hRO
            go_wp2_with fail
            go_ret2
            exact unpPost_err HEE XB
          · have hni : (n : Int) ≤ 9999 := by omega
            by_cases hnl : (n : Int) = last
            · have hRO : RO = none := by rw [HRU.out, HV1.out, HK.out]; exact if_pos (.inr hnl)
              have HEE := HE0.out 5 (by decide) (U0.out hRO).symm
              have hnb : ((n : Int) == last) = true := by rw [hnl]; simp
              clear hRO hnl
              go_wp2_with fail
              go_ret2
              exact unpPost_err HEE XB
            · have hRO : RO = some (n, 1) := by rw [HRU.out, HV1.out, HK.out]; exact if_neg (fun h => h.elim hn9 hnl)
              have hnb : ((n : Int) == last) = false := by rw [beq_eq_false_iff_ne]; exact hnl
              clear hnl
              obtain ⟨oa, oc, rfl⟩ := own_shape HOO.out
              by_cases hlg : 4096 < out.length + 1
              · have HEE := HE0.out 2 (by decide) (U1.out n 1 hRO hlg).symm
                have hlgi : (4096 : Int) - (out.length : Int) < (1 : Int) := by omega
                clear hRO
                go_wp2_with fail
                go_ret2
                exact unpPost_err HEE XB
              · have hnext := Lib.hid (U2.out n 1 hRO hlg)
                have hlgi : (1 : Int) ≤ (4096 : Int) - (out.length : Int) := by omega
                have hlen : out.length + 1 ≤ 4096 := by omega
                clear hRO
                go_wp2_with fail
                refine (repeat_any _ (n : Int) 1 _ (by exact lit_ints_at _ 3 ([(n : Int)] : List Int) (by simp) _ rfl) hk1 (by omega)).mono ?_
                rintro e w7 ⟨u, rfl, hI, X7⟩
                have XD := (XR.alloc _).trans X7
                have HOW := own_ext HOO.out XD
                have hsrc := Lib.hid (RowOf.src hI (fun _ => rfl))
                rw [List.length_replicate] at hsrc
                have hB := (X.trans XD).size
                go_wp2_with (at_builtin; refine wp_app rfl rfl ei_ints rfl HOW rfl hsrc.out (by omega) (by omega) (by omega) ?_; intro v' w8 hown hgrew)
                go_roundw
                case rel =>
                  refine ⟨R2, out ++ List.replicate 1 (n : Int), n, rfl, rfl, own_cast hown (by simp) (by simp), by simp; omega, by omega, (hgrew.extNew (X.trans XD) HOW (Nat.le_refl _)), hnext⟩
                case measure => simp [strM]; omega
        · have hCO : CO = none := by rw [HCN.out, hC]; rfl
          have HC1 := Lib.hid hC
          clear hC
          have hRO : RO = none := by rw [HRU.out, hV, hCO]
          have HEE := HE0.out 5 (by decide) (U0.out hRO).symm
          have HV1 := Lib.hid hV
          clear hRO hV
          rw [HV1.out]
          simp only [Option.isSome_none, Option.isSome_some]
          go_wp2_with fail
          refine (K4.out _ XB).mono ?_
          rintro e w6 ⟨kv, rfl, hkv, X6⟩
          have XC := XB.trans X6
          have XR2 := XR.trans X6
          clear X6
          rw [HC1.out]
          simp only [Option.isSome_none]
          go_wp2_with fail
          go_ret2
          exact unpPost_err HEE XC
        · have hCO : CO = none := by rw [HCN.out, hC]; show (if 1 < k then some k else none) = none; exact if_neg (by omega)
          have HC1 := Lib.hid hC
          have hki : (k : Int) ≤ 1 := by omega
          clear hC
          have hRO : RO = none := by rw [HRU.out, hV, hCO]
          have HEE := HE0.out 5 (by decide) (U0.out hRO).symm
          have HV1 := Lib.hid hV
          clear hRO hV
          rw [HV1.out]
          simp only [Option.isSome_none, Option.isSome_some]
          go_wp2_with fail
          refine (K4.out _ XB).mono ?_
          rintro e w6 ⟨kv, rfl, hkv, X6⟩
          have XC := XB.trans X6
          have XR2 := XR.trans X6
          clear X6
          obtain rfl := hkv k HC1.out
          rw [HC1.out]
          simp only [Option.isSome_some]
          clear hkv
          go_wp2_with fail
          go_ret2
          exact unpPost_err HEE XC
        · have hCO : CO = some k := by rw [HCN.out, hC]; show (if 1 < k then some k else none) = some k; exact if_pos hk
          have HC1 := Lib.hid hC
          have hki : (1 : Int) < (k : Int) := by omega
          obtain rfl := HNV.out n hV
          have HV1 := Lib.hid hV
          clear hC hV
          rw [HV1.out]
          simp only [Option.isSome_some]
          go_wp2_with fail
          refine (K4.out _ XB).mono ?_
          rintro e w6 ⟨kv, rfl, hkv, X6⟩
          have XC := XB.trans X6
          have XR2 := XR.trans X6
          clear X6
          obtain rfl := hkv k HC1.out
          rw [HC1.out]
          simp only [Option.isSome_some]
          clear hkv
      
          have HK := Lib.hid hCO
          obtain ⟨hk1, hk9⟩ := HCL.out _ hCO
          clear hCO
          by_cases hn9 : 9999 < n
          · have hRO : RO = none := by rw [HRU.out, HV1.out, HK.out]; exact if_pos (.inl hn9)
            have HEE := HE0.out 5 (by decide) (U0.out hRO).symm
            have hni : (9999 : Int) < (n : Int) := by omega
            clear hRO
            go_wp2_with fail
            go_ret2
            exact unpPost_err HEE XC
          · have hni : (n : Int) ≤ 9999 := by omega
            by_cases hnl : (n : Int) = last
            · have hRO : RO = none := by rw [HRU.out, HV1.out, HK.out]; exact if_pos (.inr hnl)
              have HEE := HE0.out 5 (by decide) (U0.out hRO).symm
              have hnb : ((n : Int) == last) = true := by rw [hnl]; simp
              clear hRO hnl
              go_wp2_with fail
              go_ret2
              exact unpPost_err HEE XC
            · have hRO : RO = some (n, k) := by rw [HRU.out, HV1.out, HK.out]; exact if_neg (fun h => h.elim hn9 hnl)
              have hnb : ((n : Int) == last) = false := by rw [beq_eq_false_iff_ne]; exact hnl
              clear hnl
              obtain ⟨oa, oc, rfl⟩ := own_shape HOO.out
              by_cases hlg : 4096 < out.length + k
              · have HEE := HE0.out 2 (by decide) (U1.out n k hRO hlg).symm
                have hlgi : (4096 : Int) - (out.length : Int) < (k : Int) := by omega
                clear hRO
                go_wp2_with fail
                go_ret2
                exact unpPost_err HEE XC
              · have hnext := Lib.hid (U2.out n k hRO hlg)
                have hlgi : (k : Int) ≤ (4096 : Int) - (out.length : Int) := by omega
                have hlen : out.length + k ≤ 4096 := by omega
                clear hRO
                go_wp2_with fail
                refine (repeat_any _ (n : Int) k _ (by exact lit_ints_at _ 3 ([(n : Int)] : List Int) (by simp) _ rfl) hk1 (by omega)).mono ?_
                rintro e w7 ⟨u, rfl, hI, X7⟩
                have XD := (XR2.alloc _).trans X7
                have HOW := own_ext HOO.out XD
                have hsrc := Lib.hid (RowOf.src hI (fun _ => rfl))
                rw [List.length_replicate] at hsrc
                have hB := (X.trans XD).size
                go_wp2_with (at_builtin; refine wp_app rfl rfl ei_ints rfl HOW rfl hsrc.out (by omega) (by omega) (by omega) ?_; intro v' w8 hown hgrew)
                go_roundw
                case rel =>
                  refine ⟨R2, out ++ List.replicate k (n : Int), n, rfl, rfl, own_cast hown (by simp) (by simp), by simp; omega, by omega, (hgrew.extNew (X.trans XD) HOW (Nat.le_refl _)), hnext⟩
                case measure => simp [strM]; omega
  · clear he
    go_wp2_with fail
    refine (HS.out _).mono ?_
    rintro e w3 ⟨rfl, rfl⟩
    go_wp2_with fail
    clear hAe HS
    go_loopw [9, 10, 11] (fun o la r wr => ∃ (rest : ByteArray) (out : List Int) (last : Int), r = .string rest ∧ la = .int .i64 last ∧ wr.ownsRow w3.heap.size 3 1 o out.length (out.map (Value.int .i64)) ∧ out.length ≤ 4096 ∧ rest.size ≤ 140737488355328 ∧ Ext w3 wr ∧ Hid (unpL rest out last = F)) (fun _ _ r _ => strM r)
    case atStart => exact ⟨A, [], -1, rfl, rfl, ⟨rfl, .inl ⟨rfl, rfl⟩⟩, by simp, by omega, Ext.refl _, HFF.out⟩
    case round =>
      obtain ⟨rest, out, last, rfl, rfl, HO, hol, hrs, X, HI⟩ := hrel
      obtain ⟨wr0, rfl⟩ : ∃ wr0 : World, wr0 = wr := ⟨_, rfl⟩
      by_cases h0 : rest.size = 0
      · have hre := isEmpty_zero h0
        have hFe : F = (0, out) := by rw [← HI.out, unpL_nil h0]
        have HEE := HE1.out out hFe
        obtain ⟨q, hq⟩ : ∃ q, Hid (sumF A = q) := ⟨_, rfl⟩
        rw [hq.out] at HEE
        by_cases hqn : N = q
        · subst hqn
          rw [if_pos rfl] at HEE
          have HEE := Lib.hid HEE
          have hnn : ((N : Int) != (N : Int)) = false := by simp
          clear h0 hFe
          go_wp2_with fail
          refine (HSM.out _ N hq).mono ?_
          rintro e w5 ⟨rfl, rfl⟩
          go_wp2_with fail
          go_ret2
          exact ⟨_, by rw [HEE.out]; rfl, X02.trans X, by rw [HEE.out]; exact own_rowOf HO (by omega)⟩
        · rw [if_neg (by intro e; exact hqn (Option.some.inj e))] at HEE
          have HEE := Lib.hid HEE
          have hnn : ((q : Int) != (N : Int)) = true := by simp; omega
          clear h0 hFe hqn
          go_wp2_with fail
          refine (HSM.out _ q hq).mono ?_
          rintro e w5 ⟨rfl, rfl⟩
          go_wp2_with fail
          go_ret2
          exact unpPost_err HEE (X02.trans X)
      · have hre := isEmpty_pos h0
        have U0 := fun hr => (unpL_none (last := last) (out := out) h0 hr).symm.trans HI.out
        have U1 := fun n k hr hl => (unpL_large (last := last) (out := out) (n := n) (k := k) h0 hr hl).symm.trans HI.out
        have U2 := fun n k hr hl => (unpL_next (last := last) (out := out) (n := n) (k := k) h0 hr hl).symm.trans HI.out
        have c1 := cutR_lt 59 h0
        have c2 := cutA_le rest 59
        have c3 := cutA_le (cutA rest 59) 120
        have c4 := cutR_le (cutA rest 59) 120
        have K1 := fun W => cut1_any rest 59 W (by omega)
        have K2 := fun W => cut1_any (cutA rest 59) 120 W (by omega)
        have K3 := fun W (hx : Ext wo W) => number_any (cutA (cutA rest 59) 120) W (by omega) (HVV.out W hx)
        have K4 := fun W (hx : Ext wo W) => number_any (cutR (cutA rest 59) 120) W (by omega) (HVV.out W hx)
        have hrun : runO (cutA rest 59) last = match numO (cutA (cutA rest 59) 120), cntO (cutA rest 59) with
            | some n, some k => if 9999 < n ∨ (n : Int) = last then none else some (n, k)
            | _, _ => none := rfl
        have hcnt : cntO (cutA rest 59) = if cutK (cutA rest 59) 120 = true then (match numO (cutR (cutA rest 59) 120) with | some k => if 1 < k then some k else none | none => none) else some 1 := rfl
        have hcle := fun k => cntO_le (run := cutA rest 59) (k := k)
        generalize cutA (cutA rest 59) 120 = V at *
        generalize cutR (cutA rest 59) 120 = C at *
        generalize cutK (cutA rest 59) 120 = K at *
        generalize runO (cutA rest 59) last = RO at *
        generalize cntO (cutA rest 59) = CO at *
        generalize cutA rest 59 = R1 at *
        generalize cutR rest 59 = R2 at *
        generalize cutK rest 59 = KK at *
        have U0 := Lib.hid U0
        have U1 := Lib.hid U1
        have U2 := Lib.hid U2
        have K1 := Lib.hid K1
        have K2 := Lib.hid K2
        have K3 := Lib.hid K3
        have K4 := Lib.hid K4
        have HRU := Lib.hid hrun
        have HCN := Lib.hid hcnt
        have HCL := Lib.hid hcle
        have HOO := Lib.hid HO
        have XX := Lib.hid (X02.trans X)
        clear hrun hcnt hcle HO h0
        go_wp2_with fail
        refine (K1.out _).mono ?_
        rintro e w3 ⟨rfl, X3⟩
        go_wp2_with fail
        refine (K2.out _).mono ?_
        rintro e w4 ⟨rfl, X4⟩
        go_wp2_with fail
        have XA := (XX.out.trans X3).trans X4
        refine (K3.out _ XA).mono ?_
        rintro e w5 ⟨nv, rfl, hnv, X5⟩
        have XB := XA.trans X5
        have XR := (X3.trans X4).trans X5
        clear X3 X4 X5 XA
        have HNV := Lib.hid hnv
        clear hnv
        have hpart : (numO V = none ∧ K = false) ∨ (numO V = none ∧ K = true) ∨ (∃ n, numO V = some n ∧ K = false) ∨ (∃ n, numO V = some n ∧ K = true ∧ numO C = none) ∨ (∃ n k, numO V = some n ∧ K = true ∧ numO C = some k ∧ k ≤ 1) ∨ (∃ n k, numO V = some n ∧ K = true ∧ numO C = some k ∧ 1 < k) := by
          cases hV : numO V with
          | none => cases K <;> simp
          | some n =>
            cases K with
            | false => simp
            | true =>
              cases hC : numO C with
              | none => simp
              | some k =>
                by_cases hk : 1 < k
                · refine .inr (.inr (.inr (.inr (.inr ⟨n, k, rfl, rfl, rfl, hk⟩))))
                · refine .inr (.inr (.inr (.inr (.inl ⟨n, k, rfl, rfl, rfl, by omega⟩))))
        rcases hpart with ⟨hV, rfl⟩ | ⟨hV, rfl⟩ | ⟨n, hV, rfl⟩ | ⟨n, hV, rfl, hC⟩ | ⟨n, k, hV, rfl, hC, hk⟩ | ⟨n, k, hV, rfl, hC, hk⟩
        · have hRO : RO = none := by rw [HRU.out, hV]
          have HEE := HE0.out 5 (by decide) (U0.out hRO).symm
          have HV1 := Lib.hid hV
          clear hRO hV
          rw [HV1.out]
          simp only [Option.isSome_none, Option.isSome_some]
          go_wp2_with fail
          go_ret2
          exact unpPost_err HEE XB
        · have hRO : RO = none := by rw [HRU.out, hV]
          have HEE := HE0.out 5 (by decide) (U0.out hRO).symm
          have HV1 := Lib.hid hV
          clear hRO hV
          rw [HV1.out]
          simp only [Option.isSome_none, Option.isSome_some]
          go_wp2_with fail
          refine (K4.out _ XB).mono ?_
          rintro e w6 ⟨kv, rfl, hkv, X6⟩
          have XC := XB.trans X6
          have XR2 := XR.trans X6
          clear X6
          go_wp2_with fail
          go_ret2
          exact unpPost_err HEE XC
        · have hCO : CO = some 1 := by rw [HCN.out]; rfl
          obtain rfl := HNV.out n hV
          have HV1 := Lib.hid hV
          clear hV
          rw [HV1.out]
          simp only [Option.isSome_some]
      
          have HK := Lib.hid hCO
          obtain ⟨hk1, hk9⟩ := HCL.out _ hCO
          clear hCO
          by_cases hn9 : 9999 < n
          · have hRO : RO = none := by rw [HRU.out, HV1.out, HK.out]; exact if_pos (.inl hn9)
            have HEE := HE0.out 5 (by decide) (U0.out hRO).symm
            have hni : (9999 : Int) < (n : Int) := by omega
            clear hRO
            go_wp2_with fail
            go_ret2
            exact unpPost_err HEE XB
          · have hni : (n : Int) ≤ 9999 := by omega
            by_cases hnl : (n : Int) = last
            · have hRO : RO = none := by rw [HRU.out, HV1.out, HK.out]; exact if_pos (.inr hnl)
              have HEE := HE0.out 5 (by decide) (U0.out hRO).symm
              have hnb : ((n : Int) == last) = true := by rw [hnl]; simp
              clear hRO hnl
              go_wp2_with fail
              go_ret2
              exact unpPost_err HEE XB
            · have hRO : RO = some (n, 1) := by rw [HRU.out, HV1.out, HK.out]; exact if_neg (fun h => h.elim hn9 hnl)
              have hnb : ((n : Int) == last) = false := by rw [beq_eq_false_iff_ne]; exact hnl
              clear hnl
              obtain ⟨oa, oc, rfl⟩ := own_shape HOO.out
              by_cases hlg : 4096 < out.length + 1
              · have HEE := HE0.out 2 (by decide) (U1.out n 1 hRO hlg).symm
                have hlgi : (4096 : Int) - (out.length : Int) < (1 : Int) := by omega
                clear hRO
                go_wp2_with fail
                go_ret2
                exact unpPost_err HEE XB
              · have hnext := Lib.hid (U2.out n 1 hRO hlg)
                have hlgi : (1 : Int) ≤ (4096 : Int) - (out.length : Int) := by omega
                have hlen : out.length + 1 ≤ 4096 := by omega
                clear hRO
                go_wp2_with fail
                refine (repeat_any _ (n : Int) 1 _ (by exact lit_ints_at _ 3 ([(n : Int)] : List Int) (by simp) _ rfl) hk1 (by omega)).mono ?_
                rintro e w7 ⟨u, rfl, hI, X7⟩
                have XD := (XR.alloc _).trans X7
                have HOW := own_ext HOO.out XD
                have hsrc := Lib.hid (RowOf.src hI (fun _ => rfl))
                rw [List.length_replicate] at hsrc
                have hB := (X.trans XD).size
                go_wp2_with (at_builtin; refine wp_app rfl rfl ei_ints rfl HOW rfl hsrc.out (by omega) (by omega) (by omega) ?_; intro v' w8 hown hgrew)
                go_roundw
                case rel =>
                  refine ⟨R2, out ++ List.replicate 1 (n : Int), n, rfl, rfl, own_cast hown (by simp) (by simp), by simp; omega, by omega, (hgrew.extNew (X.trans XD) HOW (Nat.le_refl _)), hnext⟩
                case measure => simp [strM]; omega
        · have hCO : CO = none := by rw [HCN.out, hC]; rfl
          have HC1 := Lib.hid hC
          clear hC
          have hRO : RO = none := by rw [HRU.out, hV, hCO]
          have HEE := HE0.out 5 (by decide) (U0.out hRO).symm
          have HV1 := Lib.hid hV
          clear hRO hV
          rw [HV1.out]
          simp only [Option.isSome_none, Option.isSome_some]
          go_wp2_with fail
          refine (K4.out _ XB).mono ?_
          rintro e w6 ⟨kv, rfl, hkv, X6⟩
          have XC := XB.trans X6
          have XR2 := XR.trans X6
          clear X6
          rw [HC1.out]
          simp only [Option.isSome_none]
          go_wp2_with fail
          go_ret2
          exact unpPost_err HEE XC
        · have hCO : CO = none := by rw [HCN.out, hC]; show (if 1 < k then some k else none) = none; exact if_neg (by omega)
          have HC1 := Lib.hid hC
          have hki : (k : Int) ≤ 1 := by omega
          clear hC
          have hRO : RO = none := by rw [HRU.out, hV, hCO]
          have HEE := HE0.out 5 (by decide) (U0.out hRO).symm
          have HV1 := Lib.hid hV
          clear hRO hV
          rw [HV1.out]
          simp only [Option.isSome_none, Option.isSome_some]
          go_wp2_with fail
          refine (K4.out _ XB).mono ?_
          rintro e w6 ⟨kv, rfl, hkv, X6⟩
          have XC := XB.trans X6
          have XR2 := XR.trans X6
          clear X6
          obtain rfl := hkv k HC1.out
          rw [HC1.out]
          simp only [Option.isSome_some]
          clear hkv
          go_wp2_with fail
          go_ret2
          exact unpPost_err HEE XC
        · have hCO : CO = some k := by rw [HCN.out, hC]; show (if 1 < k then some k else none) = some k; exact if_pos hk
          have HC1 := Lib.hid hC
          have hki : (1 : Int) < (k : Int) := by omega
          obtain rfl := HNV.out n hV
          have HV1 := Lib.hid hV
          clear hC hV
          rw [HV1.out]
          simp only [Option.isSome_some]
          go_wp2_with fail
          refine (K4.out _ XB).mono ?_
          rintro e w6 ⟨kv, rfl, hkv, X6⟩
          have XC := XB.trans X6
          have XR2 := XR.trans X6
          clear X6
          obtain rfl := hkv k HC1.out
          rw [HC1.out]
          simp only [Option.isSome_some]
          clear hkv
      
          have HK := Lib.hid hCO
          obtain ⟨hk1, hk9⟩ := HCL.out _ hCO
          clear hCO
          by_cases hn9 : 9999 < n
          · have hRO : RO = none := by rw [HRU.out, HV1.out, HK.out]; exact if_pos (.inl hn9)
            have HEE := HE0.out 5 (by decide) (U0.out hRO).symm
            have hni : (9999 : Int) < (n : Int) := by omega
            clear hRO
            go_wp2_with fail
            go_ret2
            exact unpPost_err HEE XC
          · have hni : (n : Int) ≤ 9999 := by omega
            by_cases hnl : (n : Int) = last
            · have hRO : RO = none := by rw [HRU.out, HV1.out, HK.out]; exact if_pos (.inr hnl)
              have HEE := HE0.out 5 (by decide) (U0.out hRO).symm
              have hnb : ((n : Int) == last) = true := by rw [hnl]; simp
              clear hRO hnl
              go_wp2_with fail
              go_ret2
              exact unpPost_err HEE XC
            · have hRO : RO = some (n, k) := by rw [HRU.out, HV1.out, HK.out]; exact if_neg (fun h => h.elim hn9 hnl)
              have hnb : ((n : Int) == last) = false := by rw [beq_eq_false_iff_ne]; exact hnl
              clear hnl
              obtain ⟨oa, oc, rfl⟩ := own_shape HOO.out
              by_cases hlg : 4096 < out.length + k
              · have HEE := HE0.out 2 (by decide) (U1.out n k hRO hlg).symm
                have hlgi : (4096 : Int) - (out.length : Int) < (k : Int) := by omega
                clear hRO
                go_wp2_with fail
                go_ret2
                exact unpPost_err HEE XC
              · have hnext := Lib.hid (U2.out n k hRO hlg)
                have hlgi : (k : Int) ≤ (4096 : Int) - (out.length : Int) := by omega
                have hlen : out.length + k ≤ 4096 := by omega
                clear hRO
                go_wp2_with fail
                refine (repeat_any _ (n : Int) k _ (by exact lit_ints_at _ 3 ([(n : Int)] : List Int) (by simp) _ rfl) hk1 (by omega)).mono ?_
                rintro e w7 ⟨u, rfl, hI, X7⟩
                have XD := (XR2.alloc _).trans X7
                have HOW := own_ext HOO.out XD
                have hsrc := Lib.hid (RowOf.src hI (fun _ => rfl))
                rw [List.length_replicate] at hsrc
                have hB := (X.trans XD).size
                go_wp2_with (at_builtin; refine wp_app rfl rfl ei_ints rfl HOW rfl hsrc.out (by omega) (by omega) (by omega) ?_; intro v' w8 hown hgrew)
                go_roundw
                case rel =>
                  refine ⟨R2, out ++ List.replicate k (n : Int), n, rfl, rfl, own_cast hown (by simp) (by simp), by simp; omega, by omega, (hgrew.extNew (X.trans XD) HOW (Nat.le_refl _)), hnext⟩
                case measure => simp [strM]; omega

theorem unpack_any (s : ByteArray) (w : World) (hs : s.size ≤ 140737488355328) (HV : StrV w) : Calls Tryd.prog 5 #[.string s] w (UnpPost s w) := by
  by_cases h : cutK s 35 = false ∨ numO (cutR s 35) = none ∨ ((cutA s 35).size ≠ 0 ∧ endsB (cutA s 35) 59 = false)
  · exact unpack_a s w hs HV h
  · exact unpack_b s w hs HV h
end Go.Proofs.YtecfphohmgbddaaDoor
