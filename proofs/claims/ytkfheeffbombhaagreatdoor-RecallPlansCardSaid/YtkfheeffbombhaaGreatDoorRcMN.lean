/- texts merged: RcM RcN -/
import Derived.Test.YtkfheeffbombhaaGreatDoorRcIL
import Derived.Test.YtkfheeffbombhaaGreatDoorTrBY
/- tame, choiceWeight; plain: the worth of sequences -/
namespace Go.Proofs.YtkfheeffbombhaaGreatDoor
open Go.RowKit
set_option linter.unusedVariables false

/-! ### tame -/
set_option maxRecDepth 100000 in
theorem tameClo_any (s : ByteArray) (w : World) (hs : s.size ≤ 9223372036854775806) :
    Calls Tryz.prog 74 #[.string s] w fun e w' => e = .returned (.bool (decide (12 < s.size))) ∧ Ext w w' := by
  obtain ⟨n, hn⟩ : ∃ n, s.size = n := ⟨_, rfl⟩
  by_cases h : 12 < n
  · have hd : decide (12 < s.size) = true := by rw [hn]; exact decide_eq_true h
    have hb : (12 : Int) < (n : Int) := by omega
    rw [hd]
    clear hd
    go_enter Tryz.func74, Tryz.ntmps74
    go_wp2_with fail
    go_ret
    exact ⟨rfl, Ext.refl _⟩
  · have hd : decide (12 < s.size) = false := by rw [hn]; exact decide_eq_false h
    have hb : ¬ (12 : Int) < (n : Int) := by omega
    rw [hd]
    clear hd
    go_enter Tryz.func74, Tryz.ntmps74
    go_wp2_with fail
    go_ret
    exact ⟨rfl, Ext.refl _⟩
def tameB (S : List Ch) : Bool := S.all fun c => !(bulkB c.2)
/-- a row of strategies -/
def StrRow (w : World) (v : Value) (SS : List (List Ch)) : Prop := ∃ ao c, v = .slice ao SS.length c ∧ SS.length ≤ 1000 ∧ ∀ (j : Nat) (S : List Ch), SS[j]? = some S → ∃ b off u, ao = some ⟨b, off, none⟩ ∧ w.cell? ⟨b, off + j, none⟩ = some u ∧ StrIn w u S ∧ StrSz S
theorem StrRow.one {w : World} {u : Value} {S : List Ch} (h : StrIn w u S) (hz : StrSz S) (e : TypeId) (k : Nat) (hk : k = w.heap.size) : StrRow (w.alloc (.cells #[u] e)) (.slice (some ⟨k, 0, none⟩) 1 1) [S] := by
  subst hk
  refine ⟨_, _, rfl, by simp, fun j S2 hj => ?_⟩
  match j, hj with
  | 0, hj =>
    cases hj
    exact ⟨_, _, u, rfl, by rw [Nat.zero_add, World.cell?_alloc_new]; rfl, h.ext ((Ext.refl w).alloc _), hz⟩

set_option maxHeartbeats 3200000 in
set_option maxRecDepth 100000 in
theorem tame_any (v : Value) (SS : List (List Ch)) (w : World) (hv : StrRow w v SS) :
    Calls Tryz.prog 39 #[v] w fun e w' => e = .returned (.bool (SS.all tameB)) ∧ Ext w w' := by
  obtain ⟨wo, rfl⟩ : ∃ wo : World, wo = w := ⟨_, rfl⟩
  obtain ⟨ao, c, rfl, hlen, hn⟩ := hv
  have HN := Lib.hid hn
  obtain ⟨Q, hQ⟩ : ∃ Q, SS.all tameB = Q := ⟨_, rfl⟩
  have HQ := Lib.hid hQ
  rw [hQ]
  clear hn hQ
  go_enter Tryz.func39, Tryz.ntmps39
  go_wp2_with fail
  go_loopw [9] (fun iv wr => ∃ (i : Nat), i ≤ SS.length ∧ iv = .int .i64 i ∧ Hid ((SS.drop i).all tameB = Q) ∧ Ext wo wr) (fun iv _ => SS.length - (intOf iv).toNat)
  case atStart => exact ⟨0, Nat.zero_le _, rfl, HQ.out, Ext.refl _⟩
  case round =>
    obtain ⟨i, hi, rfl, HE, X⟩ := hrel
    by_cases hlt : i < SS.length
    · obtain ⟨S, d1, d2, d3⟩ := get_lt hlt
      obtain ⟨b, off, u, rfl, c0, hu, hz⟩ := HN.out i S d1.out
      obtain ⟨so, sc, rfl, hsl, hs⟩ := (hu.ext X).open
      have c0 := X.cell c0
      have hii : (i : Int) < (SS.length : Int) := by omega
      have hE := HE.out
      rw [d2.out, List.all_cons] at hE
      have HS := Lib.hid hs
      have HZ := Lib.hid hz
      have HXO := Lib.hid X
      obtain ⟨Q1, hQ1⟩ : ∃ Q1, tameB S = Q1 := ⟨_, rfl⟩
      have HQ1 : Hid ((S.drop 0).all (fun c : Ch => !(bulkB c.2)) = Q1) := hQ1
      rw [hQ1] at hE
      have HE2 := Lib.hid hE
      clear hu hs hz hlt d1 d2 d3 HE hE hQ1 X
      obtain ⟨wq, rfl⟩ : ∃ wq : World, wq = wr := ⟨_, rfl⟩
      go_wp2_with fail
      clear c0
      go_loopw [15] (fun jv wr => ∃ (j : Nat), j ≤ S.length ∧ jv = .int .i64 j ∧ Hid ((S.drop j).all (fun c : Ch => !(bulkB c.2)) = Q1) ∧ Ext wq wr) (fun jv _ => S.length - (intOf jv).toNat)
      case atStart => exact ⟨0, Nat.zero_le _, rfl, HQ1.out, Ext.refl _⟩
      case round =>
        obtain ⟨j, hj, rfl, HE, X⟩ := hrel
        by_cases hlj : j < S.length
        · obtain ⟨ch, e1, e2, _⟩ := get_lt hlj
          obtain ⟨sb, soff, co, cc, rfl, g0, g1, hco⟩ := (HS.out.ext X).at e1
          have hjj : (j : Int) < (S.length : Int) := by omega
          have hE := HE.out
          rw [e2.out, List.all_cons] at hE
          have HZ2 := Lib.hid (HZ.out ch (List.mem_of_getElem? e1.out))
          obtain ⟨ci, os⟩ := ch
          dsimp only at g0 g1 hco hE HZ2
          have HOS := Lib.hid hco
          obtain ⟨ox, hox⟩ : ∃ ox, os.length = ox := ⟨_, rfl⟩
          rw [hox] at g1 HOS
          obtain ⟨T7, hT7⟩ : ∃ T7, wr.heap.size = T7 := ⟨_, rfl⟩
          obtain ⟨W1, hW1⟩ : ∃ W1, wr.alloc (.cells #[.int .i64 ci, .slice co ox cc] 74) = W1 := ⟨_, rfl⟩
          have X1 : Ext wr W1 := by rw [← hW1]; exact (Ext.refl wr).alloc _
          have y1 : W1.cell? ⟨T7, 1, none⟩ = some (.slice co ox cc) := by rw [← hW1, ← hT7]; simp [go_sem]
          have HX1 := Lib.hid (X.trans X1)
          have HCF := Lib.hid (containsFunc_rats (.slice co ox cc) (os.map Value.string) (os.map fun s => decide (12 < s.size)) 74 #[] W1 (HOS.out.ext X1) (by rw [List.length_map, List.length_map]) (fun _ _ => by kernel_rfl)
            (fun j u q W2 hu hq h2 => by
              rw [List.getElem?_map] at hu hq
              cases hy : os[j]? with
              | none => rw [hy] at hu; cases hu
              | some y =>
                rw [hy] at hu hq
                simp only [Option.map_some, Option.some.injEq] at hu hq
                subst hu; subst hq
                exact tameClo_any y W2 (HZ2.out y (List.mem_of_getElem? hy)))
            (bulkB os) (by show _ = _; rw [List.any_map]; rfl))
          obtain ⟨B, hB⟩ : ∃ B, bulkB os = B := ⟨_, rfl⟩
          rw [hB] at hE HCF
          clear e1 e2 hox X1 HE hB HZ2 HOS hco hlj X
          cases B with
          | true =>
            have hq1 : Q1 = false := by rw [← hE]; rfl
            have hq : Q = false := by have h := HE2.out; rw [hq1] at h; rw [← h]; rfl
            subst hq
            clear hE
            go_wp2_with fail
            refine HCF.out.mono ?_
            rintro e w5 ⟨rfl, X5⟩
            go_wp2_with fail
            go_ret
            exact ⟨rfl, HXO.out.trans (HX1.out.trans X5)⟩
          | false =>
            have HE := Lib.hid hE
            clear hE
            go_wp2_with fail
            refine HCF.out.mono ?_
            rintro e w5 ⟨rfl, X5⟩
            go_wp2_with fail
            go_roundw
            case rel => exact ⟨j + 1, by omega, by go_num, by show _ = _; rw [← HE.out]; rfl, HX1.out.trans X5⟩
            case measure => simp [intOf]; omega
        · have hje : j = S.length := by omega
          subst hje
          have hE := HE.out
          rw [List.drop_length, List.all_nil] at hE
          subst hE
          have hge : ¬ (S.length : Int) < (S.length : Int) := by omega
          clear HE hlj
          go_wp2_with fail
          go_roundw
          case rel => exact ⟨i + 1, by omega, by go_num, by show _ = _; rw [← HE2.out]; rfl, HXO.out.trans X⟩
          case measure => simp [intOf]; omega
    · have hie : i = SS.length := by omega
      subst hie
      have hE := HE.out
      rw [List.drop_length, List.all_nil] at hE
      have hge : ¬ (SS.length : Int) < (SS.length : Int) := by omega
      subst hE
      clear HE HQ hlt
      go_wp2_with fail
      go_ret
      exact ⟨rfl, X⟩

/-! ### choiceWeight -/
set_option maxHeartbeats 3200000 in
set_option maxRecDepth 100000 in
theorem choiceWeight_any (v : Value) (S : List Ch) (w : World) (hv : StrIn w v S) :
    Calls Tryz.prog 35 #[v] w fun e w' => ∃ n, e = .returned (.int .i64 n) ∧ Ext w w' := by
  obtain ⟨wo, rfl⟩ : ∃ wo : World, wo = w := ⟨_, rfl⟩
  obtain ⟨ao, c, rfl, hlen, hn⟩ := hv.open
  have HN := Lib.hid hn
  clear hn hv
  go_enter Tryz.func35, Tryz.ntmps35
  go_wp2_with fail
  go_loopw [3, 8] (fun nv iv wr => ∃ (i : Nat) (n : Int), i ≤ S.length ∧ nv = .int .i64 n ∧ iv = .int .i64 i ∧ Ext wo wr) (fun _ iv _ => S.length - (intOf iv).toNat)
  case atStart => exact ⟨0, 0, Nat.zero_le _, rfl, rfl, Ext.refl _⟩
  case round =>
    obtain ⟨i, n, hi, rfl, rfl, X⟩ := hrel
    by_cases hlt : i < S.length
    · obtain ⟨x, d1, d2, d3⟩ := get_lt hlt
      obtain ⟨b, off, oo, oc, rfl, c0, c1, hod⟩ := (HN.out.ext X).at d1
      have hii : (i : Int) < (S.length : Int) := by omega
      have HW := Lib.hid (fun u W h => weight_any u [x.2] W h)
      have HOD := Lib.hid hod
      obtain ⟨T7, hT7⟩ : ∃ T7, wr.heap.size = T7 := ⟨_, rfl⟩
      obtain ⟨W1, hW1⟩ : ∃ W1, wr.alloc (.cells #[.int .i64 x.1, .slice oo x.2.length oc] 74) = W1 := ⟨_, rfl⟩
      have X1 : Ext wr W1 := by rw [← hW1]; exact (Ext.refl wr).alloc _
      have y4 : W1.cell? ⟨T7, 1, none⟩ = some (.slice oo x.2.length oc) := by rw [← hW1, ← hT7]; simp [go_sem]
      have HX1 := Lib.hid X1
      clear hod d1 d2 d3 hlt X1
      go_wp2_with fail
      refine (HW.out _ _ (by exact lit_rowsT _ _ (HOD.out.ext HX1.out) _ (by first | rfl | simp))).mono ?_
      rintro e w5 ⟨n5, rfl, X5⟩
      have XD : Ext W1 w5 := ((Ext.refl W1).alloc _).trans X5
      go_wp2_with fail
      go_roundw
      case rel => exact ⟨i + 1, _, by omega, rfl, by go_num, (X.trans HX1.out).trans XD⟩
      case measure => simp [intOf]; omega
    · have hge : ¬ (i : Int) < (S.length : Int) := by omega
      clear hlt
      go_wp2_with fail
      go_ret
      first
        | exact ⟨_, rfl, X⟩
        | exact X
        | exact ⟨⟨_, rfl⟩, X⟩

/-! ### plain -/
theorem tame_small {S : List Ch} (h : tameB S = true) : ∀ c ∈ S, ∀ s ∈ c.2, s.size ≤ 12 := fun c hc s hs => by
  unfold tameB bulkB at h
  rw [List.all_eq_true] at h
  have h1 := h c hc
  simp only [Bool.not_eq_true', List.any_eq_false, decide_eq_true_eq] at h1
  have := h1 s hs
  omega
theorem pick_RBm {q : Int} {c m : Nat} : ∀ {S : List Ch} {a : Rat}, (S.map (·.1)).Nodup → (∀ c ∈ S, ∀ s ∈ c.2, RatOk s ∧ s.size ≤ 12) → RB m a → RB (m + 12) (pickP S q c a)
  | [], a, _, _, ha => ha.mono (by omega)
  | s :: t, a, hn, ho, ha => by
    rw [List.map_cons, List.nodup_cons] at hn
    show RB _ (pickP t q c (if s.1 = q then _ else a))
    by_cases h : s.1 = q
    · rw [if_pos h, pick_none fun x hx e => hn.1 (by rw [h, ← e]; exact List.mem_map_of_mem hx)]
      refine RB_mul ha ?_
      cases hc : s.2[c]? with
      | none => exact RB_1.mono (by omega)
      | some o =>
        obtain ⟨h1, h2⟩ := ho s (List.mem_cons_self ..) o (List.mem_of_getElem? hc)
        exact ratOf_RB h1 h2 (by omega)
    · rw [if_neg h]
      exact pick_RBm hn.2 (fun x hx => ho x (List.mem_cons_of_mem _ hx)) ha
theorem planP_RBm {S : List Ch} (hn : (S.map (·.1)).Nodup) (ho : ∀ c ∈ S, ∀ s ∈ c.2, RatOk s ∧ s.size ≤ 12) : ∀ (ws : List (Int × Int)) (m : Nat) (a : Rat), RB m a → RB (m + 12 * ws.length) (ws.foldl (fun a s => pickP S s.1 s.2.toNat a) a)
  | [], m, a, ha => ha.mono (by omega)
  | s :: t, m, a, ha => by
    rw [List.foldl_cons, List.length_cons]
    exact (planP_RBm hn ho t _ _ (pick_RBm hn ho ha)).mono (by omega)
theorem plan_outs {T : List Nd} (hT : Valid T) {p : Int} {S : List Ch} (hS : FitS T p S) (ht : tameB S = true) : outsG (planL T p S) = some ((planL T p S).map ratT) := by
  refine outsG_RB (k := 1453) (by omega) _ fun q hq => ?_
  obtain ⟨ws, hw, rfl⟩ := List.mem_map.1 hq
  have h1 := WaysRow hT p T.length (Nat.le_refl _) ws hw
  exact (planP_RBm hS.nd (fun c hc s hs => ⟨hS.ok c hc s hs, tame_small ht c hc s hs⟩) ws 1 1 RB_1).mono (by omega)
/-- what a step of a sequence is -/
def Stp (T : List Nd) (p : Int) (s : Int × Int) : Prop := ∃ (c : Nat) (x : Nd), s.2 = (c : Int) ∧ x ∈ T ∧ isMove x p s.1 = true ∧ c < x.next.length
theorem way_steps {T : List Nd} (hT : Valid T) {p : Int} (hr : remB T p = true) : ∀ i, i ≤ T.length → ∀ ws ∈ waysL T p i, ∀ s ∈ ws, Stp T p s
  | 0, _, ws, hw, s, hs => by
    rw [waysL, List.mem_singleton] at hw
    subst hw
    cases hs
  | i + 1, hi, ws, hw, s, hs => by
    obtain ⟨x, hx⟩ : ∃ x, T[i]? = some x := ⟨T[i], List.getElem?_eq_getElem (by omega)⟩
    have ih := way_steps hT hr i (by omega)
    rw [waysL_succ hx] at hw
    by_cases hf : freshB T p i x = true
    · rw [if_pos hf] at hw
      rcases List.mem_append.1 hw with h | h
      · exact ih ws h s hs
      · obtain ⟨c, hc, rfl⟩ := List.mem_map.1 h
        rcases List.mem_append.1 hs with h2 | h2
        · exact ih _ (own_in hT hr (by omega)) s h2
        · rw [List.mem_singleton] at h2
          subst h2
          obtain ⟨f1, f2, _⟩ := freshB_iff.1 hf
          exact ⟨c, x, rfl, List.mem_of_getElem? hx, isMove_iff.2 ⟨f1, f2, rfl⟩, List.mem_range.1 hc⟩
    · rw [if_neg hf] at hw
      exact ih ws hw s hs
theorem planP_step {S : List Ch} {ws : List (Int × Int)} {i : Nat} {q : Int} {c : Nat} (h : ws[i]? = some (q, (c : Int))) : planP S (ws.take (i + 1)) = pickP S q c (planP S (ws.take i)) := by
  obtain ⟨h1, h2⟩ := List.getElem?_eq_some_iff.1 h
  rw [List.take_succ_eq_append_getElem h1, h2]
  exact planP_snoc S _ q c
theorem planP_take_RB {T : List Nd} {p : Int} {S : List Ch} (hS : FitS T p S) {ws : List (Int × Int)} (hl : ws.length ≤ 121) (i : Nat) : RB 242001 (planP S (ws.take i)) := by
  refine (planP_RB hS (ws.take i) 1 1 RB_1).mono ?_
  rw [List.length_take]; omega
end Go.Proofs.YtkfheeffbombhaaGreatDoor
/- the walk of RecallPlans -/
namespace Go.Proofs.YtkfheeffbombhaaGreatDoor
open Go.RowKit
set_option linter.unusedVariables false

theorem ei_vecR : EI Tryz.prog 67 36 (.string ⟨#[]⟩) 1 16 := ⟨Tryz.underlying67, info_parts info_rat, rfl, by decide⟩
/-- the texts of the worth of the first sequences -/
def planT (T : List Nd) (p : Int) (S : List Ch) (k : Nat) : List ByteArray := ((waysL T p T.length).take k).map fun ws => ratT (planP S ws)
theorem planT_succ {T : List Nd} {p : Int} {S : List Ch} {k : Nat} {ws : List (Int × Int)} (h : (waysL T p T.length)[k]? = some ws) : planT T p S (k + 1) = planT T p S k ++ [ratT (planP S ws)] := by
  obtain ⟨h1, h2⟩ := List.getElem?_eq_some_iff.1 h
  unfold planT
  rw [List.take_succ_eq_append_getElem h1, h2, List.map_append]
  rfl
theorem planT_all (T : List Nd) (p : Int) (S : List Ch) : planT T p S (waysL T p T.length).length = (planL T p S).map ratT := by
  unfold planT planL
  rw [List.take_length, List.map_map]
  rfl

set_option maxHeartbeats 12800000 in
set_option maxRecDepth 100000 in
theorem recallPlans_walk (v u : Value) (T : List Nd) (p : Int) (S : List Ch) (w : World) (hv : TreeIn w v T) (hz : TreeSz T) (hu : StrIn w u S) (hzs : StrSz S) (htab : TabPow w) :
    Calls Tryz.prog 8 #[v, .int .i64 p, u] w fun e w' => e = .returned (.bool true) ∧ Ext w w' := by
  obtain ⟨wo, rfl⟩ : ∃ wo : World, wo = w := ⟨_, rfl⟩
  have HF := Lib.hid (recallFact_any wo htab)
  have HW := Lib.hid (fun W (hX : Ext wo W) => treeWeight_any v T W (hv.ext hX))
  have HCW := Lib.hid (fun W (hX : Ext wo W) => choiceWeight_any u S W (hu.ext hX))
  have HMI := Lib.hid (fun W (hX : Ext wo W) => mild_any v T W (hv.ext hX) hz)
  have H1 := Lib.hid (fun W (hX : Ext wo W) => plan_any v u T p S W (tabPow_ext htab hX) (hv.ext hX) hz (hu.ext hX) hzs)
  have H2 := Lib.hid (fun W (hX : Ext wo W) => rRecallError_any v T p W (hv.ext hX) hz)
  have H3 := Lib.hid (fun W (hX : Ext wo W) => rStrategyError_any v u T p S W (hv.ext hX) (hu.ext hX) hzs)
  have H4 := Lib.hid (fun (hT : Valid T) W (hX : Ext wo W) => strategy_any v u T p S W (tabPow_ext htab hX) (hv.ext hX) hT (hu.ext hX) hzs)
  have H5 := Lib.hid (fun (hT : Valid T) (hr : remB T p = true) W (hX : Ext wo W) => rSequences_any v T p W (hv.ext hX) hT hr)
  have HSR := Lib.hid (fun e W k (hX : Ext wo W) (hk : k = W.heap.size) => StrRow.one (hu.ext hX) hzs e k hk)
  have HTA := Lib.hid (fun v2 W (h : StrRow W v2 [S]) => tame_any v2 [S] W h)
  obtain ⟨ao, c, rfl, _, _⟩ := hv.open
  obtain ⟨so, sc, rfl, hsl, hs⟩ := hu.open
  have HS := Lib.hid hs
  obtain ⟨M, hM⟩ : ∃ M, mildB T = M := ⟨_, rfl⟩
  rw [hM] at HMI
  obtain ⟨E, hE⟩ : ∃ E, recallE T p = E := ⟨_, rfl⟩
  have HE := Lib.hid hE
  obtain ⟨E2, hE2⟩ : ∃ E2, strategyE T p S = E2 := ⟨_, rfl⟩
  have HE2 := Lib.hid hE2
  rw [hE] at H2
  rw [hE2] at H3 H4
  clear hE hE2 hv hz hu hzs htab hM hs
  by_cases h0 : E = 0
  · subst h0
    obtain ⟨hT, hr, _, _⟩ := recall_ok HE.out
    have H4 := Lib.hid (H4.out hT)
    have H5 := Lib.hid (H5.out hT hr)
    by_cases h2 : E2 = 0
    · subst h2
      have hfit := fit_of hT HE2.out
      have HPO := Lib.hid (fun (ht : tameB S = true) => plan_outs hT hfit ht)
      have HST := Lib.hid (fun ws (hw : ws ∈ waysL T p T.length) s (hs : s ∈ ws) => way_steps hT hr T.length (Nat.le_refl _) ws hw s hs)
      have HWR := Lib.hid (fun ws (hw : ws ∈ waysL T p T.length) => WaysRow hT p T.length (Nat.le_refl _) ws hw)
      have HRB := Lib.hid (fun (ws : List (Int × Int)) (hl : ws.length ≤ 121) (i : Nat) => planP_take_RB hfit hl i)
      have HPR := Lib.hid (fun (j : Nat) (q : Int) (c m : Nat) (a : Rat) (ha : RB m a) => pick_RB (q := q) (c := c) (hfit.take j).nd (hfit.take j).ok ha)
      have HSOK := Lib.hid hfit.ok
      have HSW := Lib.hid (fun (s : Int × Int) (hs : Stp T p s) => (by
        obtain ⟨c, x, h1, h2, h3, h4⟩ := hs
        refine ⟨c, h1, fun ch hc hq => ?_⟩
        obtain ⟨m1, m2, m3⟩ := isMove_iff.1 h3
        have := hfit.wide ch hc x h2 m1 m2 (by rw [m3, hq])
        omega : ∃ c : Nat, s.2 = (c : Int) ∧ ∀ ch ∈ S, ch.1 = s.1 → c < ch.2.length))
      have HWL : Hid ((waysL T p T.length).length ≤ 100000) := by
        show _ ≤ _
        have h1 := ways_size hT p T.length (Nat.le_refl _)
        have h3 := hT.len
        omega
      have HPT := Lib.hid (fun k ws (h : (waysL T p T.length)[k]? = some ws) => planT_succ (S := S) h)
      have HPA := Lib.hid (planT_all T p S)
      have HP0 : Hid (planT T p S 0 = []) := rfl
      obtain ⟨tm, htm⟩ : ∃ tm, tameB S = tm := ⟨_, rfl⟩
      have HTA : Hid (∀ v2 W, StrRow W v2 [S] → Calls Tryz.prog 39 #[v2] W fun e w' => e = .returned (.bool tm) ∧ Ext W w') := fun v2 W h => by
        have := HTA.out v2 W h
        rwa [List.all_cons, List.all_nil, Bool.and_true, htm] at this
      have HTM := Lib.hid htm
      obtain ⟨WY, hWY⟩ : ∃ WY, waysL T p T.length = WY := ⟨_, rfl⟩
      have HWY := Lib.hid hWY
      rw [hWY] at HST HWR HWL HPT HPA
      clear hT hr hfit htm hWY
      go_enter Tryz.func8, Tryz.ntmps8
      go_wp2_with fail
      refine HF.out.mono ?_
      rintro e w1 ⟨rfl, X1⟩
      go_wp2_with fail
      refine (HW.out _ X1).mono ?_
      rintro e w2 ⟨n1, rfl, X2⟩
      have Y2 := X1.trans X2
      clear X1 X2
      go_wp2_with fail
      refine (HCW.out _ Y2).mono ?_
      rintro e w3 ⟨n2, rfl, X3⟩
      have Y3 := Y2.trans X3
      clear Y2 X3
      by_cases hw : (6000 : Int) < wrap64 (n1 + n2)
      · go_wp2_with fail
        go_ret
        exact ⟨rfl, Y3⟩
      · go_wp2_with fail
        refine (HMI.out _ Y3).mono ?_
        rintro e w4 ⟨rfl, X4⟩
        have Y4 := Y3.trans X4
        clear Y3 X4
        cases M with
        | false =>
          go_wp2_with fail
          go_ret
          exact ⟨rfl, Y4⟩
        | true =>
          go_wp2_with fail
          refine (H1.out _ Y4).mono ?_
          rintro e w5 ⟨r5, rfl, X5, h5⟩
          have HI5 : Hid (∃ (a : Value) (c : Int), r5 = .tuple #[a, .int .i64 c] ∧ (tm = true → c = 0 ∧ Strs w5 a ((planL T p S).map ratT))) := by
            rcases h5 with ⟨h, _⟩ | ⟨_, h, _⟩ | ⟨_, _, ⟨h, e⟩ | ⟨os, a9, ho, e, ha9⟩⟩
            · exact absurd HE.out h
            · exact absurd HE2.out h
            · exact ⟨_, _, e, fun ht => (by rw [HPO.out (by rw [HTM.out]; exact ht)] at h; cases h)⟩
            · refine ⟨_, _, e, fun ht => ⟨rfl, ?_⟩⟩
              rw [HPO.out (by rw [HTM.out]; exact ht)] at ho
              rw [Option.some.inj ho]; exact ha9
          clear h5
          have Y5 := Y4.trans X5
          obtain ⟨a5, c5, rfl, h5⟩ := HI5.out
          have HA := Lib.hid h5
          clear X5 Y4 HI5 h5
          go_wp2_with fail
          refine (H2.out _ Y5).mono ?_
          rintro e w6 ⟨rfl, X6⟩
          have Y6 := Y5.trans X6
          have HX6 := Lib.hid X6
          clear X6 Y5
          go_wp2_with fail
          refine (H3.out _ Y6).mono ?_
          rintro e w7 ⟨rfl, X7⟩
          have Y7 := Y6.trans X7
          have HX7 := Lib.hid (HX6.out.trans X7)
          clear X7 Y6 HX6
          go_wp2_with fail
          refine (H4.out _ Y7).mono ?_
          rintro e w8 ⟨rfl, X8⟩
          have Y8 := Y7.trans X8
          have HX8 := Lib.hid (HX7.out.trans X8)
          clear X8 Y7 HX7
          go_wp2_with fail
          refine (HTA.out _ _ (by exact HSR.out _ w8 _ Y8 (by first | rfl | simp))).mono ?_
          rintro e w9 ⟨rfl, X9⟩
          have Z9 := ((Ext.refl w8).alloc _).trans X9
          have Y9 := Y8.trans Z9
          have HX9 := Lib.hid (HX8.out.trans Z9)
          clear X9 Y8 Z9 HX8
          cases tm with
          | false =>
            go_wp2_with fail
            go_ret
            exact ⟨rfl, Y9⟩
          | true =>
            obtain ⟨rfl, ha5⟩ := HA.out rfl
            have HAF := Lib.hid (ha5.ext HX9.out)
            clear ha5 HX9
            go_wp2_with fail
            refine (H5.out _ Y9).mono ?_
            rintro e w10 ⟨r10, rfl, s10, g10, n10, k10, rfl, hs10, hg10, X10⟩
            rw [HWY.out] at hg10
            have hn10 := hg10.len
            subst hn10
            have HG := Lib.hid hg10
            have HAF2 := Lib.hid (HAF.out.ext X10)
            have HY := Lib.hid (Y9.trans X10)
            clear hs10 hg10 X10 Y9 H1 H2 H3 H4 H5 HF HW HCW HMI HTA HSR
            go_wp2_with fail
            go_loopw [12, 75] (fun ov iv wr => ∃ (i : Nat), i ≤ WY.length ∧ iv = .int .i64 i ∧ Hid (wr.ownsRow w10.heap.size 36 1 ov i ((planT T p S i).map Value.string)) ∧ Ext w10 wr) (fun _ iv _ => WY.length - (intOf iv).toNat)
            case atStart => exact ⟨0, Nat.zero_le _, rfl, by rw [HP0.out]; exact World.ownsRow_nil _ _ _ _, Ext.refl _⟩
            case round =>
              obtain ⟨i, hi, rfl, HO, X⟩ := hrel
              by_cases hlt : i < WY.length
              · obtain ⟨ws, d1, _, _⟩ := get_lt hlt
                obtain ⟨wa, wc, g0, hws, _⟩ := (HG.out.ext X).at d1.out
                obtain ⟨wa2, wc2, e2, hwl, hwo⟩ := hws.open
                simp only [Value.slice.injEq] at e2
                obtain ⟨rfl, _, rfl⟩ := e2
                have HWO := Lib.hid hwo
                have hii : (i : Int) < (WY.length : Int) := by omega
                have hwm := List.mem_of_getElem? d1.out
                have HSS := Lib.hid (fun s (hs : s ∈ ws) => HSW.out s (HST.out ws hwm s hs))
                have hw121 := HWR.out ws hwm
                have HRW := Lib.hid (fun (k : Nat) => HRB.out ws hw121 k)
                have HPS := Lib.hid (HPT.out i ws d1.out)
                have hWL := HWL.out
                have HXO := Lib.hid X
                have HOO := Lib.hid HO.out
                clear hlt d1 hws hwl hwo hwm X HO
                obtain ⟨wq, rfl⟩ : ∃ wq : World, wq = wr := ⟨_, rfl⟩
                obtain ⟨Wn, hWn⟩ : ∃ Wn, ws.length = Wn := ⟨_, rfl⟩
                rw [hWn] at g0 hw121
                have HWN := Lib.hid hWn
                clear hWn
                go_wp2_with fail
                clear g0
                go_loopw [15, 81] (fun qv jv wr => ∃ (j : Nat) (q : Rat), j ≤ Wn ∧ jv = .int .i64 j ∧ qv = .string (ratT q) ∧ Hid (q = planP S (ws.take j)) ∧ Ext wq wr) (fun _ jv _ => Wn - (intOf jv).toNat)
                case atStart => exact ⟨0, 1, Nat.zero_le _, rfl, by rw [show ratT 1 = ⟨#[49]⟩ from by decide +kernel], rfl, Ext.refl _⟩
                case round =>
                  obtain ⟨j, q, hj, rfl, rfl, HQ, X⟩ := hrel
                  by_cases hlj : j < Wn
                  · obtain ⟨s, e1, _, _⟩ := get_lt (xs := ws) (k := j) (by rw [HWN.out]; exact hlj)
                    obtain ⟨sb, soff, rfl, f0, f1⟩ := (HWO.out.ext X).at e1
                    obtain ⟨sc2, hs2, hsw⟩ := HSS.out s (List.mem_of_getElem? e1.out)
                    obtain ⟨sq, sx⟩ := s
                    dsimp only at f0 f1 hs2 hsw
                    subst hs2
                    have HSW2 := Lib.hid hsw
                    have hjj : (j : Int) < (Wn : Int) := by omega
                    have HPN : Hid (planP S (ws.take (j + 1)) = pickP S sq sc2 q) := by
                      show _ = _
                      rw [planP_step e1.out, ← HQ.out]
                    have HRQ : Hid (RB 242001 q) := by
                      show RB _ _
                      rw [HQ.out]; exact HRW.out j
                    obtain ⟨T7, hT7⟩ : ∃ T7, wr.heap.size = T7 := ⟨_, rfl⟩
                    obtain ⟨W5, hW5⟩ : ∃ W5, wr.alloc (.cells #[.int .i64 sq, .int .i64 (sc2 : Int)] 72) = W5 := ⟨_, rfl⟩
                    have X5 : Ext wr W5 := by rw [← hW5]; exact (Ext.refl wr).alloc _
                    have p0 : W5.cell? ⟨T7, 0, none⟩ = some (.int .i64 sq) := by rw [← hW5, ← hT7]; simp [go_sem]
                    have p1 : W5.cell? ⟨T7, 1, none⟩ = some (.int .i64 (sc2 : Int)) := by rw [← hW5, ← hT7]; simp [go_sem]
                    have HP0' := Lib.hid p0
                    have HP1' := Lib.hid p1
                    have HX5 := Lib.hid (X.trans X5)
                    have HXA := Lib.hid (HY.out.trans (HXO.out.trans (X.trans X5)))
                    clear hlj e1 hsw X5 HQ X
                    obtain ⟨wp, rfl⟩ : ∃ wp : World, wp = wr := ⟨_, rfl⟩
                    go_wp2_with fail
                    clear f0 f1 p0 p1 hT7
                    go_loopw [15, 87] (fun qv kv wr => ∃ (k : Nat) (r : Rat), k ≤ S.length ∧ kv = .int .i64 k ∧ qv = .string (ratT r) ∧ Hid (r = pickP (S.take k) sq sc2 q) ∧ Ext W5 wr) (fun _ kv _ => S.length - (intOf kv).toNat)
                    case atStart => exact ⟨0, q, Nat.zero_le _, rfl, rfl, rfl, Ext.refl _⟩
                    case round =>
                      obtain ⟨k, r, hk, rfl, rfl, HR, X⟩ := hrel
                      by_cases hlk : k < S.length
                      · obtain ⟨ch, e1, _, _⟩ := get_lt hlk
                        obtain ⟨sb2, soff2, co, cc, rfl, g0', g1', hco⟩ := (HS.out.ext (HXA.out.trans X)).at e1
                        have hkk : (k : Int) < (S.length : Int) := by omega
                        have HPS2 := Lib.hid (pick_step (q := sq) (c := sc2) e1.out q)
                        have HCM := Lib.hid (List.mem_of_getElem? e1.out)
                        have HOKC := Lib.hid (HSOK.out ch HCM.out)
                        have HWC := Lib.hid (HSW2.out ch HCM.out)
                        have hrb : RB 244001 r := by rw [HR.out]; exact HPR.out k sq sc2 _ q HRQ.out
                        obtain ⟨ci, os⟩ := ch
                        dsimp only at g0' g1' hco HPS2 HOKC HWC
                        rw [← HR.out] at HPS2
                        have y4 := X.cell HP0'.out
                        have y2 := X.cell HP1'.out
                        obtain ⟨T9, hT9⟩ : ∃ T9, wr.heap.size = T9 := ⟨_, rfl⟩
                        obtain ⟨W9, hW9⟩ : ∃ W9, wr.alloc (.cells #[.int .i64 ci, .slice co os.length cc] 74) = W9 := ⟨_, rfl⟩
                        have X9 : Ext wr W9 := by rw [← hW9]; exact (Ext.refl wr).alloc _
                        have z0 : W9.cell? ⟨T9, 0, none⟩ = some (.int .i64 ci) := by rw [← hW9, ← hT9]; simp [go_sem]
                        have z1 : W9.cell? ⟨T9, 1, none⟩ = some (.slice co os.length cc) := by rw [← hW9, ← hT9]; simp [go_sem]
                        have y4 := X9.cell y4
                        have y2 := X9.cell y2
                        have HX9 := Lib.hid (X.trans X9)
                        by_cases hci : ci = sq
                        · have HPQ : Hid (pickP (S.take (k + 1)) sq sc2 q = r * ((os[sc2]?).map ratOf).getD 1) := by show _ = _; rw [HPS2.out, if_pos hci]
                          obtain ⟨o, o1, _, _⟩ := get_lt (xs := os) (k := sc2) (HWC.out hci)
                          have HOO2 := Lib.hid (HOKC.out o (List.mem_of_getElem? o1.out))
                          have hsl9 : (sc2 : Int) < (os.length : Int) := by have := HWC.out hci; omega
                          obtain ⟨co2, cc2, e2, _, hoc⟩ := (hco.ext X9).open
                          simp only [Value.slice.injEq] at e2
                          obtain ⟨rfl, _, rfl⟩ := e2
                          obtain ⟨ob, ooff, rfl, ho0⟩ := hoc.at o1
                          have HPF : Hid (pickP (S.take (k + 1)) sq sc2 q = r * ratOf o) := by show _ = _; rw [HPQ.out, o1.out]; rfl
                          have ht : o = ratT (ratOf o) := text_ratT HOO2.out
                          have hro : RB 2000 (ratOf o) := ratOf_RB2k HOO2.out
                          clear HPQ HOO2 o1 HPS2 HOKC HWC HCM hoc hco e1 hlk
                          generalize ratOf o = r2 at *
                          subst ht
                          have HRM := Lib.hid (fun W => rMul_any (k := 244001) (m := 2000) (by omega) hrb hro W)
                          subst hci
                          clear hrb hro HR X X9
                          go_wp2_with fail
                          refine (HRM.out _).mono ?_
                          rintro e w10 ⟨rfl, X10⟩
                          go_wp2_with fail
                          go_roundw
                          case rel => exact ⟨k + 1, r * r2, by omega, by go_num, rfl, by show _ = _; rw [HPF.out], HX9.out.trans X10⟩
                          case measure => simp [intOf]; omega
                        · have HPF : Hid (pickP (S.take (k + 1)) sq sc2 q = r) := by show _ = _; rw [HPS2.out, if_neg hci]
                          have hb1 : (ci == sq) = false := by rw [beq_eq_false_iff_ne]; exact hci
                          clear hrb HR X X9 HPS2 HOKC HWC HCM hco e1 hlk hci
                          go_wp2_with fail
                          go_roundw
                          case rel => exact ⟨k + 1, r, by omega, by go_num, rfl, by show _ = _; rw [HPF.out], HX9.out⟩
                          case measure => simp [intOf]; omega
                      · have hke : k = S.length := by omega
                        subst hke
                        have HRE : Hid (r = pickP S sq sc2 q) := by have h := HR.out; rwa [List.take_of_length_le (Nat.le_refl _)] at h
                        have hge : ¬ (S.length : Int) < (S.length : Int) := by omega
                        clear hlk HR
                        go_wp2_with fail
                        go_roundw
                        case rel => exact ⟨j + 1, r, by omega, by go_num, rfl, by show _ = _; rw [HPN.out, HRE.out], HX5.out.trans X⟩
                        case measure => simp [intOf]; omega
                  · have hje : j = Wn := by omega
                    subst hje
                    have HQE : Hid (q = planP S ws) := by have h := HQ.out; rwa [List.take_of_length_le (by rw [HWN.out]; exact Nat.le_refl _)] at h
                    have hge : ¬ (j : Int) < (j : Int) := by omega
                    have HOX := Lib.hid (own_ext HOO.out X)
                    have HXX := Lib.hid (HXO.out.trans X)
                    have hbk : w10.heap.size ≤ wr.heap.size := HXX.out.size
                    have hl1 : i + 1 ≤ 17592186044416 := by omega
                    have hl2 : (i + 1) * 16 ≤ 140737488355328 := by omega
                    clear hlj HQ X HOO HXO
                    go_wp2_with (at_builtin; go_must (refine wp_app1 rfl rfl ei_vecR HOX.out rfl rfl (by simp) rfl hl1 hl2 (by simpa using hbk) ?_); intro v7 w7 hown hgrew)
                    have HO7 := Lib.hid hown
                    have HX7 := Lib.hid (hgrew.extNew HXX.out HOX.out (Nat.le_refl _))
                    clear hown hgrew HOX
                    go_roundw
                    case rel =>
                      refine ⟨i + 1, by omega, by go_num, ?_, HX7.out⟩
                      show World.ownsRow _ _ _ _ _ _ _
                      rw [HPS.out, List.map_append, ← HQE.out]
                      exact HO7.out
                    case measure => simp [intOf]; omega
              · have hie : i = WY.length := by omega
                subst hie
                have hWL := HWL.out
                have HRO := Lib.hid (own_rowOf (xs := planT T p S WY.length) HO.out (by omega))
                have HAF3 := Lib.hid (HAF2.out.ext X)
                have HYX := Lib.hid (HY.out.trans X)
                have hge : ¬ (WY.length : Int) < (WY.length : Int) := by omega
                have HRO : Hid (Strs wr u12 ((planL T p S).map ratT)) := by
                  have h := HRO.out
                  rwa [HPA.out] at h
                clear hlt HO X
                go_wp2_with fail
                refine (equal_vec _ _ _ _ HAF3.out HRO.out).mono ?_
                rintro e w11 ⟨rfl, X11⟩
                go_wp2_with fail
                go_ret
                exact ⟨rfl, HYX.out.trans X11⟩
    · have hb : (E2 != 0) = true := by rw [bne_iff_ne]; exact h2
      have hb2 : (E2 != E2) = false := by simp
      go_enter Tryz.func8, Tryz.ntmps8
      go_wp2_with fail
      refine HF.out.mono ?_
      rintro e w1 ⟨rfl, X1⟩
      go_wp2_with fail
      refine (HW.out _ X1).mono ?_
      rintro e w2 ⟨n1, rfl, X2⟩
      have Y2 := X1.trans X2
      clear X1 X2
      go_wp2_with fail
      refine (HCW.out _ Y2).mono ?_
      rintro e w3 ⟨n2, rfl, X3⟩
      have Y3 := Y2.trans X3
      clear Y2 X3
      by_cases hw : (6000 : Int) < wrap64 (n1 + n2)
      · go_wp2_with fail
        go_ret
        exact ⟨rfl, Y3⟩
      · go_wp2_with fail
        refine (HMI.out _ Y3).mono ?_
        rintro e w4 ⟨rfl, X4⟩
        have Y4 := Y3.trans X4
        clear Y3 X4
        cases M with
        | false =>
          go_wp2_with fail
          go_ret
          exact ⟨rfl, Y4⟩
        | true =>
          go_wp2_with fail
          refine (H1.out _ Y4).mono ?_
          rintro e w5 ⟨r5, rfl, X5, h5⟩
          have HI5 : Hid (r5 = .tuple #[.slice none 0 0, .int .i64 E2]) := by
            rcases h5 with ⟨h, _⟩ | ⟨_, h, e⟩ | ⟨_, h, _⟩
            · exact absurd HE.out h
            · rw [HE2.out] at e; exact e
            · exact absurd h (by rw [HE2.out]; exact h2)
          clear h5
          have Y5 := Y4.trans X5
          obtain rfl := HI5.out
          clear X5 Y4 HI5
          go_wp2_with fail
          refine (H2.out _ Y5).mono ?_
          rintro e w6 ⟨rfl, X6⟩
          have Y6 := Y5.trans X6
          clear X6 Y5
          go_wp2_with fail
          refine (H3.out _ Y6).mono ?_
          rintro e w7 ⟨rfl, X7⟩
          have Y7 := Y6.trans X7
          clear X7 Y6
          go_wp2_with fail
          refine (H4.out _ Y7).mono ?_
          rintro e w8 ⟨rfl, X8⟩
          have Y8 := Y7.trans X8
          clear X8 Y7
          go_wp2_with fail
          go_ret
          exact ⟨rfl, Y8⟩
  · have hb : (E != 0) = true := by rw [bne_iff_ne]; exact h0
    have hb0 : (E == 0) = false := by rw [beq_eq_false_iff_ne]; exact h0
    clear H3 H4 H5
    go_enter Tryz.func8, Tryz.ntmps8
    go_wp2_with fail
    refine HF.out.mono ?_
    rintro e w1 ⟨rfl, X1⟩
    go_wp2_with fail
    refine (HW.out _ X1).mono ?_
    rintro e w2 ⟨n1, rfl, X2⟩
    have Y2 := X1.trans X2
    clear X1 X2
    go_wp2_with fail
    refine (HCW.out _ Y2).mono ?_
    rintro e w3 ⟨n2, rfl, X3⟩
    have Y3 := Y2.trans X3
    clear Y2 X3
    by_cases hw : (6000 : Int) < wrap64 (n1 + n2)
    · go_wp2_with fail
      go_ret
      exact ⟨rfl, Y3⟩
    · go_wp2_with fail
      refine (HMI.out _ Y3).mono ?_
      rintro e w4 ⟨rfl, X4⟩
      have Y4 := Y3.trans X4
      clear Y3 X4
      cases M with
      | false =>
        go_wp2_with fail
        go_ret
        exact ⟨rfl, Y4⟩
      | true =>
        go_wp2_with fail
        refine (H1.out _ Y4).mono ?_
        rintro e w5 ⟨r5, rfl, X5, h5⟩
        have HI5 : Hid (r5 = .tuple #[.slice none 0 0, .int .i64 E]) := by
          rcases h5 with ⟨_, e⟩ | ⟨h, _⟩ | ⟨h, _⟩
          · rw [HE.out] at e; exact e
          · exact absurd h (by rw [HE.out]; exact h0)
          · exact absurd h (by rw [HE.out]; exact h0)
        clear h5
        have Y5 := Y4.trans X5
        obtain rfl := HI5.out
        clear X5 Y4 HI5
        go_wp2_with fail
        refine (H2.out _ Y5).mono ?_
        rintro e w6 ⟨rfl, X6⟩
        have Y6 := Y5.trans X6
        clear X6 Y5
        go_wp2_with fail
        go_ret
        exact ⟨rfl, Y6⟩
end Go.Proofs.YtkfheeffbombhaaGreatDoor
