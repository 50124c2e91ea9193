/- the law RegretMatches -/
import Derived.Test.YtmmdfijjpeglgaaGreatDoorRgO
namespace Go.Proofs.YtmmdfijjpeglgaaGreatDoor
open Go.RowKit
set_option linter.unusedVariables false

theorem ratT_one : ratT ((1 : Int) : Rat) = ⟨#[49]⟩ := by decide +kernel
set_option maxHeartbeats 1600000 in
theorem regretMatches_walk (v : Value) (l : List ByteArray) (w : World) (hv : Strs w v l) (hs : ∀ s ∈ l, s.size ≤ 9223372036854775806) (htab : TabPow w) :
    Calls Tryz.prog 14 #[v] w fun e w' => e = .returned (.bool true) ∧ Ext w w' := by
  have H0 := regretFact_tab htab
  have H1 := Lib.hid (fun v W h => weight_any v [l] W h)
  obtain ⟨ao, c, rfl, hlen, _⟩ := hv.open
  have HV := Lib.hid hv
  have hVE : ∀ e0, vecE l = e0 → Hid (∀ W, Ext w W → Calls Tryz.prog 50 #[.slice ao l.length c] W fun e w' => e = .returned (.int .i64 e0) ∧ Ext W w') := fun e0 h W hx => rVecError_any _ l W (hv.ext hx) hs e0 h
  have hME : matchE l ≠ 0 → ∀ p, matchE l = p → Hid (∀ W, Ext w W → Calls Tryz.prog 69 #[.slice ao l.length c] W fun e w' => e = .returned (.tuple #[.slice none 0 0, .int .i64 p]) ∧ Ext W w') := fun he p hp W hx => by
    have := match_err _ l W (hv.ext hx) hs he
    rwa [hp] at this
  by_cases he : matchE l = 0
  · obtain ⟨hl0, hl12, hve, hok⟩ := matchE_zero hs he
    have hb : ((l.length : Int) == 0) = false := by rw [beq_eq_false_iff_ne]; omega
    have hli : (l.length : Int) ≤ 12 := by omega
    have hMG : ∀ W, Ext w W → Calls Tryz.prog 69 #[.slice ao l.length c] W (VecPost (matchQ l) W) := fun W hx => match_go _ l W (tabPow_ext htab hx) (hv.ext hx) hs he
    have hVS : ∀ q, vastB 12 [[l]] = q → Hid (∀ v W, MatsV W v [[l]] → Calls Tryz.prog 56 #[.int .i64 12, v] W fun e w' => e = .returned (.bool q) ∧ Ext W w') := fun q hq v W h => vast_any v 12 [[l]] W h (by omega) (fun m hm r hr s h2 => by
      simp only [List.mem_singleton] at hm
      subst hm
      simp only [List.mem_singleton] at hr
      subst hr
      exact hs s h2) q hq
    cases hvb : vastB 12 [[l]] with
    | true => exact regretM_vast ao c l w HV hb hli (matchQ l) H0 H1 hMG (hVE 0 hve) (hVS true hvb)
    | false =>
      have hsm : ∀ s ∈ l, s.size ≤ 12 := fun s h => by
        unfold vastB at hvb
        rw [List.any_cons, List.any_nil, Bool.or_false] at hvb
        unfold vastM at hvb
        rw [Bool.or_eq_false_iff] at hvb
        have h2 := hvb.2
        rw [List.any_cons, List.any_nil, Bool.or_false] at h2
        unfold vastR at h2
        rw [Bool.or_eq_false_iff] at h2
        have h3 := List.any_eq_false.1 h2.2 s h
        simp only [decide_eq_true_eq] at h3
        omega
      have hrb : ∀ s ∈ l, RB 12 (ratOf s) := fun s h => ratOf_RB (hok s h).1 (hsm s h) (by omega)
      have htx : ∀ s ∈ l, ratT (ratOf s) = s := fun s h => (text_ratT (hok s h).1).symm
      have hqs : ∀ q ∈ l.map ratOf, RB 12 q := fun q hq => by
        obtain ⟨s, hm, rfl⟩ := List.mem_map.1 hq
        exact hrb s hm
      have hsb := posS_RB (k := 12) (by omega) (l.map ratOf) 0 1 RB_zero hqs
      rw [List.length_map] at hsb
      have hmq : ∀ q ∈ matchQ l, RB 200 q := fun q hq => by
        unfold matchQ at hq
        obtain ⟨q1, h1, rfl⟩ := List.mem_map.1 hq
        obtain ⟨q2, h2, rfl⟩ := List.mem_map.1 h1
        unfold parQ
        split
        · exact (RB_divInt (k := 19) (by omega) (by decide) (by omega)).mono (by omega)
        · rename_i hz
          exact (RB_div (fun e => hz (by rw [e]; rfl)) (posQ_RB (hqs q2 h2) (by omega)) hsb).mono (by omega)
      have hos := outsG_all hmq (by omega)
      refine regretM_full ao c l w HV hb hli hl0 (posS (l.map ratOf) 0) ((matchQ l).map ratT) ?_ rfl hrb ?_ H0 H1 ?_ (hVE 0 hve) (hVS false hvb) ?_ ?_ ?_ ?_ ?_
      · show _ = _
        unfold matchQ
        rw [List.length_map, List.length_map, List.length_map, List.length_map]
      · intro i s h
        unfold matchQ
        rw [List.getElem?_map, List.getElem?_map, List.getElem?_map, List.getElem?_map, h]
        rfl
      · intro W hx
        refine (hMG W hx).mono ?_
        rintro e w' ⟨X, h⟩
        rcases h with ⟨hn, _⟩ | ⟨os, u, hn, rfl, hst⟩
        · rw [hos] at hn; cases hn
        · rw [hos] at hn; cases hn
          exact ⟨u, rfl, hst, X⟩
      · intro s W h
        have := rSign_any (by omega) (hrb s h) W
        rwa [htx s h] at this
      · intro s a k W h ha hk
        have := rAdd_any (k := k) (m := 12) (by omega) ha (hrb s h) W
        rwa [htx s h] at this
      · intro s a k W h ha hk h0
        have := rDiv_any (k := 12) (m := k) (by omega) (hrb s h) ha (num_ne_zero h0) W
        rwa [htx s h] at this
      · intro W
        exact rInt_any _ W (by omega) (by omega)
      · intro W
        have := rDiv_any (a := ((1 : Int) : Rat)) (b := (((l.length : Nat) : Int) : Rat)) (k := 19) (m := 19) (by omega) (RB_int (by omega) (by omega)) (RB_int (by omega) (by omega)) (by rw [Rat.num_intCast]; omega) W
        rw [ratT_one, one_div_int] at this
        exact this
  · by_cases h0 : l.length = 0
    · have hp : matchE l = 8 := by unfold matchE; rw [if_pos h0]
      exact regretM_none ao c l w HV (by simp [h0]) (by omega) (vecE l) H0 H1 (hME he 8 hp) (hVE _ rfl)
    · have hb : ((l.length : Int) == 0) = false := by rw [beq_eq_false_iff_ne]; omega
      by_cases h1 : 12 < l.length
      · have hp : matchE l = 2 := by unfold matchE; rw [if_neg h0, if_pos h1]
        exact regretM_large ao c l w HV hb (by omega) (vecE l) H0 H1 (hME he 2 hp) (hVE _ rfl)
      · have hp : matchE l = vecE l := by unfold matchE; rw [if_neg h0, if_neg h1]
        rw [hp] at he
        exact regretM_err ao c l w HV hb (by omega) (vecE l) (by simp [he]) (by simp) H0 H1 (hME (by rw [hp]; exact he) _ hp) (hVE _ rfl)
end Go.Proofs.YtmmdfijjpeglgaaGreatDoor
