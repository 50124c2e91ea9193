/- the law RatLists: joined -/
import Derived.Test.YtmmdfijjpeglgaaGreatDoorRatAK
import Derived.Test.YtmmdfijjpeglgaaGreatDoorRatAN
namespace Go.Proofs.YtmmdfijjpeglgaaGreatDoor
open Go.RowKit
set_option linter.unusedVariables false

theorem shares_bad {l : List ByteArray} {w w' : World} {e : Ending} {p : Int} (h : SharesPost l w e w') (hp : (posL l).2 = p) (h0 : p ≠ 0) : e = .returned (.tuple #[.slice none 0 0, .int .i64 p]) ∧ Ext w w' := by
  obtain ⟨hx, h | h | h | h⟩ := h
  · rw [hp] at h; exact ⟨h.2, hx⟩
  · exact absurd (hp.symm.trans h.1) h0
  · exact absurd (hp.symm.trans h.1) h0
  · exact absurd (hp.symm.trans h.1) h0
theorem shares_out {l : List ByteArray} {w w' : World} {e : Ending} (h : SharesPost l w e w') : ∃ u g, e = .returned (.tuple #[u, .int .i64 g]) ∧ Ext w w' := by
  obtain ⟨hx, h | h | h | h⟩ := h
  · exact ⟨_, _, h.2, hx⟩
  · exact ⟨_, _, h.2.2, hx⟩
  · exact ⟨_, _, h.2.2.2, hx⟩
  · obtain ⟨_, _, os, u, _, h, _⟩ := h; exact ⟨_, _, h, hx⟩
theorem bad_all {l : List ByteArray} {p : Int} (h : (sumL l).2 = p) (h0 : p ≠ 0) : sumT l = (⟨#[]⟩, p) ∧ (posL l).2 = p ∧ oddsE l = p := by
  have h1 : (posL l).2 = p := by
    unfold posL
    dsimp only
    rw [if_neg (by rw [h]; exact fun hh => h0 hh.1), h]
  refine ⟨?_, h1, ?_⟩
  · unfold sumT; rw [h, if_neg h0]
  · unfold oddsE; rw [h1, if_pos h0]
theorem drop_map_ratOf {l : List ByteArray} {i : Nat} {s : ByteArray} (h : l[i]? = some s) : (l.map ratOf).drop i = ratOf s :: (l.map ratOf).drop (i + 1) := by
  have hi := (List.getElem?_eq_some_iff.1 h).1
  rw [List.drop_eq_getElem_cons (by rw [List.length_map]; exact hi), List.getElem_map, (List.getElem?_eq_some_iff.1 h).2]

theorem ratLists_walk (v : Value) (l : List ByteArray) (w : World) (hv : Strs w v l) (hs : ∀ s ∈ l, s.size ≤ 9223372036854775806) (htab : TabPow w) :
    Calls Tryz.prog 8 #[v] w fun e w' => e = .returned (.bool true) ∧ Ext w w' := by
  have HF := ratFact_tab htab
  have HW := Lib.hid (fun v W h => weight_any v [l] W h)
  obtain ⟨ao, c, rfl, hlen, hc⟩ := hv.open
  have HV := Lib.hid hv
  have RE : Hid (∀ W, Ext w W → Calls Tryz.prog 19 #[.slice ao l.length c] W fun e w' => e = .returned (.int .i64 (errsL l)) ∧ Ext W w') := fun W hx => rRatErrors_any _ l W (hv.ext hx) hs (errsL l) rfl
  have RS : ∀ W, Ext w W → Calls Tryz.prog 41 #[.slice ao l.length c] W fun e w' => e = .returned (.tuple #[.string (sumT l).1, .int .i64 (sumT l).2]) ∧ Ext W w' := fun W hx => ratSum_any _ l W (tabPow_ext htab hx) (hv.ext hx) hs
  have RH : ∀ W, Ext w W → Calls Tryz.prog 43 #[.slice ao l.length c] W (SharesPost l W) := fun W hx => shares_any _ l W (tabPow_ext htab hx) (hv.ext hx) hs
  have RO : Hid (∀ W, Ext w W → Calls Tryz.prog 44 #[.slice ao l.length c] W fun e w' => e = .returned (.int .i64 (oddsE l)) ∧ Ext W w') := fun W hx => odds_any _ l W (tabPow_ext htab hx) (hv.ext hx) hs
  have RT : Hid (∀ W, Ext w W → Calls Tryz.prog 45 #[.slice ao l.length c] W fun e w' => e = .returned (.bool (shortB l)) ∧ Ext W w') := fun W hx => short_any _ l W (hv.ext hx) hs _ rfl
  by_cases hbig : 256 < l.length
  · obtain ⟨a1, a2, a3⟩ := bad_all (l := l) (p := 2) (by unfold sumL; rw [if_pos hbig]) (by omega)
    rw [a1] at RS
    rw [a3] at RO
    refine ratLists_large ao c l (errsL l) w HV (by omega) HF HW RS (fun W hx => ?_) (fun W hx => (RH W hx).mono fun e w' h => shares_bad h a2 (by omega)) RO RE
    have := best_bad _ l W (hv.ext hx) (.inl hbig)
    rwa [if_pos hbig] at this
  by_cases he : errsL l = 0
  rotate_left
  · obtain ⟨a1, a2, a3⟩ := bad_all (l := l) (p := errsL l) (by unfold sumL; rw [if_neg hbig, if_pos he]) he
    rw [a1] at RS
    rw [a3] at RO
    have hl0 : l.length ≠ 0 := fun h => he (by rw [List.eq_nil_of_length_eq_zero h]; rfl)
    exact ratLists_err ao c l (errsL l) w HV (by simp [he]) (by simp) (by omega) HF HW RS (fun W hx => best_err _ l W (hv.ext hx) hs (by omega) hl0 he) (fun W hx => (RH W hx).mono fun e w' h => shares_bad h a2 he) RO RE
  rw [he] at RE
  by_cases hl0 : l.length = 0
  · obtain rfl := List.eq_nil_of_length_eq_zero hl0
    have b1 : sumL [] = (0, 0) := rfl
    have b2 : posL [] = (0, 0) := rfl
    have b3 : sumT [] = (⟨#[48]⟩, 0) := by
      unfold sumT
      rw [b1, if_pos rfl, outF_fits (fits_RB RB_zero (by omega)), ratT_zero]
    have b4 : oddsE [] = 3 := by
      unfold oddsE
      rw [b2, if_neg (by simp), if_pos]
      intro h
      rw [cmpQ_zero] at h
      exact absurd h (by decide)
    rw [b3] at RS
    rw [b4] at RO
    refine ratLists_none ao c [] w HV (by simp) (by simp) HF HW RS (fun W hx => ?_) (fun W hx => (RH W hx).mono fun e w' h => ?_) RO RE
    · have := best_bad _ [] W (hv.ext hx) (.inr rfl)
      rwa [if_neg (by simp)] at this
    · obtain ⟨hx2, h | h | h | h⟩ := h
      · exact absurd (show (posL []).2 = 0 by rw [b2]) h.1
      · exact ⟨h.2.2, hx2⟩
      · exact absurd (show (posL []).1 = 0 by rw [b2]) h.2.1
      · exact absurd (show (posL []).1 = 0 by rw [b2]) h.2.1
  have hlb : ((l.length : Int) == 0) = false := by rw [beq_eq_false_iff_ne]; omega
  have RB2 : ∀ W, Ext w W → Calls Tryz.prog 42 #[.slice ao l.length c] W fun e w' => e = .returned (.tuple #[.int .i64 ((bestG (l.map ratOf) (l.map ratOf) 0 0 : Nat) : Int), .int .i64 0]) ∧ Ext W w' := fun W hx => best_go _ l W (hv.ext hx) hs (by omega) hl0 he
  by_cases hsh : shortB l = true
  rotate_left
  · rw [Bool.not_eq_true] at hsh
    rw [hsh] at RT
    exact ratLists_long ao c l _ _ _ _ w HV hlb (by omega) HF HW RS RB2 (fun W hx => (RH W hx).mono fun e w' h => shares_out h) RO RE RT
  rw [hsh] at RT
  have hok := errsL_zero he
  unfold shortB at hsh
  rw [Bool.and_eq_true, decide_eq_true_eq, Bool.not_eq_true', List.any_eq_false] at hsh
  obtain ⟨hs12, hs60⟩ := hsh
  have hrb : ∀ s ∈ l, RB 60 (ratOf s) := fun s hm => ratOf_RB (ratErr_ok (hok s hm)) (by have := hs60 s hm; simpa using this) (by omega)
  have htx : ∀ s ∈ l, ratT (ratOf s) = s := fun s hm => (text_ratT (ratErr_ok (hok s hm))).symm
  have hqs : ∀ q ∈ l.map ratOf, RB 60 q := fun q hq => by
    obtain ⟨s, hm, rfl⟩ := List.mem_map.1 hq
    exact hrb s hm
  obtain ⟨p1, p2, p3⟩ := posL_short hs12 he hqs
  have hsb := sumQ_RB (l.map ratOf) hqs
  rw [List.length_map] at hsb
  have hst : sumT l = (ratT (sumQ (l.map ratOf)), 0) := by
    unfold sumT
    rw [p2, if_pos rfl, p3]
    exact outF_RB hsb (by omega)
  rw [hst] at RS
  have hdrop : ∀ i, RB 733 (sumQ ((l.map ratOf).drop i)) := fun i => by
    have := sumQ_RB ((l.map ratOf).drop i) (fun q hq => hqs q (List.mem_of_mem_drop hq))
    refine this.mono ?_
    rw [List.length_drop, List.length_map]
    omega
  have HTOP := bestG_top (l.map ratOf) (l.map ratOf) 0 0 rfl (by omega) (.inl ⟨rfl, rfl, by rw [List.length_map]; omega⟩)
  rw [List.length_map] at HTOP
  have HQ : Hid (∀ (i : Nat) (s : ByteArray), l[i]? = some s → s ∈ l ∧ (l.map ratOf).drop i = ratOf s :: (l.map ratOf).drop (i + 1) ∧ (l.map ratOf).getD i 0 = ratOf s) := fun i s h =>
    ⟨List.mem_of_getElem? h, drop_map_ratOf h, by rw [List.getD_eq_getElem?_getD, List.getElem?_map, h]; rfl⟩
  have HADD : Hid (∀ (s : ByteArray) (i : Nat) W, s ∈ l → i ≤ l.length → Calls Tryz.prog 27 #[.string s, .string (ratT (sumQ ((l.map ratOf).drop i)))] W fun e w' => e = .returned (.string (ratT (ratOf s + sumQ ((l.map ratOf).drop i)))) ∧ Ext W w') := fun s i W hm _ => by
    have := rAdd_any (by omega) (hrb s hm) (hdrop i) W
    rwa [htx s hm] at this
  have HSGN : Hid (∀ (s : ByteArray) W, s ∈ l → Calls Tryz.prog 38 #[.string s] W fun e w' => e = .returned (.int .i64 (ratOf s).num.sign) ∧ Ext W w') := fun s W hm => by
    have := rSign_any (by omega) (hrb s hm) W
    rwa [htx s hm] at this
  have HCMP : Hid (∀ (s s2 : ByteArray) W, s ∈ l → s2 ∈ l → Calls Tryz.prog 37 #[.string s, .string s2] W fun e w' => e = .returned (.int .i64 (cmpQ (ratOf s) (ratOf s2))) ∧ Ext W w') := fun s s2 W hm hm2 => by
    have := rCmp_any (by omega) (hrb s hm) (hrb s2 hm2) W
    rwa [htx s hm, htx s2 hm2, cmpQ_sub] at this
  have hqb := sumQ_RB (l.map ratOf) hqs
  have hodd : oddsE l = if (posL l).2 ≠ 0 then (posL l).2 else if cmpQ (posL l).1 ((1 : Int) : Rat) ≠ 0 then 3 else 0 := rfl
  cases han : anyQ (l.map ratOf) with
  | true =>
    rw [han, if_pos rfl] at p1
    rw [p1, if_pos (by simp)] at hodd
    rw [hodd] at RO
    exact ratLists_neg ao c l w HV (l.map ratOf) _ hlb (by omega) (by omega) hc (by show _ = _; rw [List.length_map]) HTOP HQ HADD HSGN HCMP han HF HW RS RB2 (fun W hx => (RH W hx).mono fun e w' h => shares_bad h (by rw [p1]) (by omega)) RO RE RT
  | false =>
    rw [han, if_neg (by simp)] at p1
    rw [p1, if_neg (by simp)] at hodd
    dsimp only at hodd
    by_cases hz : sumQ (l.map ratOf) = 0
    · have ho3 : oddsE l = 3 := by
        rw [hodd, if_pos]
        intro h
        rw [cmpQ_zero, hz] at h
        exact absurd h (by decide)
      rw [ho3] at RO
      refine ratLists_zero ao c l w HV (l.map ratOf) _ hlb (by omega) (by omega) hc (by show _ = _; rw [List.length_map]) HTOP HQ HADD HSGN HCMP han (by rw [ratT_is0, hz]; rfl) HF HW RS RB2 (fun W hx => (RH W hx).mono fun e w' h => ?_) RO RE RT
      obtain ⟨hx2, h | h | h | h⟩ := h
      · exact absurd (show (posL l).2 = 0 by rw [p1]) h.1
      · exact ⟨h.2.2, hx2⟩
      · exact absurd (show (posL l).1 = 0 by rw [p1]; exact hz) h.2.1
      · exact absurd (show (posL l).1 = 0 by rw [p1]; exact hz) h.2.1
    · have hdv : ∀ q ∈ (l.map ratOf).map (· / (posL l).1), RB 793 q := fun q hq => by
        obtain ⟨q2, hq2, rfl⟩ := List.mem_map.1 hq
        rw [p1]
        exact (RB_div (num_ne_zero hz) (hqs q2 hq2) hsb).mono (by omega)
      have hos := outsG_RB (k := 793) (by omega) _ hdv
      refine ratLists_pos ao c l w HV (l.map ratOf) _ hlb (by omega) (by omega) hc (by show _ = _; rw [List.length_map]) HTOP HQ HADD HSGN HCMP (((l.map ratOf).map (· / (posL l).1)).map ratT) (oddsE l) (decide (sumQ (l.map ratOf) = ((1 : Int) : Rat))) han (by rw [ratT_is0]; exact decide_eq_false hz) (Lib.hid (ratT_is1 _)) ?_ (by show _ = _; rw [List.length_map, List.length_map, List.length_map]) ?_ HF HW RS RB2 (fun W hx => (RH W hx).mono fun e w' h => ?_) RO RE RT
      · show _ = _
        rw [hodd]
        by_cases h1 : sumQ (l.map ratOf) = ((1 : Int) : Rat)
        · rw [if_neg (by rw [Ne, Classical.not_not, cmpQ_zero]; exact h1), decide_eq_true h1, if_pos rfl]
        · rw [if_pos (by rw [Ne, cmpQ_zero]; exact h1), decide_eq_false h1, if_neg (by simp)]
      · intro i s t W h1 h2
        rw [List.getElem?_map, List.getElem?_map, List.getElem?_map, h1] at h2
        simp only [Option.map_some, Option.some.injEq] at h2
        subst h2
        have hm := List.mem_of_getElem? h1
        have := rDiv_any (by omega) (hrb s hm) hsb (num_ne_zero hz) W
        rw [htx s hm] at this
        rw [p1]
        exact this
      · obtain ⟨hx2, h | h | h | h⟩ := h
        · exact absurd (show (posL l).2 = 0 by rw [p1]) h.1
        · exact absurd (show (posL l).1 = sumQ (l.map ratOf) by rw [p1]) (by rw [h.2.1]; exact fun e => hz e.symm)
        · rw [hos] at h; cases h.2.2.1
        · obtain ⟨_, _, os, u, h3, h4, h5⟩ := h
          rw [hos] at h3
          obtain rfl := Option.some.inj h3
          obtain ⟨ao2, c2, rfl, _, hc2⟩ := h5.open
          rw [List.length_map, List.length_map, List.length_map] at h4
          exact ⟨ao2, c2, h4, hc2, hx2⟩
end Go.Proofs.YtmmdfijjpeglgaaGreatDoor
