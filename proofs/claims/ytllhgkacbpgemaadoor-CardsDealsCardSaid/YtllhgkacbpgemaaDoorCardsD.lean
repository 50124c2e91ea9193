/- the walk of CardsDeals -/
import Derived.Test.YtllhgkacbpgemaaDoorCardsF
import Derived.Deep.DeepCutAuto
import Derived.Deep.RegionHeld3
namespace Go.Proofs.YtllhgkacbpgemaaDoor
open Go.RowKit
set_option linter.unusedVariables false

def CutPost (xs : List Int) (k : Int) (w : World) (e : Ending) (w' : World) : Prop :=
  ∃ co cl cc ce, e = .returned (.tuple #[.slice co cl cc, .int .i64 ce]) ∧ Ext w w' ∧ (((k < 0 ∨ (xs.length : Int) < k) ∧ cl = 0 ∧ ce = 4) ∨ (∃ K : Nat, k = K ∧ K ≤ xs.length ∧ ce = 0 ∧ Ints w' (.slice co cl cc) (xs.drop K ++ xs.take K)))

theorem cut_any (v : Value) (xs : List Int) (k : Int) (w : World) (hv : Ints w v xs) (h : deckErr xs = 0) : Calls Tryd.prog 18 #[v, .int .i64 k] w (CutPost xs k w) := by
  by_cases hk : k < 0 ∨ (xs.length : Int) < k
  · exact (cut_err2 v xs k w hv h hk).mono fun e w' hh => ⟨none, 0, 0, 4, hh.1, hh.2 ▸ Ext.refl w, .inl ⟨hk, rfl, rfl⟩⟩
  · obtain ⟨K, rfl⟩ := Int.eq_ofNat_of_zero_le (show 0 ≤ k by omega)
    have hl := (deckErr_zero h).1
    refine (cut_ok v xs K w hv h (by omega)).mono fun e w' hh => ?_
    obtain ⟨u, he, ho, hx⟩ := hh
    have hi := own_rowOf (xs := xs.drop K ++ xs.take K) ho (by omega)
    obtain ⟨co, cc, rfl, _, _⟩ := hi.open
    exact ⟨co, _, cc, 0, he, hx, .inr ⟨K, rfl, by omega, rfl, hi⟩⟩

def DealPost (xs : List Int) (p k : Int) (w : World) (e : Ending) (w' : World) : Prop :=
  ∃ ho hl hc ro rl rc de, e = .returned (.tuple #[.slice ho hl hc, .slice ro rl rc, .int .i64 de]) ∧ Ext w w' ∧
    (((p < 1 ∨ 52 < p ∨ k < 0 ∨ 52 < k) ∧ hl = 0 ∧ rl = 0 ∧ de = 4) ∨
     (∃ P K n : Nat, p = P ∧ k = K ∧ 1 ≤ P ∧ P ≤ 52 ∧ K ≤ 52 ∧ Hid (P * K = n) ∧ xs.length < n ∧ hl = 0 ∧ rl = 0 ∧ de = 8) ∨
     (∃ P K n : Nat, p = P ∧ k = K ∧ 1 ≤ P ∧ P ≤ 52 ∧ K ≤ 52 ∧ Hid (P * K = n) ∧ n ≤ xs.length ∧ de = 0 ∧ hl = P ∧ Rows (Value.int .i64) w' (.slice ho hl hc) (handL xs P K 0) ∧ Ints w' (.slice ro rl rc) (xs.drop n)))

theorem deal_any (v : Value) (xs : List Int) (p k : Int) (w : World) (hv : Ints w v xs) (h : deckErr xs = 0) : Calls Tryd.prog 19 #[v, .int .i64 p, .int .i64 k] w (DealPost xs p k w) := by
  by_cases hp : p < 1 ∨ 52 < p ∨ k < 0 ∨ 52 < k
  · exact (deal_err2 v xs p k w hv h hp).mono fun e w' hh => ⟨none, 0, 0, none, 0, 0, 4, hh.1, hh.2 ▸ Ext.refl w, .inl ⟨hp, rfl, rfl, rfl⟩⟩
  · obtain ⟨P, rfl⟩ := Int.eq_ofNat_of_zero_le (show 0 ≤ p by omega)
    obtain ⟨K, rfl⟩ := Int.eq_ofNat_of_zero_le (show 0 ≤ k by omega)
    by_cases hn : xs.length < P * K
    · exact (deal_err3 v xs P K (P * K) w hv h (by omega) (by omega) (by omega) rfl hn).mono fun e w' hh => ⟨none, 0, 0, none, 0, 0, 8, hh.1, hh.2 ▸ Ext.refl w, .inr (.inl ⟨P, K, _, rfl, rfl, by omega, by omega, by omega, rfl, hn, rfl, rfl, rfl⟩)⟩
    · refine (deal_ok v xs P K (P * K) w hv h (by omega) (by omega) (by omega) rfl (by omega)).mono fun e w' hh => ?_
      obtain ⟨hv, rv, he, h1, h2, hx⟩ := hh
      obtain ⟨ro, rc, rfl, _, _⟩ := h2.open
      obtain ⟨us, hrow, hul, hr⟩ := h1
      obtain ⟨ho, hc, rfl, q1, q2, q3, q4⟩ := hrow
      exact ⟨ho, _, hc, ro, _, rc, 0, he, hx, .inr (.inr ⟨P, K, _, rfl, rfl, by omega, by omega, by omega, rfl, by omega, rfl, by rw [hul, handL_len], ⟨us, ⟨ho, hc, rfl, q1, q2, q3, q4⟩, hul, hr⟩, h2⟩)⟩

set_option maxHeartbeats 1600000 in
set_option maxRecDepth 100000 in
theorem deals_err (v : Value) (xs : List Int) (k p q : Int) (w : World) (hsh : w.ShapedOpen Tryd.prog) (hv : Ints w v xs) (h : deckErr xs ≠ 0) :
    Calls Tryd.prog 4 #[v, .int .i64 k, .int .i64 p, .int .i64 q] w fun e w' => e = .returned (.bool true) ∧ Ext w w' := by
  have HF := Lib.hid (cardsFact_any w hsh)
  have HC := fun (W : World) (hW : Ext w W) => cut_err1 v xs k W (hv.ext hW) h
  have HD := fun (W : World) (hW : Ext w W) => deal_err1 v xs p q W (hv.ext hW) h
  have HE := fun (W : World) (hW : Ext w W) => deckError_any v xs W (hv.ext hW)
  obtain ⟨de, hde⟩ : ∃ de, deckErr xs = de := ⟨_, rfl⟩
  rw [hde] at HC HD HE h
  have hb : (de != 0) = true := by simp [h]
  have HC := Lib.hid HC; have HD := Lib.hid HD; have HE := Lib.hid HE
  clear hv h hsh hde
  go_enter Tryd.func4, Tryd.ntmps4
  go_wp2_with fail
  refine HF.out.mono ?_
  rintro e w0 ⟨rfl, X0⟩
  go_wp2_with fail
  refine (HC.out _ (by exact X0)).mono ?_
  rintro e w' ⟨rfl, rfl⟩
  go_wp2_with fail
  refine (HD.out _ (by exact X0)).mono ?_
  rintro e w' ⟨rfl, rfl⟩
  go_wp2_with fail
  refine (HE.out _ (by exact X0)).mono ?_
  rintro e w' ⟨rfl, rfl⟩
  go_wp2_with fail
  go_ret
  exact ⟨rfl, X0⟩

set_option maxHeartbeats 4000000 in
set_option maxRecDepth 100000 in
theorem deals_ok (v : Value) (xs : List Int) (k p q : Int) (w : World) (hsh : w.ShapedOpen Tryd.prog) (hv : Ints w v xs) (h : deckErr xs = 0) :
    Calls Tryd.prog 4 #[v, .int .i64 k, .int .i64 p, .int .i64 q] w fun e w' => e = .returned (.bool true) ∧ Ext w w' := by
  have HF := Lib.hid (cardsFact_any w hsh)
  have h52 := (deckErr_zero h).1
  have HC := Lib.hid (fun (W : World) (hW : Ext w W) => cut_any v xs k W (hv.ext hW) h)
  have HD := Lib.hid (fun (W : World) (hW : Ext w W) => deal_any v xs p q W (hv.ext hW) h)
  have HE := fun (W : World) (hW : Ext w W) => deckError_any v xs W (hv.ext hW)
  rw [h] at HE
  have HE := Lib.hid HE
  obtain ⟨ao, c, rfl, hlen, hlc, hnn, hc⟩ := hv.open'
  have HCC := Lib.hid hc
  have HNN := Lib.hid hnn
  clear hv h hsh hc hnn
  go_enter Tryd.func4, Tryd.ntmps4
  go_wp2_with fail
  refine HF.out.mono ?_
  rintro e w0 ⟨rfl, X0⟩
  go_wp2_with fail
  refine (HC.out _ (by exact X0)).mono ?_
  rintro e w1 hP1
  obtain ⟨co, cl, cc, ce, rfl, hx1, hcut⟩ := hP1
  have HCU := Lib.hid hcut
  have X1 := X0.trans hx1
  clear hcut hx1
  go_wp2_with fail
  refine (HD.out _ (by exact X1)).mono ?_
  rintro e w2 hP2
  obtain ⟨ho, hl, hcc, ro, rl, rc, de, rfl, hx2, hdeal⟩ := hP2
  have HDE := Lib.hid hdeal
  have X2 := X1.trans hx2
  clear hdeal
  go_wp2_with fail
  refine (HE.out _ (by exact X2)).mono ?_
  rintro e w' ⟨rfl, rfl⟩
  go_upto_region 8 with fail
  go_cut [65] from 58 to 65 (fun s65 wx => ∃ b, s65 = .bool b ∧ Hid (b = true ↔ (k < 0 ∨ (xs.length : Int) < k)) ∧ w2 = wx)
  case first =>
    have hk2 : k < 0 ∨ (0 ≤ k ∧ (xs.length : Int) < k) ∨ (0 ≤ k ∧ k ≤ (xs.length : Int)) := by omega
    rcases hk2 with hk | ⟨hk0, hk1⟩ | ⟨hk0, hk1⟩
    · go_wp2_with fail
      go_meet
      exact ⟨true, by simp, by simp [Hid, hk], rfl⟩
    · go_wp2_with fail
      go_meet
      exact ⟨true, by simp, by simp [Hid, hk1], rfl⟩
    · go_wp2_with fail
      go_meet
      exact ⟨false, by simp; omega, by simp [Hid]; omega, rfl⟩
  case rest =>
  obtain ⟨b, rfl, hb, rfl⟩ := hcut
  go_upto_if 65 with fail
  go_cut [] from 66 to 88 (fun wx => Ext w2 wx)
  case first =>
    rcases HCU.out with ⟨hk, rfl, rfl⟩ | ⟨K, rfl, hK, rfl, hI⟩
    · have hbt : b = true := hb.out.2 hk
      subst hbt
      clear hk
      go_wp2_with fail
      go_meet
      exact Ext.refl _
    · have hbf : b = false := by
        cases b
        · rfl
        · have := hb.out.1 rfl; omega
      subst hbf
      have HT := Lib.hid (HCC.out.take HNN.out hlc hlen hK)
      have HK := Lib.hid (fun (W : World) (v : Value) (hW : Rows (Value.int .i64) W v [xs.drop K, xs.take K]) => concat_ints v _ W hW (by rw [lsum_cut]; exact hlen))
      have HI := Lib.hid hI
      have hKB : decide (xs.length < K) = false := by simp; omega
      have hKC : decide ((xs.length : Int) < (K : Int)) = false := by simp; omega
      have hKD : decide ((K : Int) < 0) = false := by simp
      have hKi : (K : Int) ≤ xs.length := by omega
      have hX := X2
      clear hI
      by_cases hKc : K < c
      · cases ao with
        | none => have := HNN.out rfl; omega
        | some ad =>
          have HD := Lib.hid (HCC.out.drop (i := K) hlc hlen hK)
          have hKc2 : (K : Int) ≤ (c : Int) := by omega
          have hKc0 : (0 : Int) ≤ (K : Int) := by omega
          have hcne : ¬ c = K := by omega
          go_wp2_with fail
          go_region_held3 (fun _ => True) (trivial) (first
            | (go_at_call 20; refine (HK.out _ _ (by exact (rows_two (HD.out.ext hX) (HT.out.ext hX) _ rfl).ext (Ext.refl _).drew)).mono ?_; rintro e w4 ⟨u, rfl, hO, hx4⟩; have HU := Lib.hid (own_rowOf (xs := xs.drop K ++ xs.take K) (by rw [lsum_cut] at hO; simpa using hO) (by omega)); clear hO)
            | (go_at_call 16; refine (equal_ints _ _ (xs.drop K ++ xs.take K) (xs.drop K ++ xs.take K) _ ((HI.out.ext hx2).ext (((Ext.refl w2).alloc _).drew.trans hx4)) HU.out true (by simp [Hid])).mono ?_; rintro e w5 ⟨rfl, hx5⟩))
          all_goals
            go_wp2_with fail
            go_meet
            exact ((Ext.refl w2).alloc _).drew.trans (hx4.trans hx5)
      · have hcx : c = K := by omega
        subst hcx
        have HD : Hid (Ints w (.slice ao 0 0) (xs.drop c)) := by rw [List.drop_eq_nil_of_le (by omega)]; exact ints_none w ao
        go_wp2_with fail
        go_region_held3 (fun _ => True) (trivial) (first
          | (go_at_call 20; refine (HK.out _ _ (by exact (rows_two (HD.out.ext hX) (HT.out.ext hX) _ rfl).ext (Ext.refl _).drew)).mono ?_; rintro e w4 ⟨u, rfl, hO, hx4⟩; have HU := Lib.hid (own_rowOf (xs := xs.drop c ++ xs.take c) (by rw [lsum_cut] at hO; simpa using hO) (by omega)); clear hO)
          | (go_at_call 16; refine (equal_ints _ _ (xs.drop c ++ xs.take c) (xs.drop c ++ xs.take c) _ ((HI.out.ext hx2).ext (((Ext.refl w2).alloc _).drew.trans hx4)) HU.out true (by simp [Hid])).mono ?_; rintro e w5 ⟨rfl, hx5⟩))
        all_goals
          go_wp2_with fail
          go_meet
          exact ((Ext.refl w2).alloc _).drew.trans (hx4.trans hx5)
  case rest =>
    have X3 := X2.trans hcut
    rcases HDE.out with ⟨hp, rfl, rfl, rfl⟩ | ⟨P, K, n, rfl, rfl, h1, h2, h3, HN, hn, rfl, rfl, rfl⟩ | ⟨P, K, n, rfl, rfl, h1, h2, h3, HN, hn, rfl, rfl, hR, hI⟩
    · have hp' : p < 1 ∨ (1 ≤ p ∧ 52 < p) ∨ (1 ≤ p ∧ p ≤ 52 ∧ q < 0) ∨ (1 ≤ p ∧ p ≤ 52 ∧ 0 ≤ q ∧ 52 < q) := by omega
      clear hp
      rcases hp' with h | ⟨h1, h2⟩ | ⟨h1, h2, h3⟩ | ⟨h1, h2, h3, h4⟩
      all_goals
        go_wp2_with fail
        go_ret
        exact ⟨rfl, X3⟩
    · have hn2 : n ≤ 2704 := by rw [← HN.out]; exact Nat.mul_le_mul h2 h3
      have hpn : (P : Int) * (K : Int) = (n : Int) := by rw [← HN.out]; simp
      have hw1 : (-9223372036854775808 : Int) ≤ (P : Int) * (K : Int) := by rw [hpn]; omega
      have hw2 : (P : Int) * (K : Int) ≤ 9223372036854775807 := by rw [hpn]; omega
      go_wp2_with fail
      go_ret
      exact ⟨rfl, X3⟩
    · have hn2 : n ≤ 52 := by omega
      have hpn : (hl : Int) * (K : Int) = (n : Int) := by rw [← HN.out]; simp
      have hw1 : (-9223372036854775808 : Int) ≤ (hl : Int) * (K : Int) := by rw [hpn]; omega
      have hw2 : (hl : Int) * (K : Int) ≤ 9223372036854775807 := by rw [hpn]; omega
      have hni : (n : Int) ≤ xs.length := by omega
      have hnB : decide (xs.length < n) = false := by simp; omega
      have hnC : decide ((xs.length : Int) < (n : Int)) = false := by simp; omega
      have hp1 : decide ((hl : Int) < 1) = false := by simp; omega
      have hp2 : decide (52 < (hl : Int)) = false := by simp; omega
      have hp3 : decide ((K : Int) < 0) = false := by simp
      have hp4 : decide (52 < (K : Int)) = false := by simp; omega
      have hp5 : decide (hl < 1) = false := by simp; omega
      have hp6 : decide (52 < hl) = false := by simp; omega
      have hp7 : decide (52 < K) = false := by simp; omega
      have hPP : (((hl : Nat) : Int) != (hl : Int)) = false := by simp
      obtain ⟨us, hrow, hul, hr⟩ := hR
      have HROW := Lib.hid hrow
      have HRR := Lib.hid hr
      have HUL := Lib.hid hul
      have HI := Lib.hid hI
      have hd : ∃ rv : Value, Hid (rv = (if n < c then .slice ((ao.map (·.add n))) (xs.length - n) (c - n) else .slice ao 0 0)) ∧ Ints w rv (xs.drop n) := by
        refine ⟨_, rfl, ?_⟩
        by_cases hnc : n < c
        · rw [if_pos hnc]
          cases ao with
          | none => have := HNN.out rfl; omega
          | some ad => exact HCC.out.drop hlc hlen hn
        · rw [if_neg hnc, List.drop_eq_nil_of_le (by omega)]
          exact ints_none w ao
      obtain ⟨rv, hrv, hrd⟩ := hd
      have hEQ := fun (W : World) (hW : Ext w2 W) => equal_ints (.slice ro rl rc) rv (xs.drop n) (xs.drop n) W (HI.out.ext hW) (hrd.ext (X2.trans hW)) true (by simp [Hid])
      rw [hrv.out] at hEQ
      have hXS := fun (i p : Nat) (hi : i < K) (hp : p < hl) => (show i * hl + p < xs.length from by
        have h1 : (i + 1) * hl ≤ K * hl := Nat.mul_le_mul_right hl hi
        rw [Nat.succ_mul, Nat.mul_comm K hl, HN.out] at h1
        omega)
      have HXS := Lib.hid hXS
      have hfin : True := trivial
      clear hrow hr hXS hrv hrd
      by_cases hnc : n < c
      · rw [if_pos hnc] at hEQ
        cases ao with
        | none => have := HNN.out rfl; omega
        | some ad =>
          simp only [Option.map_some] at hEQ
          have HEQ := Lib.hid hEQ
          clear hEQ
          go_wp2_with fail
          refine (HEQ.out _ (by exact hcut)).mono ?_
          rintro e w5 ⟨rfl, hx5⟩
          have X5 := X3.trans hx5
          have HCX := Lib.hid (hcut.trans hx5)
          go_wp2_with fail
          go_loop [148] (fun i => ∃ p : Nat, p ≤ hl ∧ i = .int .i64 p) (fun i => hl - (intOf i).toNat)
          case atStart => exact ⟨0, Nat.zero_le _, rfl⟩
          case round =>
            obtain ⟨p, hp, rfl⟩ := hrel
            by_cases hlt : p < hl
            · obtain ⟨u, hu, _, _⟩ := get_lt (xs := us) (k := p) (by rw [HUL.out, handL_len]; exact hlt)
              obtain ⟨hb, ho2, rfl, hcell0⟩ := (HROW.out.ext HCX.out).at hu
              have hrow := (HRR.out p u (handAt xs hl K 0 p) hu.out (handL_get xs hl K 0 p hlt)).ext HCX.out
              obtain ⟨hao, hac, rfl, _, hhc⟩ := hrow.open
              have hhl : (handAt xs hl K 0 p).length = K := by simp [handAt]
              rw [hhl] at hcell0
              have HHC := Lib.hid hhc
              have HHL := Lib.hid hhl
              have hKK : (((K : Nat) : Int) != (K : Int)) = false := by simp
              clear hrow hhc hhl
              go_wp2_with fail
              go_loop [159] (fun i => ∃ j : Nat, j ≤ K ∧ i = .int .i64 j) (fun i => K - (intOf i).toNat)
              case atStart => exact ⟨0, Nat.zero_le _, rfl⟩
              case round =>
                obtain ⟨j, hj, rfl⟩ := hrel
                by_cases hjt : j < K
                · have hti := HXS.out j p hjt hlt
                  obtain ⟨t, htt⟩ : ∃ t, j * hl + p = t := ⟨_, rfl⟩
                  rw [htt] at hti
                  obtain ⟨x, x1, _, _⟩ := get_lt hti
                  have hgj : Hid ((handAt xs hl K 0 p)[j]? = some x) := by
                    show _ = _
                    simp only [handAt]
                    rw [if_neg (by omega), Nat.add_zero, List.getElem?_map, List.getElem?_range hjt]
                    simp [List.getD_eq_getElem?_getD, htt, x1.out]
                  obtain ⟨jb, joff, rfl, hjc⟩ := HHC.out.at hgj
                  obtain ⟨xb, xoff, hax, hxc0⟩ := HCC.out.at x1
                  obtain rfl := Option.some.inj hax
                  have hxc := X5.cell hxc0
                  obtain ⟨m, hm⟩ : ∃ m, j * hl = m := ⟨_, rfl⟩
                  have hmi : (j : Int) * (hl : Int) = (m : Int) := by rw [← hm]; simp
                  have hm1 : (-9223372036854775808 : Int) ≤ (j : Int) * (hl : Int) := by rw [hmi]; omega
                  have hm2 : (j : Int) * (hl : Int) ≤ 9223372036854775807 := by rw [hmi]; omega
                  have hmt : m + p = t := by rw [← hm]; exact htt
                  have hxx : (x != x) = false := by simp
                  subst hmt
                  clear hm htt hxc0
                  go_wp2_with fail
                  go_round
                  case rel => exact ⟨j + 1, by omega, by go_num⟩
                  case measure => simp [intOf]; omega
                · go_wp2_with fail
                  go_round
                  case rel => exact ⟨p + 1, by omega, by go_num⟩
                  case measure => simp [intOf]; omega
            · go_wp2_with fail
              go_ret
              exact ⟨rfl, X5⟩
      · rw [if_neg hnc] at hEQ
        have HEQ := Lib.hid hEQ
        have hcn : c = n := by omega
        subst hcn
        clear hEQ
        go_wp2_with fail
        refine (HEQ.out _ (by exact hcut)).mono ?_
        rintro e w5 ⟨rfl, hx5⟩
        have X5 := X3.trans hx5
        have HCX := Lib.hid (hcut.trans hx5)
        go_wp2_with fail
        go_loop [148] (fun i => ∃ p : Nat, p ≤ hl ∧ i = .int .i64 p) (fun i => hl - (intOf i).toNat)
        case atStart => exact ⟨0, Nat.zero_le _, rfl⟩
        case round =>
          obtain ⟨p, hp, rfl⟩ := hrel
          by_cases hlt : p < hl
          · obtain ⟨u, hu, _, _⟩ := get_lt (xs := us) (k := p) (by rw [HUL.out, handL_len]; exact hlt)
            obtain ⟨hb, ho2, rfl, hcell0⟩ := (HROW.out.ext HCX.out).at hu
            have hrow := (HRR.out p u (handAt xs hl K 0 p) hu.out (handL_get xs hl K 0 p hlt)).ext HCX.out
            obtain ⟨hao, hac, rfl, _, hhc⟩ := hrow.open
            have hhl : (handAt xs hl K 0 p).length = K := by simp [handAt]
            rw [hhl] at hcell0
            have HHC := Lib.hid hhc
            have HHL := Lib.hid hhl
            have hKK : (((K : Nat) : Int) != (K : Int)) = false := by simp
            clear hrow hhc hhl
            go_wp2_with fail
            go_loop [159] (fun i => ∃ j : Nat, j ≤ K ∧ i = .int .i64 j) (fun i => K - (intOf i).toNat)
            case atStart => exact ⟨0, Nat.zero_le _, rfl⟩
            case round =>
              obtain ⟨j, hj, rfl⟩ := hrel
              by_cases hjt : j < K
              · have hti := HXS.out j p hjt hlt
                obtain ⟨t, htt⟩ : ∃ t, j * hl + p = t := ⟨_, rfl⟩
                rw [htt] at hti
                obtain ⟨x, x1, _, _⟩ := get_lt hti
                have hgj : Hid ((handAt xs hl K 0 p)[j]? = some x) := by
                  show _ = _
                  simp only [handAt]
                  rw [if_neg (by omega), Nat.add_zero, List.getElem?_map, List.getElem?_range hjt]
                  simp [List.getD_eq_getElem?_getD, htt, x1.out]
                obtain ⟨jb, joff, rfl, hjc⟩ := HHC.out.at hgj
                obtain ⟨xb, xoff, rfl, hxc0⟩ := HCC.out.at x1
                have hxc := X5.cell hxc0
                obtain ⟨m, hm⟩ : ∃ m, j * hl = m := ⟨_, rfl⟩
                have hmi : (j : Int) * (hl : Int) = (m : Int) := by rw [← hm]; simp
                have hm1 : (-9223372036854775808 : Int) ≤ (j : Int) * (hl : Int) := by rw [hmi]; omega
                have hm2 : (j : Int) * (hl : Int) ≤ 9223372036854775807 := by rw [hmi]; omega
                have hmt : m + p = t := by rw [← hm]; exact htt
                have hxx : (x != x) = false := by simp
                subst hmt
                clear hm htt hxc0
                go_wp2_with fail
                go_round
                case rel => exact ⟨j + 1, by omega, by go_num⟩
                case measure => simp [intOf]; omega
              · go_wp2_with fail
                go_round
                case rel => exact ⟨p + 1, by omega, by go_num⟩
                case measure => simp [intOf]; omega
          · go_wp2_with fail
            go_ret
            exact ⟨rfl, X5⟩
end Go.Proofs.YtllhgkacbpgemaaDoor
