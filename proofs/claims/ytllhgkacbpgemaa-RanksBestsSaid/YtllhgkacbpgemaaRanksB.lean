/- the walk of RanksBests -/
import Derived.Test.YtllhgkacbpgemaaRanksB1
import Derived.Deep.DeepCutAuto
import Derived.IntWalk
import Derived.Laws.BitsLemmas
namespace Go.Proofs.Ytllhgkacbpgemaa
open Go.RowKit
set_option linter.unusedVariables false

theorem range_get {n k : Nat} (h : k < n) : Hid ((List.range n).drop k = k :: (List.range n).drop (k + 1)) ∧ Hid ((List.range n).take (k + 1) = (List.range n).take k ++ [k]) := by
  have hl : k < (List.range n).length := by simpa using h
  obtain ⟨x, h1, h2, h3⟩ := get_lt hl
  have hx : x = k := by
    have := h1.out
    rw [List.getElem?_range h] at this
    exact (Option.some.inj this).symm
  subst hx
  exact ⟨h2, h3⟩

theorem i64_and1 (n : Int) : bits .and .i64 n 1 = n % 2 := by
  have h1 : (BitVec.ofInt 64 1).toNat = 2 ^ 1 - 1 := by decide
  have key : (BitVec.ofInt 64 n &&& BitVec.ofInt 64 1).toNat = (n % ((2 ^ 64 : Nat) : Int)).toNat % 2 ^ 1 := by
    rw [BitVec.toNat_and, BitVec.toNat_ofInt, h1, Nat.and_two_pow_sub_one_eq_mod]
  show IntKind.i64.wrap ((BitVec.ofInt 64 n &&& BitVec.ofInt 64 1).toNat : Nat) = n % 2
  rw [key, IntKind.wrap_i64]
  omega
theorem bit_test (s j : Nat) : (bits BinOp.and IntKind.i64 ((s : Int) / 2 ^ j) 1 == 1) = bitN s j := by
  have e : ((s : Int) / 2 ^ j) = ((s / 2 ^ j : Nat) : Int) := by simp
  rw [e, i64_and1, bitN]
  generalize s / 2 ^ j = n
  rw [Bool.eq_iff_iff, beq_iff_eq, beq_iff_eq]
  omega

/-- two rows in different blocks -/
def Ne2 (a b : Value) : Prop := ∀ k, a.ownBlock = some k → b.ownBlock ≠ some k
theorem Ne2.first {W W1 : World} {a a' b : Value} {B : Nat} {e : TypeId} {sz n : Nat} {xs : List Value} (h : Ne2 a b) (hb : W.ownsRow B e sz b n xs) (hg : Grew W a W1 a') : Ne2 a' b := by
  intro k hk hb2
  rcases hg.blk with h1 | h1
  · exact h k (h1 ▸ hk) hb2
  · have := h1 k hk
    have := (hb.lt k hb2).2
    omega
theorem Ne2.second {W W1 : World} {a b b' : Value} {B : Nat} {e : TypeId} {sz n : Nat} {xs : List Value} (h : Ne2 a b) (ha : W.ownsRow B e sz a n xs) (hg : Grew W b W1 b') : Ne2 a b' := by
  intro k hk hb2
  rcases hg.blk with h1 | h1
  · exact h k hk (h1 ▸ hb2)
  · have := h1 k hb2
    have := (ha.lt k hk).2
    omega
theorem Ne2.kept1 {a b : Value} (h : Ne2 a b) : b.ownBlock ≠ a.ownBlock ∨ b.ownBlock = none := by
  cases hb : b.ownBlock with
  | none => exact .inr rfl
  | some k => exact .inl fun e => h k e.symm hb
theorem Ne2.kept2 {a b : Value} (h : Ne2 a b) : a.ownBlock ≠ b.ownBlock ∨ a.ownBlock = none := by
  cases ha : a.ownBlock with
  | none => exact .inr rfl
  | some k => exact .inl fun e => h k ha e.symm

theorem plS_ok (n s : Nat) : (plS n s).Nodup ∧ (∀ p ∈ plS n s, p < n) ∧ (plS n s).length ≤ n := by
  refine ⟨List.Nodup.sublist List.filter_sublist List.nodup_range, fun p hp => ?_, ?_⟩
  · exact List.mem_range.1 (List.mem_filter.1 hp).1
  · have := List.length_filter_le (bitN s) (List.range n); simpa [plS] using this
theorem filt_succ (s j : Nat) : (List.range (j + 1)).filter (bitN s) = (List.range j).filter (bitN s) ++ (if bitN s j then [j] else []) := by
  rw [List.range_succ, List.filter_append]
  by_cases h : bitN s j = true
  · simp [h]
  · simp [h]

set_option maxHeartbeats 6400000 in
set_option maxRecDepth 100000 in
theorem bests_walk (v : Value) (l : List Int) (w : World) (hv : Ints w v l) :
    Calls Try.prog 9 #[v] w fun e w' => e = .returned (.bool true) ∧ Ext w w' := by
  have HF := Lib.hid (ranksFact_any w)
  have HB := Lib.hid (fun (W : World) (hW : Ext w W) => best_any v l W (hv.ext hW))
  obtain ⟨d, hd⟩ : ∃ d, Hid (deckErr l = d) := ⟨_, rfl⟩
  have HD := Lib.hid (fun (W : World) (hW : Ext w W) => deckError_any v l W (hv.ext hW))
  rw [hd.out] at HD
  obtain ⟨be, hbe⟩ : ∃ be, Hid (bestErr l = be) := ⟨_, rfl⟩
  obtain ⟨ao, c, rfl, hlen, hc⟩ := hv.open
  have HCC := Lib.hid hc
  clear hv hc
  go_enter Try.func9, Try.ntmps9
  go_wp2_with fail
  refine HF.out.mono ?_
  rintro e w1 ⟨rfl, X1⟩
  go_wp2_with fail
  refine (HB.out _ (by exact X1)).mono ?_
  rintro e w2 hP
  obtain ⟨u, m, hu, hx2, hcase⟩ := hP
  rw [hbe.out] at hu hcase
  subst hu
  have HCASE := Lib.hid hcase
  have X2 := X1.trans hx2
  have hsl : ∃ uo ul uc, u = .slice uo ul uc := by
    rcases hcase with ⟨_, rfl, _⟩ | ⟨_, _, hI⟩
    · exact ⟨_, _, _, rfl⟩
    · obtain ⟨o, cc, rfl, _⟩ := hI.open
      exact ⟨_, _, _, rfl⟩
  obtain ⟨uo, ul, uc, rfl⟩ := hsl
  clear hcase hx2
  go_wp2_with fail
  refine (HD.out _ (by exact X2)).mono ?_
  rintro e w' ⟨rfl, rfl⟩
  by_cases hok : be = 0
  · subst hok
    have hdl : d = 0 ∧ 5 ≤ l.length ∧ l.length ≤ 9 := by
      have h := hbe.out
      rw [bestErr, hd.out] at h
      by_cases h0 : d = 0
      · rw [if_pos h0] at h
        by_cases h5 : l.length < 5
        · rw [if_pos h5] at h; omega
        · rw [if_neg h5] at h
          by_cases h9 : 9 < l.length
          · rw [if_pos h9] at h; omega
          · exact ⟨h0, by omega, by omega⟩
      · rw [if_neg h0] at h; exact absurd h h0
    obtain ⟨h0, h5, h9⟩ := hdl
    subst h0
    have hI : m = (bestF l).2 ∧ RowOf encN w2 (.slice uo ul uc) (bestF l).1 := by
      rcases HCASE.out with ⟨h, _⟩ | ⟨_, h1, h2⟩
      · exact absurd rfl h
      · exact ⟨h1, h2⟩
    obtain ⟨hm, hI⟩ := hI
    have HI0 := Lib.hid hI
    have HM := Lib.hid hm
    obtain ⟨_, hrg, hnd⟩ := deckErr_zero hd.out
    have HRG := Lib.hid hrg
    have HND := Lib.hid hnd
    have HLAW := Lib.hid (bests_law hd.out h5 h9)
    have h5i : (5 : Int) ≤ (l.length : Int) := by omega
    have h9i : (l.length : Int) ≤ 9 := by omega
    obtain ⟨N, hN⟩ : ∃ N : Nat, 2 ^ l.length = N := ⟨_, rfl⟩
    have hN := Lib.hid hN
    have hdb1 : decide ((l.length : Int) < 5) = false := by simp; omega
    have hdb2 : decide (9 < (l.length : Int)) = false := by simp; omega
    have hN512 : N ≤ 512 := by rw [← hN.out]; exact Nat.pow_le_pow_right (by decide) h9
    clear hI hm hrg hnd
    have hw2 : wrap64 ((2 : Int) ^ l.length) = (N : Int) := by
      have e : ((2 : Int) ^ l.length) = (N : Int) := by rw [← hN.out]; simp
      rw [e]; exact IntWalk.wrap64_in _ (by omega)
    have HW2 := Lib.hid hw2
    clear hw2
    go_wp2_with fail
    rw [HW2.out]
    go_loopw [7, 8, 56] (fun b m i wr => ∃ (k : Nat) (st : List Nat × Int), k ≤ N ∧ i = .int .i64 k ∧ m = .int .i64 st.2 ∧ Ext w2 wr ∧ wr.ownsRow w2.heap.size 3 1 b st.1.length (st.1.map encN) ∧ st.1.length ≤ 9 ∧ Hid ((((List.range N).drop k).map (plS l.length)).foldl (updW (fun pl => valueR (atP l pl))) st = lawB l)) (fun _ _ i _ => N - (intOf i).toNat)
    case atStart => exact ⟨0, ([], -1), Nat.zero_le _, rfl, rfl, Ext.refl _, World.ownsRow_nil _ _ _ _, Nat.zero_le _, by show _ = _; rw [lawB, masks, hN.out]; rfl⟩
    case round =>
      obtain ⟨s, ⟨best, most⟩, hs, rfl, rfl, HX, HO, hb9, HI⟩ := hrel
      simp only at HO hb9
      have HOB := Lib.hid HO
      have hsz := HX.size
      clear HO
      by_cases hlt : s < N
      · have hi := HI.out
        rw [(range_get hlt).1.out, List.map_cons, List.foldl_cons] at hi
        have HI2 := Lib.hid hi
        have hsi : (s : Int) < (N : Int) := by omega
        clear hi
        obtain ⟨wo, rfl⟩ : ∃ wo : World, wo = wr := ⟨_, rfl⟩
        go_wp2_with fail
        go_loopw [10, 11, 61] (fun pv hv i wr => ∃ (j : Nat), j ≤ l.length ∧ i = .int .i64 j ∧ Ext wo wr ∧ wr.ownsRow wo.heap.size 3 1 pv ((List.range j).filter (bitN s)).length (((List.range j).filter (bitN s)).map encN) ∧
          wr.ownsRow wo.heap.size 3 1 hv ((List.range j).filter (bitN s)).length ((atP l ((List.range j).filter (bitN s))).map (Value.int .i64)) ∧ Hid (Ne2 pv hv)) (fun _ _ i _ => l.length - (intOf i).toNat)
        case atStart => exact ⟨0, Nat.zero_le _, rfl, Ext.refl _, World.ownsRow_nil _ _ _ _, World.ownsRow_nil _ _ _ _, by intro k hk; simp [Value.ownBlock] at hk⟩
        case round =>
          obtain ⟨j, hj, rfl, HY, HP, HH, HNE⟩ := hrel
          by_cases hlt2 : j < l.length
          · obtain ⟨y, y1, _, _⟩ := get_lt hlt2
            obtain ⟨bk, off, rfl, hcell0⟩ := HCC.out.at y1
            have hcell := (X2.trans (HX.trans HY)).cell hcell0
            have HP := Lib.hid HP
            have HH := Lib.hid HH
            have hszY := HY.size
            have hbt := bit_test s j
            have hfs := filt_succ s j
            obtain ⟨pl, hpl⟩ : ∃ pl, (List.range j).filter (bitN s) = pl := ⟨_, rfl⟩
            have hpl9 : pl.length ≤ 9 := by
              have := List.length_filter_le (bitN s) (List.range j)
              rw [hpl] at this; simp at this; omega
            rw [hpl] at HP HH hfs
            clear hcell0 hpl
            cases hbit : bitN s j with
            | true =>
              rw [hbit] at hbt hfs
              simp only [if_true] at hfs
              have HFS := Lib.hid hfs
              clear hfs hbit
              go_wp2_with (first
                | (at_builtin; refine wp_app1 (s := .tmp 71) (x := .tmp 73) rfl rfl ei_ints HP.out rfl rfl rfl rfl (by omega) (by omega) (by omega) ?_; intro v1 w5 hown1 hgrew1; have X5 := hgrew1.extNew HY HP.out (Nat.le_refl _); have hsz5 := X5.size; have hk5 := own_kept HH.out hgrew1.by' HNE.out.kept1; have hn5 := HNE.out.first HH.out hgrew1)
                | (at_builtin; refine wp_app1 (s := .tmp 75) (x := .tmp 77) rfl rfl ei_ints hk5 rfl rfl rfl rfl (by omega) (by omega) (by omega) ?_; intro v2 w6 hown2 hgrew2))
              go_roundw
              case rel => exact ⟨j + 1, by omega, by go_num, hgrew2.extNew X5 hk5 (Nat.le_refl _), by rw [HFS.out]; simpa using own_kept hown1 hgrew2.by' hn5.kept2, by rw [HFS.out, atP_snoc, getD_of y1]; simpa using hown2, hn5.second hown1 hgrew2⟩
              case measure => simp [intOf]; omega
            | false =>
              rw [hbit] at hbt hfs
              simp only [Bool.false_eq_true, if_false, List.append_nil] at hfs
              have HFS := Lib.hid hfs
              clear hfs hbit
              go_wp2_with fail
              go_roundw
              case rel => exact ⟨j + 1, by omega, by go_num, HY, by rw [HFS.out]; exact HP.out, by rw [HFS.out]; exact HH.out, HNE⟩
              case measure => simp [intOf]; omega
          · have hjl : j = l.length := by omega
            subst hjl
            obtain ⟨hnd0, hlt0, hl0⟩ := plS_ok l.length s
            obtain ⟨pl, hpl⟩ : ∃ pl, plS l.length s = pl := ⟨_, rfl⟩
            have hpe : (List.range l.length).filter (bitN s) = pl := hpl
            have hi := HI2.out
            rw [hpl] at hi hnd0 hlt0 hl0
            rw [hpe] at HP HH
            have hal : (atP l pl).length = pl.length := by simp [atP]
            obtain ⟨ho, hc2, hve, _, _⟩ := (own_rowOf (enc := Value.int .i64) (xs := atP l pl) HH (by omega)).open
            rw [hal] at hve
            subst hve
            have HP := Lib.hid HP
            have HH := Lib.hid HH
            have X3 := HX.trans HY
            clear hpl hpe
            by_cases hl5 : pl.length = 5
            · have hok := atP_ok HRG.out HND.out hlt0 hnd0 hl5
              obtain ⟨q, hq⟩ : ∃ q, Hid (valueR (atP l pl) = q) := ⟨_, rfl⟩
              have HHV := Lib.hid (handValue_any _ (atP l pl) wr (own_rowOf (enc := Value.int .i64) (xs := atP l pl) HH.out (by omega)) hok.rng (by rw [hok.len]; omega) (hand_law hok).1 q hq)
              rw [updW, if_pos hl5, hq.out] at hi
              simp only at hi
              have hb5 : (((pl.length : Nat) : Int) != 5) = false := by simp; omega
              clear hok hal hnd0 hlt0 hl5
              by_cases hgt : most < q
              · rw [if_pos (.inl hgt)] at hi
                have HI3 := Lib.hid hi
                clear hi
                go_wp2_with fail
                refine HHV.out.mono ?_
                rintro e w6 ⟨rfl, hx6⟩
                go_wp2_with fail
                go_roundw
                case rel => exact ⟨s + 1, (pl, q), by omega, by go_num, rfl, X3.trans hx6, own_mono (own_ext HP.out hx6) hsz, (by show pl.length ≤ 9; omega), HI3.out⟩
                case measure => simp [intOf]; omega
              · have hle : q ≤ most := by omega
                by_cases heq : q = most
                · subst heq
                  obtain ⟨cq, hcq⟩ : ∃ cq, cmpL pl best = cq := ⟨_, rfl⟩
                  have HCM := Lib.hid (fun (W : World) (hW : Ext wr W) => compareL_any u10 u7 pl best W (own_rowOf (enc := encN) (xs := pl) (own_ext HP.out hW) (by omega)) (own_rowOf (enc := encN) (xs := best) (own_ext HOB.out (HY.trans hW)) (by omega)) cq hcq)
                  have hqq : (q == q) = true := by simp
                  rw [hcq] at hi
                  by_cases hc0 : cq < 0
                  · rw [if_pos (.inr ⟨rfl, hc0⟩)] at hi
                    have HI3 := Lib.hid hi
                    clear hi hcq hgt
                    go_wp2_with fail
                    refine HHV.out.mono ?_
                    rintro e w6 ⟨rfl, hx6⟩
                    go_wp2_with fail
                    refine (HCM.out _ (by exact hx6)).mono ?_
                    rintro e w' ⟨rfl, rfl⟩
                    go_wp2_with fail
                    go_roundw
                    case rel => exact ⟨s + 1, (pl, q), by omega, by go_num, rfl, X3.trans hx6, own_mono (own_ext HP.out hx6) hsz, (by show pl.length ≤ 9; omega), HI3.out⟩
                    case measure => simp [intOf]; omega
                  · rw [if_neg (by omega)] at hi
                    have HI3 := Lib.hid hi
                    have hc1 : 0 ≤ cq := by omega
                    clear hi hcq hgt hc0
                    go_wp2_with fail
                    refine HHV.out.mono ?_
                    rintro e w6 ⟨rfl, hx6⟩
                    go_wp2_with fail
                    refine (HCM.out _ (by exact hx6)).mono ?_
                    rintro e w' ⟨rfl, rfl⟩
                    go_wp2_with fail
                    go_roundw
                    case rel => exact ⟨s + 1, (best, q), by omega, by go_num, rfl, X3.trans hx6, own_ext HOB.out (HY.trans hx6), hb9, HI3.out⟩
                    case measure => simp [intOf]; omega
                · rw [if_neg (by omega)] at hi
                  have HI3 := Lib.hid hi
                  have hqm : (q == most) = false := by rw [beq_eq_false_iff_ne]; exact heq
                  clear hi hgt heq
                  go_wp2_with fail
                  refine HHV.out.mono ?_
                  rintro e w6 ⟨rfl, hx6⟩
                  go_wp2_with fail
                  go_roundw
                  case rel => exact ⟨s + 1, (best, most), by omega, by go_num, rfl, X3.trans hx6, own_ext HOB.out (HY.trans hx6), hb9, HI3.out⟩
                  case measure => simp [intOf]; omega
            · rw [updW, if_neg hl5] at hi
              have HI3 := Lib.hid hi
              have hb5 : (((pl.length : Nat) : Int) != 5) = true := by simp; omega
              clear hi hl5 hal hnd0 hlt0
              go_wp2_with fail
              go_roundw
              case rel => exact ⟨s + 1, (best, most), by omega, by go_num, rfl, X3, own_ext HOB.out HY, hb9, HI3.out⟩
              case measure => simp [intOf]; omega
      · have hst : (best, most) = bestF l := by
          have h := HI.out
          rw [List.drop_eq_nil_of_le (by simp; omega)] at h
          exact h.trans HLAW.out
        have hb1 : best = (bestF l).1 := by rw [← hst]
        have hm1 : m = most := by rw [HM.out, ← hst]
        subst hm1
        have HIU := HI0.out
        rw [← hb1] at HIU
        have HIU := Lib.hid HIU
        have hmm : (m == m) = true := by simp
        have HB1 := Lib.hid (rowN_ints (own_rowOf (enc := encN) (xs := best) HOB.out (by omega)))
        clear hst hb1
        go_wp2_with fail
        refine (equal_ints _ _ (natI best) (natI best) _ ((rowN_ints HIU.out).ext HX) HB1.out true (by simp [Hid])).mono ?_
        rintro e w6 ⟨rfl, hx6⟩
        go_wp2_with fail
        go_ret
        exact ⟨rfl, (X2.trans HX).trans hx6⟩
  · have hu : Value.slice uo ul uc = .slice none 0 0 ∧ m = 0 := by
      rcases HCASE.out with ⟨_, h1, h2⟩ | ⟨h, _⟩
      · exact ⟨h1, h2⟩
      · exact absurd h hok
    obtain ⟨hu, hm⟩ := hu
    injection hu with hu1 hu2 hu3
    subst hu1; subst hu2; subst hu3; subst hm
    have h := hbe.out
    rw [bestErr, hd.out] at h
    by_cases h0 : d = 0
    · subst h0
      rw [if_pos rfl] at h
      by_cases h5 : l.length < 5
      · rw [if_pos h5] at h
        subst h
        have hdb1 : decide ((l.length : Int) < 5) = true := by simp; omega
        have h5i : (l.length : Int) < 5 := by omega
        go_wp2_with fail
        go_ret
        exact ⟨rfl, X2⟩
      · rw [if_neg h5] at h
        by_cases h9 : 9 < l.length
        · rw [if_pos h9] at h
          subst h
          have h5i : (5 : Int) ≤ (l.length : Int) := by omega
          have h9i : (9 : Int) < (l.length : Int) := by omega
          have hdb1 : decide ((l.length : Int) < 5) = false := by simp; omega
          have hdb2 : decide (9 < (l.length : Int)) = true := by simp; omega
          go_wp2_with fail
          go_ret
          exact ⟨rfl, X2⟩
        · rw [if_neg h9] at h
          exact absurd h.symm hok
    · rw [if_neg h0] at h
      subst h
      have hd0 : (d == 0) = false := by rw [beq_eq_false_iff_ne]; exact h0
      have hd1 : (d != 0) = true := by simp [h0]
      have hdd : (d == d) = true := by simp
      clear h0 hok
      go_wp2_with fail
      go_ret
      exact ⟨rfl, X2⟩
end Go.Proofs.Ytllhgkacbpgemaa
