/- walks: index.Unrank -/
import Derived.Test.YtllhgkacbpgemaaIdx5
namespace Go.Proofs.Ytllhgkacbpgemaa
open Go.RowKit

theorem pickF_cases (l : List Nat) (r k n : Nat) : (pickF l r k n).1 ≤ n := by
  induction r generalizing k n with
  | zero => exact Nat.le_refl _
  | succ r ih =>
    simp only [pickF]
    split
    · exact ih _ _
    · split
      · exact Nat.le_trans (ih _ _) (Nat.sub_le _ _)
      · exact Nat.le_refl _

theorem ways_at (v : Value) (l : List Nat) (w : World) (hv : Nats w v l) (hs : l.sum ≤ 16) (q : Nat) (hq : Hid (waysN l = q)) :
    Calls Try.prog 49 #[v] w fun e w' => e = .returned (.int .i64 q) ∧ w = w' := by
  rw [← hq.out]; exact ways_any v l w hv hs

theorem unrF_succ (s : Nat) (l : List Nat) (n : Nat) : unrF (s + 1) l n = match pickF l l.length 0 n with
    | (n', some k) => k :: unrF s (dec1 l k) n'
    | (n', none) => unrF s l n' := rfl

set_option maxHeartbeats 4000000 in
set_option maxRecDepth 100000 in
theorem Unrank_ok (v : Value) (l : List Nat) (n : Nat) (w : World) (hv : Nats w v l) (hf : FitC l) (hn : n < waysN l) :
    Calls Try.prog 23 #[v, .int .i64 n] w fun e w' => ∃ u, e = .returned (.tuple #[u, .int .i64 0]) ∧ Nats w' u (unrF l.sum l n) ∧ Ext w w' := by
  have HD := checkCounts_any v (ofN l) w (ints_ofN hv)
  rw [fitC_err hf] at HD
  have HD := Lib.hid HD
  have HV := Lib.hid hv
  have HK := Lib.hid (fun W hW => @clone_ints v (ofN l) W hW)
  have hs := hf.2
  have hwn := waysN_le l
  have hf16 : fac l.sum ≤ fac 16 := fac_mono hs
  have hf17 : fac 16 = 20922789888000 := by decide
  have hnb : n ≤ 20922789888000 := by omega
  have HL7 := Lib.hid hf.1
  have h0 : (0 : Int) ≤ (n : Int) := by omega
  have hni : (n : Int) < (waysN l : Int) := by omega
  clear hv hwn hf16 hf17
  obtain ⟨W0, HW0⟩ : ∃ W0, Hid (waysN l = W0) := ⟨_, rfl⟩
  rw [HW0.out] at hn hni
  go_enter Try.func23, Try.ntmps23
  go_wp2_with fail
  refine HD.out.mono ?_
  rintro e w1 ⟨rfl, hx⟩
  go_wp2_with fail
  refine (ways_any _ l _ (HV.out.ext hx) hs).mono ?_
  rintro e w1' ⟨rfl, rfl⟩
  rw [HW0.out]
  go_wp2_with fail
  refine (HK.out _ (ints_ofN (HV.out.ext hx))).mono ?_
  rintro e w2 ⟨u, rfl, hu, hx2⟩
  rw [ofN_map] at hu
  have hol : (ofN l).length = 7 := by simp [ofN, HL7.out]
  rw [hol] at hu
  obtain ⟨g, cap, rfl, hg1, hg2⟩ := own_open hu (by decide)
  have hgw : w.heap.size ≤ g := Nat.le_trans hx.size hg1
  have HU := own_mono hu hx.size
  clear hu hg1 hol
  have hX0 := hx.trans hx2
  obtain ⟨ao, c, rfl, hlen, hc⟩ := (HV.out.ext hX0).open
  go_wp2_with fail
  go_loop [8, 31] (fun s i => ∃ k : Nat, k ≤ l.length ∧ i = .int .i64 k ∧ s = .int .i64 ((l.take k).sum : Nat)) (fun _ i => l.length - (intOf i).toNat)
  case atStart => exact ⟨0, Nat.zero_le _, rfl, rfl⟩
  case round =>
    obtain ⟨k, hk, rfl, rfl⟩ := hrel
    by_cases hlt : k < l.length
    · obtain ⟨x, h1, h2, h3⟩ := get_lt hlt
      obtain ⟨b, off, rfl, hcell⟩ := hc.at h1
      have hb3 : (l.take k).sum + x ≤ 16 := by
        have := sum_take_le l (k + 1)
        rw [h3.out] at this; simp at this; omega
      go_wp2_with fail
      go_round
      case rel => exact ⟨k + 1, by omega, by go_num, by rw [h3.out]; simp⟩
      case measure => simp [intOf]; omega
    · obtain ⟨_, h1⟩ := get_ge hlt
      have hts : (l.take k).sum = l.sum := by rw [h1.out]
      rw [hts]
      have HT := Lib.hid hts; clear hts
      obtain ⟨S, HS⟩ : ∃ S, Hid (l.sum = S) := ⟨_, rfl⟩
      rw [HS.out] at hs ⊢
      go_wp2_with fail
      go_loopw [1, 11, 40] (fun nv ov iv wr => ∃ (i n' : Nat) (L out : List Nat), i ≤ S ∧ iv = .int .i64 i ∧ nv = .int .i64 n' ∧ n' ≤ 20922789888000 ∧ Hid (L.length = 7) ∧ L.sum ≤ 16 ∧ out.length ≤ i ∧ Ext w wr ∧
          wr.ownsRow w.heap.size 3 1 (.slice (some ⟨g, 0, none⟩) 7 cap) 7 (L.map fun (n : Nat) => Value.int .i64 n) ∧
          wr.ownsRow w.heap.size 3 1 ov out.length (out.map fun (n : Nat) => Value.int .i64 n) ∧ ov.ownBlock ≠ some g ∧ Hid (out ++ unrF (S - i) L n' = unrF S l n)) (fun _ _ iv _ => S - (intOf iv).toNat)
      case atStart => exact ⟨0, n, l, [], Nat.zero_le _, rfl, rfl, hnb, HL7, by rw [HS.out]; exact hs, Nat.le_refl _, hX0, HU, World.ownsRow_nil _ _ _ _, by simp [Value.ownBlock], rfl⟩
      case round =>
        obtain ⟨i, n', L, out, hi, rfl, rfl, hn', hL7, hLs, hol, HX, HO, HQ, hne, HE⟩ := hrel
        by_cases hlt2 : i < S
        · obtain ⟨wo, rfl⟩ : ∃ wo : World, wo = wr := ⟨_, rfl⟩
          have hSi : S - i = (S - (i + 1)) + 1 := by omega
          have HE2 := HE.out
          rw [hSi, unrF_succ, hL7.out] at HE2
          obtain ⟨PP, HPP⟩ : ∃ PP, Hid (pickF L 7 0 n' = PP) := ⟨_, rfl⟩
          rw [HPP.out] at HE2
          have HE3 := Lib.hid HE2
          clear HE2 hSi HE
          go_wp2_with fail
          go_loopw [1, 11, 44] (fun nv ov' kv wr => ∃ k n'' : Nat, k ≤ 7 ∧ kv = .int .i64 k ∧ nv = .int .i64 n'' ∧ ov' = u11 ∧ n'' ≤ 20922789888000 ∧ Ext w wr ∧
            wr.ownsRow w.heap.size 3 1 (.slice (some ⟨g, 0, none⟩) 7 cap) 7 (L.map fun (n : Nat) => Value.int .i64 n) ∧
            wr.ownsRow w.heap.size 3 1 u11 out.length (out.map fun (n : Nat) => Value.int .i64 n) ∧ Hid (pickF L (7 - k) k n'' = PP)) (fun _ _ kv _ => 7 - (intOf kv).toNat)
          case atStart => exact ⟨0, n', by omega, rfl, rfl, rfl, hn', HX, HO, HQ, HPP⟩
          case round =>
            obtain ⟨k, n'', hk7, rfl, rfl, rfl, hn'', HY, HP, HQ2, HF⟩ := hrel
            by_cases hk : k < 7
            · obtain ⟨q, hq, _, _⟩ := get_lt (xs := L) (k := k) (by have := hL7.out; omega)
              have hgd : L.getD k 0 = q := by simp [List.getD_eq_getElem?_getD, hq.out]
              have c1 := own_cell HP (j := k) (x := .int .i64 q) (by simp [Hid, hq.out])
              have f1 := HP.frozenAt k
              have hq16 : q ≤ 16 := by
                have h8 : q ∈ L := List.mem_of_getElem? hq.out
                have := mem_le_sum h8
                omega
              have hF2 := HF.out
              rw [show 7 - k = (7 - (k + 1)) + 1 from by omega] at hF2
              simp only [pickF, hgd] at hF2
              have HG := Lib.hid hgd
              clear hgd
              by_cases hq0 : q = 0
              · subst hq0
                rw [if_pos rfl] at hF2
                have HF2 := Lib.hid hF2; clear hF2
                go_wp2_with fail
                go_roundw
                case rel => exact ⟨k + 1, n'', by omega, by go_num, rfl, rfl, hn'', HY, HP, HQ2, HF2⟩
                case measure => simp [intOf]; omega
              · rw [if_neg hq0] at hF2
                have hqz : ((q : Int) == 0) = false := by simp; omega
                have s1 := HP.stored k (.int .i64 ((q : Int) - 1))
                have hset : (L.map fun (n : Nat) => Value.int .i64 n).set k (.int .i64 ((q : Int) - 1)) = (dec1 L k).map fun (n : Nat) => Value.int .i64 n := by
                  rw [dec1, List.map_set]
                  congr 2
                  rw [HG.out]; omega
                rw [hset] at s1
                have hQ3 := own_kept HQ2 s1.2 (.inl hne)
                have hds : (dec1 L k).sum ≤ 16 := by
                  have := dec1_sum L k (by rw [HG.out]; omega)
                  omega
                have hd7 : (dec1 L k).length = 7 := by rw [dec1_len]; exact hL7.out
                have HN : Nats (wr.setCell ⟨g, k, none⟩ (.int .i64 ((q : Int) - 1))) (.slice (some ⟨g, 0, none⟩) 7 cap) (dec1 L k) := own_nats s1.1 (by decide)
                have s2 := s1.1.stored k (.int .i64 q)
                have hset2 : ((dec1 L k).map fun (n : Nat) => Value.int .i64 n).set k (.int .i64 q) = L.map fun (n : Nat) => Value.int .i64 n := by
                  rw [← hset, List.set_set]
                  apply List.ext_getElem?
                  intro i
                  by_cases e : k = i
                  · subst e; simp [(List.getElem?_eq_some_iff.1 hq.out).1]; rw [(List.getElem?_eq_some_iff.1 hq.out).2]
                  · simp [e]
                rw [hset2] at s2
                have hQ4 := own_kept hQ3 s2.2 (.inl hne)
                have S1 := Lib.hid s1.1; have S2 := Lib.hid s2.1; have HN2 := Lib.hid HN; have HQ3 := Lib.hid hQ3; have HQ4 := Lib.hid hQ4; have HD7 := Lib.hid hd7
                have hwp := waysN_le (dec1 L k)
                have hfm : fac (dec1 L k).sum ≤ fac 16 := fac_mono hds
                have hf17 : fac 16 = 20922789888000 := by decide
                clear s1 s2 hset hset2 HN hQ3 hQ4 hd7
                have hpos : (0 : Int) < q := by omega
                obtain ⟨W, HW⟩ : ∃ W, Hid (waysN (dec1 L k) = W) := ⟨_, rfl⟩
                rw [HW.out] at hF2 hwp
                have hW2 : W ≤ 20922789888000 := by omega
                clear hf17 hfm hwp
                by_cases hle : W ≤ n''
                · rw [if_pos hle] at hF2
                  have HF2 := Lib.hid hF2; clear hF2
                  go_wp2_with fail
                  refine (ways_at _ _ _ (by exact HN2.out) hds W HW).mono ?_
                  rintro e w4 ⟨rfl, rfl⟩
                  go_wp2_with fail
                  go_roundw
                  case rel => exact ⟨k + 1, n'' - W, by omega, by go_num, congrArg (Value.int .i64) (by omega), rfl, by omega, (HY.setCell hgw _).setCell hgw _, S2.out, HQ4.out, HF2⟩
                  case measure => simp [intOf]; omega
                · rw [if_neg hle] at hF2
                  have HF2 := Lib.hid hF2; clear hF2
                  have hlt3 : n'' < W := by omega
                  go_wp2_with fail
                  refine (ways_at _ _ _ (by exact HN2.out) hds W HW).mono ?_
                  rintro e w4 ⟨rfl, rfl⟩
                  have hBs : w.heap.size ≤ wr.heap.size := HY.size
                  go_wp2_with (at_builtin; go_must (refine wp_app1 rfl rfl ei_ints HQ3.out rfl rfl (by simp [World.setCell]) rfl (by omega) (by omega) (by simp [World.setCell]; omega) ?_); intro v2 w2x hown hgrew)
                  have hgl : g < wr.heap.size := (HP.lt g rfl).2
                  go_roundw
                  case rel =>
                    refine ⟨i + 1, n'', dec1 L k, out ++ [k], by omega, by go_num, rfl, hn'', HD7.out, hds, by simp; omega, hgrew.extNew (HY.setCell hgw _) HQ3.out (Nat.le_refl _), own_kept S1.out hgrew.by' (.inl (fun e => hne e.symm)), by simpa using hown, ?_, ?_⟩
                    · rcases hgrew.blk with e | e
                      · rw [e]; exact hne
                      · intro e2
                        have := e g e2
                        simp [World.setCell] at this
                        omega
                    · have h9 := HE3.out
                      rw [← HF2.out] at h9
                      show _ = _
                      rw [← h9]; simp
                  case measure => simp [intOf]; omega
            · obtain rfl : k = 7 := by omega
              have hF2 := Lib.hid HF.out
              clear HF
              go_wp2_with fail
              go_roundw
              case rel =>
                refine ⟨i + 1, n'', L, out, by omega, by go_num, rfl, hn'', hL7, hLs, by omega, HY, HP, HQ2, hne, ?_⟩
                have h9 := HE3.out
                rw [← hF2.out] at h9
                exact h9
              case measure => simp [intOf]; omega
        · obtain rfl : i = S := by omega
          have h9 := HE.out
          rw [Nat.sub_self] at h9
          have H9 := Lib.hid h9
          clear h9 HE
          go_wp2_with fail
          go_ret2
          refine ⟨_, rfl, ?_, HX⟩
          have h10 := own_nats HQ (by omega)
          have h11 := H9.out
          simp only [unrF, List.append_nil] at h11
          rw [HS.out, ← h11]
          exact h10
end Go.Proofs.Ytllhgkacbpgemaa
