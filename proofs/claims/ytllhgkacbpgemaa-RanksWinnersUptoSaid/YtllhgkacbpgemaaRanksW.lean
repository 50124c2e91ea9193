/- the walk of RanksWinners -/
import Derived.Test.YtllhgkacbpgemaaRanksW1
import Derived.Deep.DeepCutAuto
namespace Go.Proofs.Ytllhgkacbpgemaa
open Go.RowKit
set_option linter.unusedVariables false

def wantF (hs : List (List Int)) : Int := firstErr hs

set_option maxHeartbeats 6400000 in
set_option maxRecDepth 100000 in
theorem winners_walk (v : Value) (hs : List (List Int)) (w : World) (hv : Rows (Value.int .i64) w v hs) (hsum : lsum hs ≤ 1048576) :
    Calls Try.prog 8 #[v] w fun e w' => e = .returned (.bool true) ∧ Ext w w' := by
  have HF := Lib.hid (ranksFact_any w)
  have HW := Lib.hid (fun (W : World) (hW : Ext w W) => winners_any v hs W (hv.ext hW))
  have HRV := Lib.hid hv
  obtain ⟨us, hrow, hl, hr⟩ := hv
  have HROW := Lib.hid hrow
  obtain ⟨ao, c, rfl, _, hlen, _, hc⟩ := hrow
  have HCC := Lib.hid hc
  have HR := Lib.hid hr
  have HL := Lib.hid hl
  have HHE := Lib.hid (fun (k : Nat) (u : Value) (xs : List Int) (W : World) (hu : Hid (us[k]? = some u)) (hx : Hid (hs[k]? = some xs)) (hW : Ext w W) => handError_any u xs W ((hr k u xs hu.out hx.out).ext hW) _ rfl)
  rw [hl] at hlen HRV HROW HW ⊢
  obtain ⟨we, hwe⟩ : ∃ we, Hid (winErr hs = we) := ⟨_, rfl⟩
  clear hc hr hl
  go_enter Try.func8, Try.ntmps8
  go_wp2_with fail
  refine HF.out.mono ?_
  rintro e w1 ⟨rfl, X1⟩
  go_wp2_with fail
  refine (HW.out _ (by exact X1)).mono ?_
  rintro e w2 hP
  obtain ⟨u, hu, hx2, hcase⟩ := hP
  rw [hwe.out] at hu hcase
  subst hu
  have HCASE := Lib.hid hcase
  have X2 := X1.trans hx2
  have hsl : ∃ uo ul uc, u = .slice uo ul uc := by
    rcases hcase with ⟨_, rfl⟩ | ⟨_, hI⟩
    · exact ⟨_, _, _, rfl⟩
    · obtain ⟨o, cc, rfl, _⟩ := hI.open
      exact ⟨_, _, _, rfl⟩
  obtain ⟨uo, ul, uc, rfl⟩ := hsl
  clear hcase hx2
  by_cases h10 : 10 < hs.length
  · have hE : we = 2 := by rw [← hwe.out, winErr, if_pos h10]
    subst hE
    have hu : Value.slice uo ul uc = .slice none 0 0 := by
      rcases HCASE.out with ⟨_, h⟩ | ⟨h, _⟩
      · exact h
      · exact absurd h (by decide)
    injection hu with hu1 hu2 hu3
    subst hu1; subst hu2; subst hu3
    have h10i : (10 : Int) < (hs.length : Int) := by omega
    go_wp2_with fail
    go_loopw [5, 6, 24] (fun z v i wr => ∃ (k : Nat), k ≤ hs.length ∧ i = .int .i64 k ∧ z = .int .i64 2 ∧ Ext w2 wr ∧ wr.ownsRow w2.heap.size 3 1 v (lsum (hs.take k)) ((hs.take k).flatten.map (Value.int .i64))) (fun _ _ i _ => hs.length - (intOf i).toNat)
    case atStart => exact ⟨0, Nat.zero_le _, rfl, rfl, Ext.refl _, World.ownsRow_nil _ _ _ _⟩
    case round =>
      obtain ⟨k, hk, rfl, rfl, HX, HO⟩ := hrel
      have HOU := Lib.hid HO
      have hsz := HX.size
      clear HO
      by_cases hlt : k < hs.length
      · obtain ⟨x, x1, _, x3⟩ := get_lt hlt
        obtain ⟨p, p1, _, _⟩ := get_lt (xs := us) (k := k) (by rw [HL.out]; exact hlt)
        obtain ⟨b, off, rfl, hcell0⟩ := HCC.out k p p1.out
        have hcell := (X2.trans HX).cell hcell0
        have hrp := (HR.out k p x p1.out x1.out).ext (X2.trans HX)
        have HSRC := Lib.hid (RowOf.src hrp (fun _ => rfl))
        have hls := lsum_snoc x3
        have hlt2 := lsum_take hs (k + 1)
        have htk : Hid ((hs.take (k + 1)).flatten.map (Value.int .i64) = (hs.take k).flatten.map (Value.int .i64) ++ x.map (Value.int .i64)) := by show _ = _; rw [x3.out]; simp
        obtain ⟨L, hL⟩ : ∃ L, lsum (hs.take k) = L := ⟨_, rfl⟩
        rw [hL] at HOU hls
        have HLS := Lib.hid hls
        have hA : L + x.length ≤ 17592186044416 := by omega
        have hB : (L + x.length) * 8 ≤ 140737488355328 := by omega
        clear hcell0 hrp hls hL
        go_wp2_with (at_builtin; refine wp_app rfl rfl ei_ints rfl HOU.out rfl HSRC.out hA hB hsz ?_; intro v' w' hown hgrew)
        go_roundw
        case rel => exact ⟨k + 1, by omega, by go_num, rfl, hgrew.extNew HX HOU.out (Nat.le_refl _), by rw [htk.out, HLS.out]; exact hown⟩
        case measure => simp [intOf]; omega
      · go_wp2_with fail
        go_ret
        exact ⟨rfl, X2.trans HX⟩
  · have h10i : (hs.length : Int) ≤ 10 := by omega
    have hwe2 : (if firstErr hs = 0 then deckErr hs.flatten else firstErr hs) = we := by rw [← hwe.out, winErr, if_neg h10]
    have HWE := Lib.hid hwe2
    clear hwe2
    go_wp2_with fail
    go_loopw [5, 6, 24] (fun z v i wr => ∃ (k : Nat) (z' : Int), k ≤ hs.length ∧ i = .int .i64 k ∧ z = .int .i64 z' ∧ Hid (firstErr (hs.take k) = z') ∧ Ext w2 wr ∧ wr.ownsRow w2.heap.size 3 1 v (lsum (hs.take k)) ((hs.take k).flatten.map (Value.int .i64))) (fun _ _ i _ => hs.length - (intOf i).toNat)
    case atStart => exact ⟨0, 0, Nat.zero_le _, rfl, rfl, rfl, Ext.refl _, World.ownsRow_nil _ _ _ _⟩
    case round =>
      obtain ⟨k, z, hk, rfl, rfl, HZ, HX, HO⟩ := hrel
      have HOU := Lib.hid HO
      have hsz := HX.size
      clear HO
      by_cases hlt : k < hs.length
      · obtain ⟨x, x1, _, x3⟩ := get_lt hlt
        obtain ⟨p, p1, _, _⟩ := get_lt (xs := us) (k := k) (by rw [HL.out]; exact hlt)
        have HE1 := HHE.out k p x wr p1 x1 (X2.trans HX)
        obtain ⟨b, off, rfl, hcell0⟩ := HCC.out k p p1.out
        have hcell := (X2.trans HX).cell hcell0
        have hrp := (HR.out k p x p1.out x1.out).ext (X2.trans HX)
        have HSRC := Lib.hid (RowOf.src hrp (fun _ => rfl))
        have hls := lsum_snoc x3
        have hlt2 := lsum_take hs (k + 1)
        have htk : Hid ((hs.take (k + 1)).flatten.map (Value.int .i64) = (hs.take k).flatten.map (Value.int .i64) ++ x.map (Value.int .i64)) := by show _ = _; rw [x3.out]; simp
        obtain ⟨L, hL⟩ : ∃ L, lsum (hs.take k) = L := ⟨_, rfl⟩
        rw [hL] at HOU hls
        have HLS := Lib.hid hls
        have hA : L + x.length ≤ 17592186044416 := by omega
        have hB : (L + x.length) * 8 ≤ 140737488355328 := by omega
        have hfs := firstErr_snoc (hs.take k) x
        rw [← x3.out, HZ.out] at hfs
        obtain ⟨y, hy⟩ : ∃ y, handErr x = y := ⟨_, rfl⟩
        rw [hy] at hfs HE1
        have HE2 := Lib.hid HE1
        clear hcell0 hrp hls hL hy HE1
        by_cases h0 : z = 0
        · subst h0
          rw [if_pos rfl] at hfs
          have HFS := Lib.hid hfs
          clear hfs
          go_wp2_with fail
          refine HE2.out.mono ?_
          rintro e w' ⟨rfl, rfl⟩
          go_wp2_with (at_builtin; refine wp_app rfl rfl ei_ints rfl HOU.out rfl HSRC.out hA hB hsz ?_; intro v' w' hown hgrew)
          go_roundw
          case rel => exact ⟨k + 1, y, by omega, by go_num, rfl, HFS, hgrew.extNew HX HOU.out (Nat.le_refl _), by rw [htk.out, HLS.out]; exact hown⟩
          case measure => simp [intOf]; omega
        · rw [if_neg h0] at hfs
          have HFS := Lib.hid hfs
          have hb : (z == 0) = false := by rw [beq_eq_false_iff_ne]; exact h0
          clear hfs h0
          go_wp2_with (at_builtin; refine wp_app rfl rfl ei_ints rfl HOU.out rfl HSRC.out hA hB hsz ?_; intro v' w' hown hgrew)
          go_roundw
          case rel => exact ⟨k + 1, z, by omega, by go_num, rfl, HFS, hgrew.extNew HX HOU.out (Nat.le_refl _), by rw [htk.out, HLS.out]; exact hown⟩
          case measure => simp [intOf]; omega
      · obtain ⟨_, h1⟩ := get_ge hlt
        rw [h1.out] at HZ HOU
        have X3 := X2.trans HX
        have hlf := flatten_len hs
        have HALL := Lib.hid (own_rowOf (enc := Value.int .i64) (xs := hs.flatten) HOU.out (by omega))
        have hwe3 := HWE.out
        rw [HZ.out] at hwe3
        by_cases h0 : z = 0
        · subst h0
          rw [if_pos rfl] at hwe3
          have hfe := firstErr_zero HZ.out
          have HDE := deckError_any _ hs.flatten wr HALL.out
          rw [hwe3] at HDE
          have HDE := Lib.hid HDE
          have HFE := Lib.hid hfe
          have hlaw := winF_law hfe
          have HLAW := Lib.hid hlaw
          clear hwe3 hfe hlaw hlf
          by_cases hw0 : we = 0
          · subst hw0
            have HI : Hid (RowOf encN w2 (.slice uo ul uc) (winF hs)) := by
              rcases HCASE.out with ⟨h, _⟩ | ⟨_, h⟩
              · exact absurd rfl h
              · exact h
            go_wp2_with fail
            refine HDE.out.mono ?_
            rintro e w' ⟨rfl, rfl⟩
            go_wp2_with fail
            go_loopw [9, 52] (fun v i wv => ∃ (k : Nat) (acc : List Nat), k ≤ hs.length ∧ i = .int .i64 k ∧ acc.length ≤ k ∧ Ext wr wv ∧ wv.ownsRow wr.heap.size 3 1 v acc.length (acc.map encN) ∧ Hid (acc ++ outV (hs.map valueR) k ((hs.map valueR).drop k) = winF hs)) (fun _ i _ => hs.length - (intOf i).toNat)
            case atStart => exact ⟨0, [], Nat.zero_le _, rfl, Nat.zero_le _, Ext.refl _, World.ownsRow_nil _ _ _ _, by show _ = _; rw [HLAW.out]; rfl⟩
            case round =>
              obtain ⟨k2, acc, hk2, rfl, hacl, HX2, HO2, HI2⟩ := hrel
              have HOU2 := Lib.hid HO2
              have hsz2 := HX2.size
              clear HO2
              by_cases hlt2 : k2 < hs.length
              · obtain ⟨x, x1, _, _⟩ := get_lt hlt2
                obtain ⟨p, p1, _, _⟩ := get_lt (xs := us) (k := k2) (by rw [HL.out]; exact hlt2)
                obtain ⟨b, off, rfl, hcell0⟩ := HCC.out k2 p p1.out
                have XV := X3.trans HX2
                have hcell := XV.cell hcell0
                have hxok := handOk (HFE.out x (List.mem_of_getElem? x1.out))
                have hxr := HR.out k2 p x p1.out x1.out
                obtain ⟨pa, pcap, rfl, _, _⟩ := hxr.open
                obtain ⟨q, hq⟩ : ∃ q, Hid ((hs.map valueR).any (fun y => decide (valueR x < y)) = q) := ⟨_, rfl⟩
                have HCF := Lib.hid (fun (W : World) (g : Nat) (hW : Ext w W) (hg : W.cell? ⟨g, 0, none⟩ = some (.slice pa x.length pcap)) =>
                  containsFunc_rows (.slice (some ⟨b, off, none⟩) hs.length c) us (hs.map fun y => decide (valueR x < valueR y)) 44 #[.pointer (some ⟨g, 0, none⟩)] W (HROW.out.ext hW) (by rw [List.length_map, HL.out]) (fun _ _ => by kernel_rfl)
                  (fun i u' q' W2 g1 g2 hW2 => by
                    simp only [List.getElem?_map, Option.map_eq_some_iff] at g2
                    obtain ⟨y, hy, rfl⟩ := g2
                    exact winClo_any y x u' (.slice pa x.length pcap) g W2 ((HR.out i u' y g1 hy).ext (hW.trans hW2)) (hxr.ext (hW.trans hW2)) (handOk (HFE.out y (List.mem_of_getElem? hy))) hxok (hW2.cell hg) _ rfl)
                  q (by show _ = _; rw [← hq.out]; simp [List.any_map, Function.comp_def]))
                have hdr : (hs.map valueR).drop k2 = valueR x :: (hs.map valueR).drop (k2 + 1) := by
                  rw [List.drop_eq_getElem_cons (by simpa using hlt2)]
                  congr 1
                  have := x1.out
                  rw [List.getElem?_eq_getElem hlt2] at this
                  rw [List.getElem_map, Option.some.inj this]
                have hi := HI2.out
                rw [hdr, outV, hq.out] at hi
                clear hcell0 hxok hxr hdr
                have HXA := Lib.hid (XV.alloc (.cells #[.slice pa x.length pcap] 22))
                cases q with
                | true =>
                  have HI3 : Hid (acc ++ outV (hs.map valueR) (k2 + 1) ((hs.map valueR).drop (k2 + 1)) = winF hs) := by show _ = _; rw [← hi]; simp
                  clear hi hq
                  go_wp2_with fail
                  refine (HCF.out _ _ (by exact HXA.out) (by simp)).mono ?_
                  rintro e w5 ⟨rfl, hx5⟩
                  have X5 := (HX2.alloc (.cells #[.slice pa x.length pcap] 22)).trans hx5
                  go_wp2_with fail
                  go_roundw
                  case rel => exact ⟨k2 + 1, acc, by omega, by go_num, by omega, X5, own_ext HOU2.out (((Ext.refl _).alloc _).trans hx5), HI3.out⟩
                  case measure => simp [intOf]; omega
                | false =>
                  have HI3 : Hid ((acc ++ [k2]) ++ outV (hs.map valueR) (k2 + 1) ((hs.map valueR).drop (k2 + 1)) = winF hs) := by show _ = _; rw [← hi]; simp
                  clear hi hq
                  go_wp2_with fail
                  refine (HCF.out _ _ (by exact HXA.out) (by simp)).mono ?_
                  rintro e w5 ⟨rfl, hx5⟩
                  have X5 := (HX2.alloc (.cells #[.slice pa x.length pcap] 22)).trans hx5
                  have HO5 := Lib.hid (own_ext HOU2.out (((Ext.refl _).alloc (.cells #[.slice pa x.length pcap] 22)).trans hx5))
                  have hsz5 := X5.size
                  go_wp2_with (at_builtin; refine wp_app1 rfl rfl ei_ints HO5.out rfl rfl rfl rfl (by omega) (by omega) (by omega) ?_; intro v' w' hown hgrew)
                  go_roundw
                  case rel => exact ⟨k2 + 1, acc ++ [k2], by omega, by go_num, by simp; omega, hgrew.extNew X5 HO5.out (Nat.le_refl _), by simpa using hown, HI3.out⟩
                  case measure => simp [intOf]; omega
              · have hend : acc = winF hs := by
                  rw [← HI2.out, List.drop_eq_nil_of_le (by simp; omega)]; simp [outV]
                have HE5 := Lib.hid (rowN_ints (own_rowOf (enc := encN) (xs := acc) HOU2.out (by omega)))
                have HEN := Lib.hid hend
                clear hend
                go_wp2_with fail
                refine (equal_ints _ _ (natI (winF hs)) (natI acc) _ ((rowN_ints HI.out).ext (HX.trans HX2)) HE5.out true (by show _ = _; rw [HEN.out]; simp)).mono ?_
                rintro e w6 ⟨rfl, hx6⟩
                go_wp2_with fail
                go_ret
                exact ⟨rfl, (X3.trans HX2).trans hx6⟩
          · have hu : Value.slice uo ul uc = .slice none 0 0 := by
              rcases HCASE.out with ⟨_, h⟩ | ⟨h, _⟩
              · exact h
              · exact absurd h hw0
            injection hu with hu1 hu2 hu3
            subst hu1; subst hu2; subst hu3
            have hb2 : (we != 0) = true := by simp [hw0]
            have hzz : (we == we) = true := by simp
            clear hw0
            go_wp2_with fail
            refine HDE.out.mono ?_
            rintro e w' ⟨rfl, rfl⟩
            go_wp2_with fail
            go_ret
            exact ⟨rfl, X3⟩
        · rw [if_neg h0] at hwe3
          subst hwe3
          have hu : Value.slice uo ul uc = .slice none 0 0 := by
            rcases HCASE.out with ⟨_, h⟩ | ⟨h, _⟩
            · exact h
            · exact absurd h h0
          injection hu with hu1 hu2 hu3
          subst hu1; subst hu2; subst hu3
          have hb : (z == 0) = false := by rw [beq_eq_false_iff_ne]; exact h0
          have hb2 : (z != 0) = true := by simp [h0]
          have hzz : (z == z) = true := by simp
          clear h0 hlf
          go_wp2_with fail
          go_ret
          exact ⟨rfl, X3⟩
end Go.Proofs.Ytllhgkacbpgemaa
