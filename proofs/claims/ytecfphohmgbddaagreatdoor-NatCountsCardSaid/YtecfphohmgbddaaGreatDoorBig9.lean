/- walk of package big: Text -/
import Derived.Test.YtecfphohmgbddaaGreatDoorBig8
namespace Go.Proofs.YtecfphohmgbddaaGreatDoor
open Go.RowKit
set_option linter.unusedVariables false

abbrev lenZ (v : Value) : Nat := match v with
  | .slice _ n _ => n
  | _ => 0

theorem own_shapeN {w : World} {B : Nat} {e : TypeId} {v : Value} {n : Nat} {vs : List Value} (h : w.ownsRow B e 1 v n vs) : ∃ ao c, v = .slice ao n c := by
  rcases h.2 with ⟨rfl, rfl⟩ | ⟨g, cap, cur, rfl, _⟩
  · exact ⟨none, 0, rfl⟩
  · exact ⟨_, _, rfl⟩

set_option maxHeartbeats 3200000 in
set_option maxRecDepth 100000 in
theorem text_any (v : Value) (n : Nat) (w : World) (hv : NatV w v n) (htab : TabPow w) (hl : (dig n).length ≤ 1073741824) (hT : (Lib.decDigits n).length ≤ 4294967295) :
    Calls Tryz.prog 75 #[v] w fun e w' => e = .returned (.string (decT n)) ∧ Ext w w' := by
  obtain ⟨wo, rfl⟩ : ∃ wo : World, wo = w := ⟨_, rfl⟩
  obtain ⟨ao, c, rfl, hlen, hc⟩ := hv.open
  by_cases hn0 : n = 0
  · subst hn0
    have hz : (dig 0).length = 0 := by rw [dig_zero]; rfl
    have hd0 : Hid (decT 0 = ⟨#[48]⟩) := by show _ = _; rw [decT, dd_small (by omega)]; rfl
    rw [hz]
    clear hc hv
    go_enter Tryz.func75, Tryz.ntmps75
    go_wp2_with fail
    go_ret
    exact ⟨by rw [hd0.out]; rfl, Ext.refl _⟩
  · have hpos : (dig n).length ≠ 0 := by
      intro e
      exact hn0 (dig_nil_iff.1 (List.eq_nil_of_length_eq_zero e))
    obtain ⟨F, hF⟩ : ∃ F, chunks n = F := ⟨_, rfl⟩
    have hj := chunks_join hn0
    rw [hF] at hj
    have hFl : F.length ≤ 4294967295 := by
      have h1 := flatten_mem_len (xs := F.reverse) (k := 0) (fun x hx => by rw [← hF] at hx; exact chunks_pos n x (List.mem_reverse.1 hx))
      rw [List.length_reverse, hj] at h1
      omega
    have HF := Lib.hid hF
    have HJ := Lib.hid hj
    have HFL := Lib.hid hFl
    have HV := Lib.hid hv
    have HN0 := Lib.hid hn0
    have HTab := Lib.hid (fun W (hx : Ext wo W) => tabPow_ext htab hx)
    have HL := Lib.hid hl
    have HTT := Lib.hid hT
    obtain ⟨l, hll⟩ : ∃ l, (dig n).length = l + 1 := ⟨(dig n).length - 1, by omega⟩
    have hv2 : NatV wo (.slice ao (l + 1) c) n := by rw [← hll]; exact HV.out
    rw [hll]
    have hl9 : l ≤ 1073741824 := by omega
    have hlb : ((l : Int) + 1 == 0) = false := by rw [beq_eq_false_iff_ne]; omega
    clear hc hv hF hj hFl hn0 hpos htab hl hT hll hlen HV
    go_enter Tryz.func75, Tryz.ntmps75
    go_wp2_with fail
    go_loopw [0, 3] (fun nv pv wr => ∃ (m : Nat) (ps : List ByteArray), NatV wr nv m ∧ m ≤ n ∧ wr.ownsRow wo.heap.size 9 1 pv ps.length (ps.map Value.string) ∧ Ext wo wr ∧ Hid (ps.map (·.data.toList) ++ chunks m = F)) (fun _ pv _ => F.length - lenZ pv)
    case atStart => exact ⟨n, [], hv2, Nat.le_refl _, ⟨rfl, .inl ⟨rfl, rfl⟩⟩, Ext.refl _, HF.out⟩
    case round =>
      obtain ⟨m, ps, hm, hmn, HO, X, HI⟩ := hrel
      have hpl : ps.length + (chunks m).length = F.length := by rw [← HI.out, List.length_append, List.length_map]
      obtain ⟨pa, pc, rfl⟩ := own_shapeN HO
      have hdl : (dig m).length ≤ 1073741824 := Nat.le_trans (dig_len_le hmn) HL.out
      obtain ⟨na, nc, rfl, _, _⟩ := hm.open
      by_cases hm0 : m = 0
      · subst hm0
        have hz : (dig 0).length = 0 := by rw [dig_zero]; rfl
        have hI := HI.out
        rw [chunks_zero, List.append_nil] at hI
        have hpsn : ps ≠ [] := by
          intro e
          rw [e] at hI
          have := chunks_ne HN0.out
          rw [HF.out, ← hI] at this
          exact this rfl
        have hps0 : 0 < ps.length := List.length_pos_iff.2 hpsn
        obtain ⟨g, cap, hsl, hg1, hg2⟩ := own_open HO hps0
        simp only [Value.slice.injEq] at hsl
        obtain ⟨rfl, _, rfl⟩ := hsl
        have hps9 : ps.length ≤ 4294967295 := by have := HFL.out; rw [← hI, List.length_map] at this; exact this
        have hsz := X.size
        have HR := Lib.hid (reverse_own wo.heap.size g pc ps wo wr HO (by omega) X (Nat.le_refl _) hg1)
        have hcap : ps.length ≤ pc := by
          rcases HO.2 with ⟨e1, _⟩ | ⟨g', cap', cur, e1, _, _, h3, _⟩
          · cases e1
          · simp only [Value.slice.injEq] at e1; omega
        have hjo : Hid ((Lib.join (ps.reverse.map (·.data.toList)) []) = Lib.decDigits n) := by
          show _ = _
          rw [join_empty, List.map_reverse, hI, HJ.out]
        rw [hz]
        clear hI hpsn hz hm HI
        go_wp2_with fail
        refine HR.out.mono ?_
        rintro e w2 ⟨rfl, X2, hcells, hsz2⟩
        have hJ := Tryz.strings_Join g 0 pc ps.reverse ⟨#[]⟩ w2 hcells (by omega) (by rw [List.length_reverse]; omega) (by rw [List.length_reverse]; exact hcap) (by
          show (Lib.join (ps.reverse.map (·.data.toList)) []).length ≤ _
          rw [hjo.out]; have := HTT.out; omega)
        rw [List.length_reverse] at hJ
        have e2 : Lib.join (ps.reverse.map (·.data.toList)) (⟨#[]⟩ : ByteArray).data.toList = Lib.decDigits n := hjo.out
        rw [e2] at hJ
        rw [show (⟨(Lib.decDigits n).toArray⟩ : ByteArray) = decT n from rfl] at hJ
        have hJ := Lib.hid hJ
        clear e2
        clear hcells
        go_wp2_with fail
        refine hJ.out.mono ?_
        rintro e w3 ⟨rfl, X3⟩
        go_wp2_with fail
        go_ret
        exact ⟨rfl, X2.trans X3⟩
      · have hmp : (dig m).length ≠ 0 := by
          intro e
          exact hm0 (dig_nil_iff.1 (List.eq_nil_of_length_eq_zero e))
        have hmi : (0 : Int) < ((dig m).length : Int) := by omega
        have hcl := List.length_pos_iff.2 (chunks_ne hm0)
        obtain ⟨q, hq⟩ : ∃ q, m / 1000000000 = q := ⟨_, rfl⟩
        obtain ⟨r, hr⟩ : ∃ r, m % 1000000000 = r := ⟨_, rfl⟩
        have hr9 : r < 1000000000 := by omega
        have hri : (r : Int) ≤ 999999999 := by omega
        have hDS := divSmall_any (.slice na (dig m).length nc) (dig m) 1000000000 wr hm (dig_dg m) (by omega) (by omega) hdl
        obtain ⟨d1, d2⟩ := divL_div (x := 1000000000) (n := m) (by omega)
        rw [d1, d2, hq, hr] at hDS
        have hDS := Lib.hid hDS
        have hsz := X.size
        have hpl9 := HFL.out
        have HQ := Lib.hid hq
        have HRR := Lib.hid hr
        clear d1 d2 hq hr hm
        by_cases hq0 : q = 0
        · subst hq0
          have hz : (dig 0).length = 0 := by rw [dig_zero]; rfl
          have hstep : Hid ((ps ++ [decT r]).map (·.data.toList) ++ chunks 0 = F) := by
            show _ = _
            have h := HI.out
            have hmr : r = m := by have := HQ.out; have := HRR.out; omega
            rw [chunks_small hm0 HQ.out] at h
            rw [List.map_append, chunks_zero, List.append_nil, ← h, hmr]
            simp [decT]
          clear hmp
          go_wp2_with fail
          refine hDS.out.mono ?_
          rintro e w2 ⟨u, rfl, hu, hfr, X2⟩
          obtain ⟨ua, uc, rfl, _, _⟩ := hu.open
          have HO2 := own_ext HO X2
          have hsz2 := X2.size
          go_wp2_with fail
          refine (itoa_any r (by omega) _ (HTab.out _ (X.trans X2))).mono ?_
          rintro e w3 ⟨rfl, X3⟩
          obtain ⟨D, hD⟩ : ∃ D, decT r = D := ⟨_, rfl⟩
          rw [hD] at hstep ⊢
          have HO3 := own_ext HO2 X3
          have hsz3 := X3.size
          clear hD
          go_wp2_with (at_builtin; refine wp_app1 (s := .tmp 29) (x := .tmp 31) (y := .string D) rfl rfl ei_strs HO3 rfl rfl rfl rfl (by omega) (by omega) (by omega) ?_; intro v' w' hown hgrew; obtain ⟨va, vc, rfl⟩ := own_shapeN hown)
          go_roundw
          case rel =>
            have XX : Ext wo w' := hgrew.extNew ((X.trans X2).trans X3) HO3 (Nat.le_refl _)
            refine ⟨0, ps ++ [D], ?_, Nat.zero_le _, own_cast hown (by simp) (by simp), XX, hstep.out⟩
            have h4 : RowX (Value.ownBlock (.slice pa ps.length pc)) w3 (.slice ua (dig 0).length uc) ((dig 0).map encD) := ⟨hu.ext X3, .inl (by rw [dig_zero]; rfl)⟩
            have := (hgrew.row h4).1
            rw [hz] at this
            exact this
          case measure => simp only [lenZ]; omega
        · have hqp : (dig q).length ≠ 0 := by
            intro e
            exact hq0 (dig_nil_iff.1 (List.eq_nil_of_length_eq_zero e))
          have hqi : (0 : Int) < ((dig q).length : Int) := by omega
          have hqn : q ≤ n := by have := HQ.out; omega
          have hlt9 := dd_len_lt (n := r) (k := 8) (by omega)
          obtain ⟨k, hk⟩ : ∃ k, 9 - (decT r).size = k := ⟨_, rfl⟩
          have hds : (decT r).size = (Lib.decDigits r).length := by rw [← bsz, decT_list]
          have hki : (9 : Int) - ((decT r).size : Int) = (k : Int) := by omega
          have hk9 : k ≤ 9 := by omega
          have hR0 := fun W => repeat0_any k W hk9
          obtain ⟨Z, hZ⟩ : ∃ Z : ByteArray, (⟨(List.replicate k (48 : UInt8)).toArray⟩ : ByteArray) = Z := ⟨_, rfl⟩
          have hZs : Z.size = k := by rw [← hZ]; simp [ByteArray.size]
          have hZl : Z.data.toList = List.replicate k 48 := by rw [← hZ]
          rw [hZ] at hR0
          have hPl : (Z ++ decT r).data.toList = pad9 r := by
            rw [ByteArray.data_append, Array.toList_append, hZl, decT_list, pad9, ← hds, hk]
          have hstep : Hid ((ps ++ [Z ++ decT r]).map (·.data.toList) ++ chunks q = F) := by
            show _ = _
            have h := HI.out
            rw [chunks_big (by rw [HQ.out]; exact hq0), HQ.out, HRR.out] at h
            rw [List.map_append, ← h, List.append_assoc]
            simp only [List.map_cons, List.map_nil, hPl]; rfl
          have hR0 := Lib.hid hR0
          obtain ⟨D, hD⟩ : ∃ D, decT r = D := ⟨_, rfl⟩
          rw [hD] at hki hstep hds
          have hDs : D.size ≤ 9 := by omega
          have hsum : Z.size + D.size ≤ 18 := by omega
          have HDD := Lib.hid hD
          clear hmp hqp hk hZ hZl hPl hD hlt9 hds hZs hq0
          go_wp2_with fail
          refine hDS.out.mono ?_
          rintro e w2 ⟨u, rfl, hu, hfr, X2⟩
          obtain ⟨ua, uc, rfl, _, _⟩ := hu.open
          have HO2 := own_ext HO X2
          have hsz2 := X2.size
          go_wp2_with fail
          refine (itoa_any r (by omega) _ (HTab.out _ (X.trans X2))).mono ?_
          rintro e w3 ⟨rfl, X3⟩
          rw [HDD.out]
          have HO3 := own_ext HO2 X3
          have hsz3 := X3.size
          go_wp2_with fail
          refine (hR0.out _).mono ?_
          rintro e w4 ⟨rfl, X4⟩
          have HO4 := own_ext HO3 X4
          have hsz4 := X4.size
          go_wp2_with (at_builtin; refine wp_app1 (s := .tmp 29) (x := .tmp 31) (y := .string (Z ++ D)) rfl rfl ei_strs HO4 rfl rfl rfl rfl (by omega) (by omega) (by omega) ?_; intro v' w' hown hgrew; obtain ⟨va, vc, rfl⟩ := own_shapeN hown)
          go_roundw
          case rel =>
            have XX : Ext wo w' := hgrew.extNew (((X.trans X2).trans X3).trans X4) HO4 (Nat.le_refl _)
            refine ⟨q, ps ++ [Z ++ D], ?_, hqn, own_cast hown (by simp) (by simp), XX, hstep.out⟩
            have h4 : RowX (Value.ownBlock (.slice pa ps.length pc)) w4 (.slice ua (dig q).length uc) ((dig q).map encD) := ⟨(hu.ext X3).ext X4, hfr.away (fun k hk => (HO.lt k hk).2)⟩
            exact (hgrew.row h4).1
          case measure => simp only [lenZ]; omega
end Go.Proofs.YtecfphohmgbddaaGreatDoor
