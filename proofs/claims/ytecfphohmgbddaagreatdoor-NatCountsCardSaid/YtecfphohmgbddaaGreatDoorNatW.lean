/- walk of the reference: NatMul -/
import Derived.Test.YtecfphohmgbddaaGreatDoorNatV
import Derived.Deep.RegionHeld3
namespace Go.Proofs.YtecfphohmgbddaaGreatDoor
open Go.RowKit
set_option linter.unusedVariables false

theorem getD_at {l : List Nat} {k x : Nat} (h : l[k]? = some x) : l.getD k 0 = x := by rw [List.getD_eq_getElem?_getD, h]; rfl
theorem set_mapI (os : List Nat) (t z : Nat) : (os.map encI).set t (.int .i64 (z : Nat)) = (os.set t z).map encI := by
  rw [List.map_set]; rfl
theorem get_mapI {os : List Nat} {t z : Nat} (h : os[t]? = some z) : (os.map encI)[t]? = some (.int .i64 (z : Nat)) := by
  rw [List.getElem?_map, h]; rfl

set_option maxHeartbeats 3200000 in
set_option maxRecDepth 100000 in
theorem rNatMul_any (a b : ByteArray) (w : World) (ha : AllD a.data.toList) (hb : AllD b.data.toList) (hla : a.size ≤ 1000000) (hlb : b.size ≤ 1000000) :
    Calls Tryz.prog 27 #[.string a, .string b] w fun e w' => e = .returned (.string (decT (numB a * numB b))) ∧ Ext w w' := by
  obtain ⟨wo, rfl⟩ : ∃ wo : World, wo = w := ⟨_, rfl⟩
  have HA := Lib.hid (fun W k (hk : k ≤ 1000001) q hq => digit_any a k W (by omega) (by omega) ha q hq)
  have HB := Lib.hid (fun W k (hk : k ≤ 1000001) q hq => digit_any b k W (by omega) (by omega) hb q hq)
  have HDA := Lib.hid (rd_D9 ha)
  have HDB := Lib.hid (rd_D9 hb)
  have hl1 := rd_length a.data.toList
  have hl2 := rd_length b.data.toList
  rw [bsz] at hl1 hl2
  have HL1 := Lib.hid hl1
  have HL2 := Lib.hid hl2
  obtain ⟨S, hS⟩ : ∃ S, numB a * numB b = S := ⟨_, rfl⟩
  rw [hS]
  have hSv : v10 (rd a.data.toList) * v10 (rd b.data.toList) = S := by rw [v10_rd, v10_rd]; exact hS
  have HS := Lib.hid hSv
  generalize rd a.data.toList = da at *
  generalize rd b.data.toList = db at *
  clear ha hb hl1 hl2 hS hSv
  have hlai : (a.size : Int) ≤ 1000000 := by omega
  have hlbi : (b.size : Int) ≤ 1000000 := by omega
  obtain ⟨n, hn⟩ : ∃ n, a.size + b.size = n := ⟨_, rfl⟩
  have hnL : (a.size : Int) + (b.size : Int) + 1 = ((n + 1 : Nat) : Int) := by omega
  have HN := Lib.hid hn
  have hn2 : n ≤ 2000000 := by omega
  have hst := OI.start (n + 1) da db
  obtain ⟨L, hL⟩ : ∃ L, n + 1 = L := ⟨_, rfl⟩
  rw [hL] at hnL hst
  have HST := Lib.hid hst
  have HL := Lib.hid hL
  have hL1 : (L : Int) - 1 = (n : Int) := by omega
  have hLm : L ≤ 2000001 := by omega
  have hLi : (L : Int) ≤ 2000001 := by omega
  clear hst hL hn
  go_enter Tryz.func27, Tryz.ntmps27
  go_wp2_with (first
    | (at_make; refine wp_make1 rfl rfl ei_ints' rfl rfl rfl L rfl rfl (by omega) (by omega) ?_; intro w2 hO2 hX2))
  clear hnL
  go_loopw [19] (fun iv wr => ∃ (i : Nat) (os : List Nat), i ≤ a.size ∧ iv = .int .i64 i ∧ Hid (OI L da db i os) ∧ wr.ownsRow wo.heap.size 3 1 (.slice (some ⟨wo.heap.size, 0, none⟩) L L) L (os.map encI) ∧ Ext wo wr) (fun iv _ => a.size - (intOf iv).toNat)
  case atStart => exact ⟨0, List.replicate L 0, Nat.zero_le _, rfl, HST, own_cast hO2 (by simp [encI]) rfl, hX2⟩
  case round =>
    obtain ⟨i, os, hi, rfl, HI, HO, X⟩ := hrel
    obtain ⟨wr0, rfl⟩ : ∃ wr0 : World, wr0 = wr := ⟨_, rfl⟩
    by_cases hlt : i < a.size
    · obtain ⟨x, x1, x2, x3⟩ := get_lt (show i < da.length by rw [HL1.out]; exact hlt)
      have hx9 : x ≤ 9 := HDA.out x (List.mem_of_getElem? x1.out)
      have HAx := Lib.hid (fun W => HA.out W i (by omega) x (getD_at x1.out))
      have hxi : (x : Int) ≤ 9 := by omega
      have hki : (i : Int) < (a.size : Int) := by omega
      obtain ⟨rv1, rv2⟩ := row_val (i := i) HDA.out HDB.out x1.out
      rw [HL1.out, HL2.out, HN.out] at rv2
      have RV1 := Lib.hid rv1
      have RV2 := Lib.hid rv2
      obtain ⟨V0, hV0⟩ : ∃ V0, v10 os = V0 := ⟨_, rfl⟩
      have hms := MI.start (i := i) (x := x) (db := db) HI.out.1 HI.out.2.1
      rw [hV0] at hms
      have HMS := Lib.hid hms
      have hV0e := HI.out.2.2
      rw [hV0] at hV0e
      have HV0 := Lib.hid hV0e
      clear rv1 rv2 hms hV0e hV0 hlt
      go_wp2_with fail
      refine (HAx.out _).mono ?_
      rintro e w1 ⟨rfl, rfl⟩
      go_wp2_with fail
      go_loopw [27] (fun kv wr => ∃ (k : Nat) (os : List Nat), k ≤ b.size ∧ kv = .int .i64 k ∧ Hid (MI L db x i k os V0) ∧ wr.ownsRow wo.heap.size 3 1 (.slice (some ⟨wo.heap.size, 0, none⟩) L L) L (os.map encI) ∧ Ext wo wr) (fun kv _ => b.size - (intOf kv).toNat)
      case atStart => exact ⟨0, os, Nat.zero_le _, rfl, HMS, HO, X⟩
      case round =>
        obtain ⟨k, os, hk, rfl, HM, HO, X⟩ := hrel
        obtain ⟨wr1, rfl⟩ : ∃ wr1 : World, wr1 = wr := ⟨_, rfl⟩
        by_cases hlt : k < b.size
        · obtain ⟨y, y1, y2, y3⟩ := get_lt (show k < db.length by rw [HL2.out]; exact hlt)
          have hy9 : y ≤ 9 := HDB.out y (List.mem_of_getElem? y1.out)
          have HBy := Lib.hid (fun W => HB.out W k (by omega) y (getD_at y1.out))
          have hyi : (y : Int) ≤ 9 := by omega
          have hkb : (k : Int) < (b.size : Int) := by omega
          obtain ⟨t, ht⟩ : ∃ t, i + k = t := ⟨_, rfl⟩
          have hti : (i : Int) + (k : Int) = (t : Int) := by omega
          have htL : t < L := by have := HN.out; have := HL.out; omega
          have htLi : (t : Int) < (L : Int) := by omega
          obtain ⟨e, e1, _, _⟩ := get_lt (show t < os.length by rw [HM.out.1]; exact htL)
          obtain ⟨he9, hm2⟩ := HM.out.step hx9 hy9 y1.out (by rw [ht]; exact e1.out)
          have hei : (e : Int) ≤ 9 := by omega
          obtain ⟨p, hp⟩ : ∃ p, x * y = p := ⟨_, rfl⟩
          have hp81 : p ≤ 81 := by rw [← hp]; exact Nat.mul_le_mul hx9 hy9
          have epi : (x : Int) * (y : Int) = (p : Int) := by rw [← hp, Int.natCast_mul]
          have hpi : (p : Int) ≤ 81 := by omega
          obtain ⟨z, hz⟩ : ∃ z, e + p = z := ⟨_, rfl⟩
          have ezi : (e : Int) + (p : Int) = (z : Int) := by omega
          have hzi : (z : Int) ≤ 90 := by omega
          rw [hp, hz, ht] at hm2
          have HM2 := Lib.hid hm2
          have c1 := own_cell HO (j := t) (get_mapI e1.out)
          have f1 := HO.frozenAt t
          have s1 := HO.stored t (.int .i64 z)
          rw [set_mapI] at s1
          have H1 := Lib.hid s1.1
          have h0t : (0 : Int) ≤ (t : Int) := by omega
          have hti2 : (i : Int) + (k : Int) < (L : Int) := by omega
          have hti0 : (0 : Int) ≤ (i : Int) + (k : Int) := by omega
          clear hm2 hp hz ht s1 hlt
          go_wp2_with fail
          have w1 : IntKind.i64.wrap ((i : Int) + (k : Int)) = (t : Int) := by rw [hti]; exact IntWalk.i64_in _ (by omega)
          have w2 : IntKind.i64.wrap (t : Int) = (t : Int) := IntWalk.i64_in _ (by omega)
          have w3 : IntKind.i64.wrap ((x : Int) * (y : Int)) = (p : Int) := by rw [epi]; exact IntWalk.i64_in _ (by omega)
          have w4 : IntKind.i64.wrap ((e : Int) + (p : Int)) = (z : Int) := by rw [ezi]; exact IntWalk.i64_in _ (by omega)
          have w5 : IntKind.i64.wrap (p : Int) = (p : Int) := IntWalk.i64_in _ (by omega)
          have w6 : IntKind.i64.wrap (z : Int) = (z : Int) := IntWalk.i64_in _ (by omega)
          go_region_with (refine (HBy.out _).mono ?_; rintro e w' ⟨rfl, rfl⟩)
          all_goals
            clear w1 w2 w3 w4 w5 w6
            go_wp2_with fail
            go_roundw
            case rel => exact ⟨k + 1, os.set t z, by omega, by go_num, HM2, H1.out, (X.drewN _).setCell (Nat.le_refl _) _⟩
            case measure => simp [intOf]; omega
        · have hkb : b.size = k := by omega
          subst hkb
          obtain ⟨m1, m2, m3⟩ := HM.out.stop HL2.out
          have hcs := CI.start m1 m2 m3
          rw [HV0.out, RV1.out] at hcs
          obtain ⟨V, hV⟩ : ∃ V, v10 (da.take (i + 1)) * v10 db = V := ⟨_, rfl⟩
          rw [hV] at hcs
          have hVn := RV2.out
          rw [hV] at hVn
          have HCS := Lib.hid hcs
          have HVN := Lib.hid hVn
          have HV := Lib.hid hV
          clear hcs hVn hV m1 m2 m3 hlt
          go_wp2_with fail
          go_loopw [50] (fun kv wr => ∃ (k : Nat) (os : List Nat), k ≤ n ∧ kv = .int .i64 k ∧ Hid (CI L k os V) ∧ wr.ownsRow wo.heap.size 3 1 (.slice (some ⟨wo.heap.size, 0, none⟩) L L) L (os.map encI) ∧ Ext wo wr) (fun kv _ => n - (intOf kv).toNat)
          case atStart => exact ⟨0, os, Nat.zero_le _, rfl, HCS, HO, X⟩
          case round =>
            obtain ⟨k, os, hk, rfl, HM, HO, X⟩ := hrel
            by_cases hlt : k < n
            · have hkL : (k : Int) < (L : Int) := by omega
              have hkL1 : (k : Int) + 1 < (L : Int) := by omega
              have hkn : (k : Int) < (n : Int) := by omega
              obtain ⟨e, e1, _, _⟩ := get_lt (show k < os.length by rw [HM.out.1]; omega)
              obtain ⟨f, f1, _, _⟩ := get_lt (show k + 1 < os.length by rw [HM.out.1]; omega)
              have ce := own_cell HO (j := k) (get_mapI e1.out)
              obtain ⟨he99, hf90, hb⟩ := HM.out.big e1.out f1.out
              have hei : (e : Int) ≤ 99 := by omega
              have hfi : (f : Int) ≤ 90 := by omega
              by_cases h9 : e ≤ 9
              · have hsm := HM.out.small e1.out h9
                have HSM := Lib.hid hsm
                have h9i : (e : Int) ≤ 9 := by omega
                clear hb hsm
                go_wp2_with fail
                go_roundw
                case rel => exact ⟨k + 1, os, by omega, by go_num, HSM, HO, X⟩
                case measure => simp [intOf]; omega
              · have h9i : (9 : Int) < (e : Int) := by omega
                obtain ⟨g, hg⟩ : ∃ g, e / 10 = g := ⟨_, rfl⟩
                obtain ⟨r, hr⟩ : ∃ r, e % 10 = r := ⟨_, rfl⟩
                obtain ⟨h, hh⟩ : ∃ h, f + g = h := ⟨_, rfl⟩
                rw [hg, hr, hh] at hb
                have HB2 := Lib.hid hb
                have eg : (e : Int).tdiv 10 = (g : Int) := by rw [← hg]; exact (Int.ofNat_tdiv e 10).symm
                have er : (e : Int).tmod 10 = (r : Int) := by rw [← hr]; exact (Int.ofNat_tmod e 10).symm
                have eh : (f : Int) + (g : Int) = (h : Int) := by omega
                have hgi : (g : Int) ≤ 9 := by omega
                have hhi : (h : Int) ≤ 99 := by omega
                have hri : (r : Int) ≤ 9 := by omega
                have cf := own_cell HO (j := k + 1) (get_mapI f1.out)
                have fz1 := HO.frozenAt (k + 1)
                have s1 := HO.stored (k + 1) (.int .i64 h)
                rw [set_mapI] at s1
                have ce2 := own_cell s1.1 (j := k) (x := .int .i64 e) (by
                  show _ = _
                  exact get_mapI (by rw [List.getElem?_set_ne (by omega)]; exact e1.out))
                have fz2 := s1.1.frozenAt k
                have s2 := s1.1.stored k (.int .i64 r)
                rw [set_mapI] at s2
                have H2 := Lib.hid s2.1
                clear hb s1 s2 hg hr hh
                go_wp2_with fail
                go_region
                all_goals go_wp2_with fail
                go_roundw
                case rel => exact ⟨k + 1, (os.set (k + 1) h).set k r, by omega, by go_num, HB2, H2.out, ((X.drewN _).setCell (Nat.le_refl _) _).setCell (Nat.le_refl _) _⟩
                case measure => simp [intOf]; omega
            · have hkn : n = k := by omega
              subst hkn
              have hcs := HM.out
              rw [← HL.out] at hcs
              obtain ⟨o1, o2, o3⟩ := hcs.stop rfl HVN.out
              have HOI : Hid (OI L da db (i + 1) os) := ⟨by rw [o1]; exact HL.out, o2, by rw [o3, HV.out]⟩
              clear hcs o1 o2 o3 hlt
              go_wp2_with fail
              go_roundw
              case rel => exact ⟨i + 1, os, by omega, by go_num, HOI, HO, X⟩
              case measure => simp [intOf]; omega
    · have hil : a.size = i := by omega
      subst hil
      obtain ⟨o2, o3⟩ := HI.out.stop HL1.out
      have hol := HI.out.1
      have HT := Lib.hid (dtext_any _ os wr0 (own_rowOf (enc := encI) HO (by omega)) o2 (by omega))
      rw [o3, HS.out] at HT
      clear hlt hol o2 o3
      go_wp2_with fail
      refine HT.out.mono ?_
      rintro e w1 ⟨rfl, X1⟩
      go_wp2_with fail
      go_ret
      exact ⟨rfl, X.trans X1⟩
end Go.Proofs.YtecfphohmgbddaaGreatDoor
