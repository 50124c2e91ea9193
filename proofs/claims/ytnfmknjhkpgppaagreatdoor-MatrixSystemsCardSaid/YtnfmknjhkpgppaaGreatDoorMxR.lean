/- walk: matrix.SolveOf -/
import Derived.Test.YtnfmknjhkpgppaaGreatDoorMxP
import Derived.Test.YtnfmknjhkpgppaaGreatDoorMxQT
namespace Go.Proofs.YtnfmknjhkpgppaaGreatDoor
open Go.RowKit
set_option linter.unusedVariables false

theorem ZsO.nn {w : World} {B : Nat} {v : Value} {zs : List Int} (h : ZsO w B v zs) (hn : 0 < zs.length) : ∃ g c, v = .slice (some ⟨g, 0, none⟩) zs.length c := by
  obtain ⟨ts, h1, _⟩ := h
  obtain ⟨g, c, e, _⟩ := own_open h1 hn
  exact ⟨g, c, e⟩
theorem own_capN {w : World} {B : Nat} {e : TypeId} {s : Nat} {v : Value} {n : Nat} {xs : List Value} (h : w.ownsRow B e s v n xs) (hn : 0 < n) : ∃ g c, v = .slice (some ⟨g, 0, none⟩) n c ∧ n ≤ c := by
  rcases h.2 with ⟨_, e⟩ | ⟨g2, cap2, cur, e, _, _, hc, _⟩
  · omega
  · exact ⟨g2, cap2, e, hc⟩
theorem ZzO.nn {w : World} {B : Nat} {v : Value} {M : List (List Int)} (h : ZzO w B v M) (hn : 0 < M.length) : ∃ g c, v = .slice (some ⟨g, 0, none⟩) M.length c ∧ M.length ≤ c := by
  obtain ⟨us, h⟩ := h
  exact own_capN h.own hn
theorem ZzO.cap {w : World} {B go n c : Nat} {M : List (List Int)} (h : ZzO w B (.slice (some ⟨go, 0, none⟩) n c) M) : M.length = n ∧ n ≤ c := by
  obtain ⟨us, h⟩ := h
  have h1 := own_form h.own
  rcases h.own.2 with ⟨e, _⟩ | ⟨g2, cap2, cur, e, _, _, hc, _⟩
  · simp at e
  · simp only [Value.slice.injEq, Option.some.injEq, Addr.mk.injEq, and_true] at e
    obtain ⟨_, _, rfl⟩ := e
    exact ⟨h1.symm, by omega⟩
theorem ZzO.grew {w0 w w' : World} {B : Nat} {v v' : Value} {M : List (List Int)} (h : ZzO w B v M) (hg : Grew w v w' v') (he : Ext w0 w) (hB : w0.heap.size ≤ B) : Ext w0 w' :=
  hg.ext he (fun k hk => Nat.le_trans hB (h.lt k hk).1)
theorem ZzO.mono {w : World} {B C : Nat} {v : Value} {M : List (List Int)} (h : ZzO w B v M) (hc : C ≤ B) : ZzO w C v M := by
  obtain ⟨us, h⟩ := h
  exact ⟨us, own_mono h.own hc, h.cl, h.len, fun i u zs a b => (h.row i u zs a b).mono hc, h.blk, h.dis⟩
theorem RedZ.kc {n w x k : Nat} {A M : List (List Int)} {c : Nat → Nat} {d : Int} {neg : Bool} {cur : Nat} (h : RedZ n w x A M k c d neg cur) : k ≤ cur := by
  rcases Nat.eq_zero_or_pos k with e | e
  · omega
  · have h1 := inc_id h.inv.inc (k - 1) (by omega)
    have h2 := h.inv.lt (k - 1) (by omega)
    omega
theorem RedZ.diag {n w m x : Nat} {A M : List (List Int)} {c : Nat → Nat} {d : Int} {neg : Bool} {cur : Nat} (h : RedZ n w x A M m c d neg cur) (hcur : cur ≤ m) {i : Nat} (hi : i < m) : atZ M i i = d := by
  obtain ⟨p, h1, h2, h3⟩ := h.inv.ex
  have hid := inc_full h.inv.inc fun t ht => by have := h.inv.lt t ht; omega
  have hn := h2.kn
  have := h2.pv i i hi (by omega)
  rw [hid i hi, if_pos rfl] at this
  exact Rat.intCast_inj.1 this
theorem RedZ.sols {n m x : Nat} {rows : List (List Rat)} {M : List (List Int)} {c : Nat → Nat} {d : Int} {neg : Bool} {cur : Nat} (h : RedZ n (m + 1) x (wholeM rows) M m c d neg cur) (hr : rows.length = n) (hcur : cur ≤ m) (hz : ∀ i, m ≤ i → i < n → atZ M i m = 0) :
    sysL m rows = some ((List.range m).map fun t => Rat.divInt (atZ M t m) d) := by
  rw [h.sysGood hr hcur hz]
  congr 1
  refine List.map_congr_left fun t _ => ?_
  rw [Rat.divInt_eq_div]

def SolvePost (rows : List (List Rat)) (m : Nat) (w : World) (e : Ending) (w' : World) : Prop := Ext w w' ∧
  ((sysL m rows = none ∧ ∃ q : Int, (q = 8 ∨ q = 18) ∧ e = .returned (.tuple #[.slice none 0 0, .int .i64 q])) ∨ ∃ xs u, sysL m rows = some xs ∧ e = .returned (.tuple #[u, .int .i64 0]) ∧ QsV w' u xs ∧ xs.length = m)

set_option maxHeartbeats 16000000 in
set_option maxRecDepth 100000 in
theorem solveOf_any (v : Value) (rows : List (List Rat)) (n m : Nat) (w : World) (hv : QssV w v rows) (hr : Rect rows n (m + 1)) (hn : 1 ≤ n) (hn4 : n ≤ 40) (hm : m ≤ 40) (hq : ∀ r ∈ rows, ∀ q ∈ r, RB 2000 q) :
    Calls Tryz.prog 27 #[v, .int .i64 (m : Int)] w (SolvePost rows m w) := by
  unfold SolvePost
  obtain ⟨wo, rfl⟩ : ∃ wo : World, wo = w := ⟨_, rfl⟩
  obtain ⟨us, hrow, hul, hel⟩ := hv
  obtain ⟨ao, c, rfl, _, hlen, _, hc⟩ := hrow
  obtain ⟨K, hK⟩ : ∃ K, 2000 + (1 + 2000 * (m + 1)) = K := ⟨_, rfl⟩
  have hunl : us.length = n := by rw [hul, hr.len]
  have HC : Hid (CellsOf id wo ao us) := by
    show Cells _ _ _
    rw [List.map_id]; exact hc
  have HEL := Lib.hid hel
  have HUL := Lib.hid hunl
  have HRL : Hid (rows.length = n) := hr.len
  have HWD : Hid (∀ r ∈ rows, r.length = m + 1) := hr.wide
  have HQB := Lib.hid hq
  have HBD : Hid (∀ i j, i < n → (atZ (wholeM rows) i j).natAbs ≤ 10 ^ K) := wholeM_bd hr hq hK
  have HRD := Lib.hid (fun (go cap : Nat) (W : World) (X : Ext wo W) (HZ : ZzO W wo.heap.size (.slice (some ⟨go, 0, none⟩) n cap) (wholeM rows)) => reduce_any wo W go n cap (m + 1) m (10 ^ K) (wholeM rows) X HZ (wholeM_rect hr) HBD.out (hx_pos hn) (by omega) (by omega) (by omega) (red_dig hn4 (by omega)))
  have HDG : Hid (∀ z : Int, z.natAbs ≤ (n * 10 ^ K) ^ n → (dig z.natAbs).length ≤ 100000000) := red_dig hn4 (by omega)
  have HWM : Hid ((wholeM rows).length = n) := (wholeM_rect hr).len
  have HWT : Hid (∀ i r, rows[i]? = some r → (wholeM rows).take (i + 1) = (wholeM rows).take i ++ [wholeL r]) := fun i r h => by
    have h2 : (wholeM rows)[i]? = some (wholeL r) := by unfold wholeM; rw [List.getElem?_map, h]; rfl
    obtain ⟨h3, h4⟩ := List.getElem?_eq_some_iff.1 h2
    rw [List.take_succ_eq_append_getElem h3, h4]
  obtain ⟨x, hx⟩ : ∃ x, 10 ^ K = x := ⟨_, rfl⟩
  rw [hx] at HRD HDG
  obtain ⟨N, hN⟩ : ∃ N, us.length = N := ⟨_, rfl⟩
  have hNn : N = n := by omega
  subst hNn
  rw [hN]
  have hmi : (m : Int) ≤ 40 := by omega
  have hni : (N : Int) ≤ 40 := by omega
  clear hc hel hr hq hul hunl HBD hlen hx hK hN
  go_enter Tryz.func27, Tryz.ntmps27
  go_wp2_with fail
  go_loopw [6, 18] (fun ov iv wr => ∃ (i : Nat), i ≤ N ∧ iv = .int .i64 i ∧ Hid (ZzO wr wo.heap.size ov ((wholeM rows).take i)) ∧ Ext wo wr) (fun _ iv _ => N - (intOf iv).toNat)
  case atStart => exact ⟨0, Nat.zero_le _, rfl, by show ZzO _ _ _ _; rw [List.take_zero]; exact ZzO.nil _ _, Ext.refl _⟩
  case round =>
    obtain ⟨i, hi, rfl, HO, X⟩ := hrel
    by_cases hlt : i < N
    · obtain ⟨u, d1, _, _⟩ := get_lt (xs := us) (k := i) (by rw [HUL.out]; exact hlt)
      obtain ⟨r, q1, _, _⟩ := get_lt (xs := rows) (k := i) (by rw [HRL.out]; exact hlt)
      obtain ⟨b, off, rfl, hc0⟩ := (HC.out.ext X).at d1
      have hcell : wr.cell? ⟨b, off + i, none⟩ = some u := hc0
      have hrm := List.mem_of_getElem? q1.out
      have hqv := HEL.out i u r d1.out q1.out
      have hrw := HWD.out r hrm
      have HWR := Lib.hid (fun W (hx : Ext wo W) => whole_row u r W (hqv.ext hx) (by omega) (HQB.out r hrm))
      have HWLL : Hid ((wholeL r).length = m + 1) := by show _ = _; rw [wholeL_len, hrw]
      obtain ⟨ao2, c2, rfl, _, _⟩ := hqv.opn
      have HTK := Lib.hid (HWT.out i r q1.out)
      have HML : Hid (((wholeM rows).take i).length ≤ 1000000) := by show _ ≤ _; rw [List.length_take]; omega
      have hki : (i : Int) < (N : Int) := by omega
      generalize (wholeM rows).take i = M1 at *
      generalize wholeL r = zs at *
      clear hc0 hlt hrm hrw d1 q1
      go_wp2_with fail
      refine (HWR.out _ X).mono ?_
      rintro e w4 ⟨u4, f4, rfl, h4, hf4, X4⟩
      obtain ⟨g4, cg4, rfl⟩ := h4.nn (by rw [HWLL.out]; omega)
      obtain ⟨fo, fl, fc, rfl, _, _⟩ := hf4.opn
      have HO4 := Lib.hid (HO.out.ext X4)
      have hN4 := HO.out.new X4 h4
      have h4' := h4.mono (show wo.heap.size ≤ wr.heap.size from X.size)
      have XA := X.trans X4
      have hsz := XA.size
      have HML2 := Lib.hid HML.out
      clear h4 hf4 HO
      go_wp2_with (at_builtin; refine wp_appZs (sl := .tmp 27) (x := .tmp 29) rfl rfl hN4 h4' rfl rfl rfl HML.out hsz ?_; intro v' w' hown hgrew hclean)
      have HE := Lib.hid (HO4.out.grew hgrew XA (Nat.le_refl _))
      rw [← HTK.out] at hown
      have HOW := Lib.hid hown
      go_roundw
      case rel => exact ⟨i + 1, by omega, by go_num, HOW, HE.out⟩
      case measure => simp [intOf] <;> omega
    · have hin : N = i := by omega
      have hz := HO.out
      rw [← hin, ← HWM.out, List.take_length] at hz
      obtain ⟨go, cap, rfl, hcap⟩ := hz.nn (by rw [HWM.out]; omega)
      rw [HWM.out] at hz hcap ⊢
      have HRQ := Lib.hid (HRD.out go cap wr X hz)
      clear hin hz HO hi
      go_wp2_with fail
      refine HRQ.out.mono ?_
      rintro e w5 ⟨g, rfl, hp⟩
      obtain ⟨M, k, cf, cur, d, neg, po, pc, s, a, l, lc, hRZ, hcw, hck, hZ, q1, q2, q3, hd, q4, X5⟩ := hp
      have hkn := hRZ.kn
      have hkc := hRZ.kc
      have HRZ := Lib.hid hRZ
      have HZ := Lib.hid hZ
      have HCK := Lib.hid hck
      have hki : (k : Int) ≤ (N : Int) := by omega
      have hkp : (k : Int) ≤ (cap : Int) := by omega
      have hkm : k ≤ m := by omega
      clear hRZ hZ hck hd q2 q3 q4
      by_cases hke : cap = k
      · go_wp2_with fail
        obtain ⟨L, hL⟩ : ∃ L, N - k = L := ⟨_, rfl⟩
        rw [hL]
        have hkl1 : k + L ≤ N := by omega
        have hkl2 : N ≤ k + L := by omega
        clear hL
        go_loopw [43] (fun tv wr => ∃ (t : Nat), t ≤ L ∧ tv = .int .i64 (t : Int) ∧ Hid (∀ j, k ≤ j → j < k + t → atZ M j m = 0) ∧ Ext w5 wr) (fun tv _ => L - (intOf tv).toNat)
        case atStart => exact ⟨0, Nat.zero_le _, rfl, fun j h1 h2 => by omega, Ext.refl _⟩
        case round =>
          obtain ⟨t, ht, rfl, HZZ, Y⟩ := hrel
          by_cases hlt2 : t < L
          · exfalso; omega
          · have HZA : Hid (∀ j, m ≤ j → j < N → k = m → atZ M j m = 0) := fun j h1 h2 h3 => HZZ.out j (by omega) (by omega)
            have q1' := Y.cell q1
            clear HZZ
            by_cases hkm2 : k < m
            · have hki2 : (k : Int) < (m : Int) := by omega
              have HMY := Lib.hid (HRZ.out.sysMany HRL.out hcw HCK.out hkm2)
              go_wp2_with fail
              go_ret2
              exact ⟨X5.ext.trans Y, .inl ⟨HMY.out, 18, .inr rfl, rfl⟩⟩
            · have hke2 : k = m := by omega
              subst hke2
              have hki2 : ¬ ((k : Int) < (k : Int)) := by omega
              have HSL := Lib.hid (HRZ.out.sols HRL.out hcw (fun j h1 h2 => HZA.out j h1 h2 rfl))
              obtain ⟨w6, rfl⟩ : ∃ w6 : World, w6 = wr := ⟨_, rfl⟩
              have HXT : Hid (∀ i, i < k → ((List.range k).map fun t => Rat.divInt (atZ M t k) d).take (i + 1) = ((List.range k).map fun t => Rat.divInt (atZ M t k) d).take i ++ [Rat.divInt (atZ M i k) d]) := fun i hi => by
                have h2 : ((List.range k).map fun t => Rat.divInt (atZ M t k) d)[i]? = some (Rat.divInt (atZ M i k) d) := by rw [List.getElem?_map, List.getElem?_range hi]; rfl
                obtain ⟨h3, h4⟩ := List.getElem?_eq_some_iff.1 h2
                rw [List.take_succ_eq_append_getElem h3, h4]
              have HXL : Hid (((List.range k).map fun t => Rat.divInt (atZ M t k) d).length = k) := by show _ = _; rw [List.length_map, List.length_range]
              generalize ((List.range k).map fun t => Rat.divInt (atZ M t k) d) = xs at *
              clear HZA
              go_wp2_with fail
              go_loopw [14, 62] (fun ov iv wr => ∃ (i : Nat), i ≤ k ∧ iv = .int .i64 i ∧ Hid (QsO wr w5.heap.size ov (xs.take i)) ∧ Ext w5 wr) (fun _ iv _ => k - (intOf iv).toNat)
              case atStart => exact ⟨0, Nat.zero_le _, rfl, by show QsO _ _ _ _; rw [List.take_zero]; exact QsO.nil _ _, Y⟩
              case round =>
                clear Y
                obtain ⟨i, hi, rfl, HO, Y⟩ := hrel
                by_cases hlt3 : i < k
                · have hiN : i < N := by omega
                  obtain ⟨r, r1, r2, r3⟩ := HRZ.out.rect.row hiN
                  obtain ⟨gi, ci, _, _, hcell, hzs, _, _, _, _⟩ := (HZ.out.ext Y).toK.at r1
                  obtain ⟨sz, az, lz, cz, k0, k1, hiv⟩ := hzs.read (r3 k (by omega))
                  obtain ⟨sy, ay, ly, cy, j0, j1, hjv⟩ := hzs.read (r3 i (by omega))
                  rw [r2] at hcell
                  have hdi := HRZ.out.diag hcw hlt3
                  rw [hdi] at hjv
                  have hd0 := HRZ.out.dne
                  have hdl := HDG.out _ HRZ.out.dnum
                  have hzl := HDG.out _ (HRZ.out.num hiN (show k < k + 1 by omega))
                  have HTK := Lib.hid (HXT.out i hlt3)
                  have HTL : Hid ((xs.take i).length ≤ 1000000) := by show _ ≤ _; rw [List.length_take]; omega
                  have HFR := Lib.hid (fun W (hx : Ext wr W) => frac_any (.agg #[.bool sz, .slice az lz cz]) (.agg #[.bool sy, .slice ay ly cy]) (atZ M i k) d W (hiv.ext hx) (hjv.ext hx) hd0 (by omega) (by omega))
                  have hii : (i : Int) < (k : Int) := by omega
                  have hiN2 : (i : Int) < (N : Int) := by omega
                  have hik2 : (i : Int) < (k : Int) + 1 := by omega
                  have hik3 : (k : Int) < (k : Int) + 1 := by omega
                  have hi0 : (0 : Int) ≤ (i : Int) := by omega
                  generalize xs.take i = X1 at *
                  generalize Rat.divInt (atZ M i k) d = qz at *
                  clear hzs r1 r2 r3 hdi hjv hiv hd0 hdl hzl hlt3
                  go_wp2_with fail
                  go_region_law (first
                    | (go_simp; go_at_call 36; refine (HFR.out _ (by exact (Ext.refl _).drew)).mono ?_; rintro e wm ⟨um, rfl, hm, Ym⟩; obtain ⟨s8, ao8, l8, c8, bo8, m8, d8, rfl, _, _, _⟩ := hm.opn; have Xm : Ext wr wm := (Ext.refl wr).drew.trans Ym; have HM := Lib.hid hm; have HO4 := HO.out.ext Xm; have XA := Y.trans Xm; have hsz := XA.size; clear hm)
                    | (refine step_appQ (sl := .tmp 65) (x := .tmp 81) rfl rfl HO4 HM.out rfl rfl rfl HTL.out hsz ?_; intro v' w' hown hgrew hclean))
                  all_goals
                    have HE := Lib.hid (QsO.grew HO4 hgrew XA (Nat.le_refl _))
                    rw [← HTK.out] at hown
                    have HOW := Lib.hid hown
                    clear k0 k1 j0 j1 hcell
                    go_wp2_with fail
                    go_roundw
                    case rel => exact ⟨i + 1, by omega, by go_num, HOW, HE.out⟩
                    case measure => simp [intOf] <;> omega
                · have hki3 : k = i := by omega
                  have ho := HO.out
                  rw [← hki3, ← HXL.out, List.take_length] at ho
                  have HOF := Lib.hid (ho.toV (by rw [HXL.out]; omega))
                  clear hki3 ho HO hi
                  go_wp2_with fail
                  go_ret2
                  exact ⟨X5.ext.trans Y, .inr ⟨_, _, HSL.out, rfl, HOF.out, HXL.out⟩⟩
      · go_wp2_with fail
        obtain ⟨L, hL⟩ : ∃ L, N - k = L := ⟨_, rfl⟩
        rw [hL]
        have hkl1 : k + L ≤ N := by omega
        have hkl2 : N ≤ k + L := by omega
        clear hL
        go_loopw [43] (fun tv wr => ∃ (t : Nat), t ≤ L ∧ tv = .int .i64 (t : Int) ∧ Hid (∀ j, k ≤ j → j < k + t → atZ M j m = 0) ∧ Ext w5 wr) (fun tv _ => L - (intOf tv).toNat)
        case atStart => exact ⟨0, Nat.zero_le _, rfl, fun j h1 h2 => by omega, Ext.refl _⟩
        case round =>
          obtain ⟨t, ht, rfl, HZZ, Y⟩ := hrel
          by_cases hlt2 : t < L
          · have hjN : k + t < N := by omega
            obtain ⟨r, r1, r2, r3⟩ := HRZ.out.rect.row hjN
            obtain ⟨gi, ci, _, _, hcell, hzs, _, _, _, _⟩ := (HZ.out.ext Y).toK.at r1
            obtain ⟨sz, az, lz, cz, k0, k1, hiv⟩ := hzs.read (r3 m (by omega))
            rw [r2] at hcell
            have HSG := Lib.hid (intSign_any _ _ wr hiv)
            have htl : (t : Int) < (L : Int) := by omega
            have hm1 : (m : Int) < (m : Int) + 1 := by omega
            clear hzs hiv r3
            by_cases hz : atZ M (k + t) m = 0
            · rw [hz] at HSG
              have HZ2 : Hid (∀ j, k ≤ j → j < k + (t + 1) → atZ M j m = 0) := fun j h1 h2 => by
                by_cases e : j = k + t
                · rw [e]; exact hz
                · exact HZZ.out j h1 (by omega)
              clear hz r1 r2 HZZ
              go_wp2_with fail
              refine HSG.out.mono ?_
              rintro e w7 ⟨rfl, X7⟩
              have Y7 := Y.trans X7
              go_wp2_with fail
              go_roundw
              case rel => exact ⟨t + 1, by omega, by go_num, HZ2, Y7⟩
              case measure => simp [intOf] <;> omega
            · have HNO := Lib.hid (HRZ.out.sysNone HRL.out HCK.out (show k ≤ k + t by omega) hjN hz)
              have hsg : ((atZ M (k + t) m).sign != 0) = true := by
                rw [bne_iff_ne]
                exact fun e => hz (Int.sign_eq_zero_iff_zero.1 e)
              generalize (atZ M (k + t) m).sign = sg9 at *
              clear hz r1 r2 HZZ
              go_wp2_with fail
              refine HSG.out.mono ?_
              rintro e w7 ⟨rfl, X7⟩
              have Y7 := Y.trans X7
              go_wp2_with fail
              go_ret2
              exact ⟨X5.ext.trans Y7, .inl ⟨HNO.out, 8, .inl rfl, rfl⟩⟩

          · have HZA : Hid (∀ j, m ≤ j → j < N → k = m → atZ M j m = 0) := fun j h1 h2 h3 => HZZ.out j (by omega) (by omega)
            have q1' := Y.cell q1
            clear HZZ
            by_cases hkm2 : k < m
            · have hki2 : (k : Int) < (m : Int) := by omega
              have HMY := Lib.hid (HRZ.out.sysMany HRL.out hcw HCK.out hkm2)
              go_wp2_with fail
              go_ret2
              exact ⟨X5.ext.trans Y, .inl ⟨HMY.out, 18, .inr rfl, rfl⟩⟩
            · have hke2 : k = m := by omega
              subst hke2
              have hki2 : ¬ ((k : Int) < (k : Int)) := by omega
              have HSL := Lib.hid (HRZ.out.sols HRL.out hcw (fun j h1 h2 => HZA.out j h1 h2 rfl))
              obtain ⟨w6, rfl⟩ : ∃ w6 : World, w6 = wr := ⟨_, rfl⟩
              have HXT : Hid (∀ i, i < k → ((List.range k).map fun t => Rat.divInt (atZ M t k) d).take (i + 1) = ((List.range k).map fun t => Rat.divInt (atZ M t k) d).take i ++ [Rat.divInt (atZ M i k) d]) := fun i hi => by
                have h2 : ((List.range k).map fun t => Rat.divInt (atZ M t k) d)[i]? = some (Rat.divInt (atZ M i k) d) := by rw [List.getElem?_map, List.getElem?_range hi]; rfl
                obtain ⟨h3, h4⟩ := List.getElem?_eq_some_iff.1 h2
                rw [List.take_succ_eq_append_getElem h3, h4]
              have HXL : Hid (((List.range k).map fun t => Rat.divInt (atZ M t k) d).length = k) := by show _ = _; rw [List.length_map, List.length_range]
              generalize ((List.range k).map fun t => Rat.divInt (atZ M t k) d) = xs at *
              clear HZA
              go_wp2_with fail
              go_loopw [14, 62] (fun ov iv wr => ∃ (i : Nat), i ≤ k ∧ iv = .int .i64 i ∧ Hid (QsO wr w5.heap.size ov (xs.take i)) ∧ Ext w5 wr) (fun _ iv _ => k - (intOf iv).toNat)
              case atStart => exact ⟨0, Nat.zero_le _, rfl, by show QsO _ _ _ _; rw [List.take_zero]; exact QsO.nil _ _, Y⟩
              case round =>
                clear Y
                obtain ⟨i, hi, rfl, HO, Y⟩ := hrel
                by_cases hlt3 : i < k
                · have hiN : i < N := by omega
                  obtain ⟨r, r1, r2, r3⟩ := HRZ.out.rect.row hiN
                  obtain ⟨gi, ci, _, _, hcell, hzs, _, _, _, _⟩ := (HZ.out.ext Y).toK.at r1
                  obtain ⟨sz, az, lz, cz, k0, k1, hiv⟩ := hzs.read (r3 k (by omega))
                  obtain ⟨sy, ay, ly, cy, j0, j1, hjv⟩ := hzs.read (r3 i (by omega))
                  rw [r2] at hcell
                  have hdi := HRZ.out.diag hcw hlt3
                  rw [hdi] at hjv
                  have hd0 := HRZ.out.dne
                  have hdl := HDG.out _ HRZ.out.dnum
                  have hzl := HDG.out _ (HRZ.out.num hiN (show k < k + 1 by omega))
                  have HTK := Lib.hid (HXT.out i hlt3)
                  have HTL : Hid ((xs.take i).length ≤ 1000000) := by show _ ≤ _; rw [List.length_take]; omega
                  have HFR := Lib.hid (fun W (hx : Ext wr W) => frac_any (.agg #[.bool sz, .slice az lz cz]) (.agg #[.bool sy, .slice ay ly cy]) (atZ M i k) d W (hiv.ext hx) (hjv.ext hx) hd0 (by omega) (by omega))
                  have hii : (i : Int) < (k : Int) := by omega
                  have hiN2 : (i : Int) < (N : Int) := by omega
                  have hik2 : (i : Int) < (k : Int) + 1 := by omega
                  have hik3 : (k : Int) < (k : Int) + 1 := by omega
                  have hi0 : (0 : Int) ≤ (i : Int) := by omega
                  generalize xs.take i = X1 at *
                  generalize Rat.divInt (atZ M i k) d = qz at *
                  clear hzs r1 r2 r3 hdi hjv hiv hd0 hdl hzl hlt3
                  go_wp2_with fail
                  go_region_law (first
                    | (go_simp; go_at_call 36; refine (HFR.out _ (by exact (Ext.refl _).drew)).mono ?_; rintro e wm ⟨um, rfl, hm, Ym⟩; obtain ⟨s8, ao8, l8, c8, bo8, m8, d8, rfl, _, _, _⟩ := hm.opn; have Xm : Ext wr wm := (Ext.refl wr).drew.trans Ym; have HM := Lib.hid hm; have HO4 := HO.out.ext Xm; have XA := Y.trans Xm; have hsz := XA.size; clear hm)
                    | (refine step_appQ (sl := .tmp 65) (x := .tmp 81) rfl rfl HO4 HM.out rfl rfl rfl HTL.out hsz ?_; intro v' w' hown hgrew hclean))
                  all_goals
                    have HE := Lib.hid (QsO.grew HO4 hgrew XA (Nat.le_refl _))
                    rw [← HTK.out] at hown
                    have HOW := Lib.hid hown
                    clear k0 k1 j0 j1 hcell
                    go_wp2_with fail
                    go_roundw
                    case rel => exact ⟨i + 1, by omega, by go_num, HOW, HE.out⟩
                    case measure => simp [intOf] <;> omega
                · have hki3 : k = i := by omega
                  have ho := HO.out
                  rw [← hki3, ← HXL.out, List.take_length] at ho
                  have HOF := Lib.hid (ho.toV (by rw [HXL.out]; omega))
                  clear hki3 ho HO hi
                  go_wp2_with fail
                  go_ret2
                  exact ⟨X5.ext.trans Y, .inr ⟨_, _, HSL.out, rfl, HOF.out, HXL.out⟩⟩
end Go.Proofs.YtnfmknjhkpgppaaGreatDoor
