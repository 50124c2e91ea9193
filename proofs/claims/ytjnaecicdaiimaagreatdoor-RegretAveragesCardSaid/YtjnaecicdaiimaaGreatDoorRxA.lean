/- walks of the reference: Dot, Column -/
import Derived.Test.YtjnaecicdaiimaaGreatDoorRgQ
import Derived.Test.YtjnaecicdaiimaaGreatDoorMxF
namespace Go.Proofs.YtjnaecicdaiimaaGreatDoor
open Go.RowKit
set_option linter.unusedVariables false

set_option maxHeartbeats 3200000 in
set_option maxRecDepth 100000 in
theorem rDot_any (a b : Value) (qs rs : List Rat) (k m : Nat) (w : World) (ha : Strs w a (qs.map ratT)) (hb : Strs w b (rs.map ratT)) (hl : rs.length = qs.length) (hn : qs.length ≤ 40) (hk : k + m ≤ 10000) (hq : ∀ q ∈ qs, RB k q) (hr : ∀ r ∈ rs, RB m r) :
    Calls Tryz.prog 24 #[a, b] w fun e w' => e = .returned (.string (ratT (dotQ qs rs))) ∧ Ext w w' := by
  obtain ⟨ao, c, rfl, hlen, hc⟩ := ha.open
  obtain ⟨bo, d, rfl, hlen2, hd⟩ := hb.open
  have HC := Lib.hid hc
  have HD := Lib.hid hd
  have HQ := Lib.hid hq
  have HR := Lib.hid hr
  rw [List.length_map] at *
  rw [List.length_map, hl]
  have HL : Hid (rs.length = qs.length) := hl
  have HDB : Hid (∀ j, RB ((k + m + 1) * 40 + 1) (dotQ (qs.drop j) (rs.drop j))) := fun j => (dotQ_RB _ _ (fun q h => HQ.out q (List.mem_of_mem_drop h)) (fun q h => HR.out q (List.mem_of_mem_drop h))).mono (by
    have : (k + m + 1) * (qs.drop j).length ≤ (k + m + 1) * 40 := Nat.mul_le_mul (Nat.le_refl _) (by rw [List.length_drop]; omega)
    omega)
  obtain ⟨D, hD⟩ : ∃ D, dotQ qs rs = D := ⟨_, rfl⟩
  rw [hD]
  have HDD := Lib.hid hD
  obtain ⟨n, hn2⟩ : ∃ n, qs.length = n := ⟨_, rfl⟩
  have HN := Lib.hid hn2
  rw [hn2]
  obtain ⟨wo, rfl⟩ : ∃ wo : World, wo = w := ⟨_, rfl⟩
  have hn40 : (n : Int) ≤ 40 := by omega
  have hn0 : (0 : Int) ≤ (n : Int) := by omega
  clear hc hd ha hb hq hr hl hD hlen hlen2 hn2
  go_enter Tryz.func24, Tryz.ntmps24
  go_wp2_with fail
  go_loopw [5, 6] (fun ov iv wr => ∃ (j : Nat) (z : Int), j ≤ n ∧ iv = .int .i64 z ∧ z = (j : Int) - 1 ∧ ov = .string (ratT (dotQ (qs.drop j) (rs.drop j))) ∧ Ext wo wr) (fun _ iv _ => (intOf iv + 1).toNat)
  case atStart => exact ⟨n, (n : Int) - 1, Nat.le_refl _, by go_num, rfl, by
    rw [show qs.drop n = [] by rw [← HN.out, List.drop_length], ← ratT_zero]; rfl, Ext.refl _⟩
  case round =>
    obtain ⟨j, z, hj, rfl, hz, rfl, X⟩ := hrel
    cases j with
    | zero =>
      rw [List.drop_zero, List.drop_zero, HDD.out]
      have hz1 : z < 0 := by omega
      clear hz
      go_wp2_with fail
      go_ret
      exact ⟨rfl, X⟩
    | succ i =>
      have hzi : z = (i : Int) := by omega
      subst hzi
      obtain ⟨q, d1, d2, _⟩ := get_lt (xs := qs) (k := i) (by rw [HN.out]; omega)
      obtain ⟨r, e1, e2, _⟩ := get_lt (xs := rs) (k := i) (by rw [HL.out, HN.out]; omega)
      have p1 : Hid ((qs.map ratT)[i]? = some (ratT q)) := by show _ = _; rw [List.getElem?_map, d1.out]; rfl
      have p2 : Hid ((rs.map ratT)[i]? = some (ratT r)) := by show _ = _; rw [List.getElem?_map, e1.out]; rfl
      obtain ⟨b1, o1, rfl, _⟩ := HC.out.at p1
      have c1 := (HC.out.ext X).at' p1
      obtain ⟨b2, o2, rfl, _⟩ := HD.out.at p2
      have c2 := (HD.out.ext X).at' p2
      have hq := HQ.out q (List.mem_of_getElem? d1.out)
      have hr := HR.out r (List.mem_of_getElem? e1.out)
      have hb := HDB.out (i + 1)
      have HML := Lib.hid (fun W => rMul_any (by omega) hq hr W)
      have HAD := Lib.hid (fun W => rAdd_any (by omega) (RB_mul hq hr) hb W)
      have HNX : Hid (q * r + dotQ (qs.drop (i + 1)) (rs.drop (i + 1)) = dotQ (qs.drop i) (rs.drop i)) := by show _ = _; rw [d2.out, e2.out]; rfl
      generalize dotQ (qs.drop (i + 1)) (rs.drop (i + 1)) = acc at *
      have hi0 : (0 : Int) ≤ (i : Int) := by omega
      have hin : (i : Int) < (n : Int) := by omega
      clear hz hq hr hb d1 d2 e1 e2 p1 p2
      go_wp2_with fail
      go_region_held3 (fun w' => w'.cell? ⟨b1, o1 + i, none⟩ = some (.string (ratT q)) ∧ w'.cell? ⟨b2, o2 + i, none⟩ = some (.string (ratT r)))
        (first | exact ⟨c1, c2⟩ | exact ⟨Xm.cell c1, Xm.cell c2⟩ | exact ⟨Xa.cell c1, Xa.cell c2⟩ | go_keep)
        (first
          | (go_at_call 68; refine (HML.out _).mono ?_; rintro e wm ⟨rfl, Ym⟩; have Xm : Ext wr wm := (Ext.refl wr).drew.trans Ym)
          | (go_at_call 15; refine (HAD.out _).mono ?_; rintro e wa ⟨rfl, Ya⟩; have Xa : Ext wr wa := Xm.trans Ya))
      all_goals
        have XN := X.trans Xa
        clear c1 c2
        go_wp2_with fail
        go_roundw
        case rel => exact ⟨i, (i : Int) - 1, by omega, by go_num, rfl, by rw [HNX.out], XN⟩
        case measure => simp [intOf] <;> omega

set_option maxHeartbeats 3200000 in
set_option maxRecDepth 100000 in
theorem rColumn_any (v : Value) (m : List (List ByteArray)) (i n : Nat) (w : World) (hv : Rows Value.string w v m) (hw : ∀ l ∈ m, l.length = n) (hi : i < n) (hm : m.length ≤ 40) :
    Calls Tryz.prog 25 #[v, .int .i64 (i : Int)] w fun e w' => ∃ u, e = .returned u ∧ Strs w' u (tcol m i) ∧ Ext w w' := by
  obtain ⟨us, hr, hul, hel⟩ := hv
  obtain ⟨ao, c, rfl, _, hlen, _, hc⟩ := hr
  have HC := Lib.hid hc
  have HEL := Lib.hid hel
  have HUL := Lib.hid hul
  have HWD := Lib.hid hw
  have hu1 : us.length ≤ 40 := by omega
  have HKL : Hid ((tcol m i).length = us.length) := by show _ = _; unfold tcol; rw [List.length_map]; exact HUL.out.symm
  have HKG : Hid (∀ (j : Nat) (r : List ByteArray), m[j]? = some r → (tcol m i)[j]? = some (r.getD i ⟨#[]⟩)) := fun j r h => by unfold tcol; rw [List.getElem?_map, h]; rfl
  generalize tcol m i = col at *
  obtain ⟨wo, rfl⟩ : ∃ wo : World, wo = w := ⟨_, rfl⟩
  clear hc hel hul hw hm
  go_enter Tryz.func25, Tryz.ntmps25
  go_wp2_with fail
  go_loopw [5, 10] (fun cv jv wr => ∃ (j : Nat), j ≤ us.length ∧ jv = .int .i64 j ∧ Hid (wr.ownsRow wo.heap.size 33 1 cv j ((col.take j).map Value.string)) ∧ Ext wo wr) (fun _ jv _ => us.length - (intOf jv).toNat)
  case atStart => exact ⟨0, Nat.zero_le _, rfl, World.ownsRow_nil _ _ _ _, Ext.refl _⟩
  case round =>
    obtain ⟨j, hj, rfl, HC2, Y⟩ := hrel
    by_cases hlt2 : j < us.length
    · obtain ⟨u, d1, d2, d3⟩ := get_lt hlt2
      obtain ⟨r, q1, q2, q3⟩ := get_lt (xs := m) (k := j) (by rw [← HUL.out]; exact hlt2)
      obtain ⟨b, off, rfl, hc0⟩ := HC.out.ext Y j u d1.out
      have hcell : wr.cell? ⟨b, off + j, none⟩ = some u := hc0
      have hrw := HWD.out r (List.mem_of_getElem? q1.out)
      obtain ⟨ao2, c2, rfl, hlen2, hQ⟩ := ((HEL.out j u r d1.out q1.out).ext Y).open
      obtain ⟨q, p1, _, _⟩ := get_lt (show i < r.length by omega)
      obtain ⟨b2, off2, rfl, hq0⟩ := hQ.at p1
      have hqcell : wr.cell? ⟨b2, off2 + i, none⟩ = some (.string q) := hq0
      have hkj : (j : Int) < (us.length : Int) := by omega
      have hkr : (i : Int) < (r.length : Int) := by omega
      have HTJ : Hid ((col.take (j + 1)).map Value.string = (col.take j).map Value.string ++ [.string q]) := by
        show _ = _
        have h1 := HKG.out j r q1.out
        rw [List.getD_eq_getElem?_getD, p1.out] at h1
        obtain ⟨h2, h3⟩ := List.getElem?_eq_some_iff.1 h1
        rw [List.take_succ_eq_append_getElem h2, h3, List.map_append]
        rfl
      generalize (col.take j).map Value.string = C1 at *
      have hsz := Y.size
      have HCO := HC2.out
      clear hc0 hq0 hlt2 hrw hQ HC2
      go_wp2_with (at_builtin; refine wp_app1 (s := .tmp 14) (x := .tmp 19) (y := .string q) rfl rfl ei_vecs HCO rfl rfl rfl rfl (by omega) (by omega) (by omega) ?_; intro v' w' hown hgrew)
      have HE := Lib.hid (hgrew.extNew Y HCO (Nat.le_refl _))
      rw [← HTJ.out] at hown
      have HOW := Lib.hid hown
      go_roundw
      case rel => exact ⟨j + 1, by omega, by go_num, HOW, HE.out⟩
      case measure => simp [intOf] <;> omega
    · have hjl : us.length = j := by omega
      have hcc : col.take j = col := by rw [← hjl, ← HKL.out]; exact List.take_length
      have HC3 := HC2.out
      rw [hcc] at HC3
      have hrow := Lib.hid (own_row HC3 (by omega))
      clear HC3 HC2 hcc
      go_wp2_with fail
      go_ret
      exact ⟨_, rfl, hrow.out, Y⟩
end Go.Proofs.YtjnaecicdaiimaaGreatDoor
