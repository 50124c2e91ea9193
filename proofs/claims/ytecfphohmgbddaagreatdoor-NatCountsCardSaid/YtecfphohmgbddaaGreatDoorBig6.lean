/- walk of package big: Mul -/
import Derived.Test.YtecfphohmgbddaaGreatDoorBig5
namespace Go.Proofs.YtecfphohmgbddaaGreatDoor
open Go.RowKit
set_option linter.unusedVariables false

/-- a row of digits, set at a place -/
theorem take_set_succ {xs : List Nat} {j x : Nat} (h : j < xs.length) : (xs.set j x).take (j + 1) = xs.take j ++ [x] := by
  have h1 : j < (xs.set j x).length := by rw [List.length_set]; exact h
  rw [List.take_succ_eq_append_getElem h1, List.getElem_set_self, List.take_set_of_le (Nat.le_refl _)]
theorem drop_set_succ {xs : List Nat} {j x : Nat} : (xs.set j x).drop (j + 1) = xs.drop (j + 1) := by
  rw [List.drop_set_of_lt (by omega)]
theorem set_map (xs : List Nat) (j x : Nat) : (xs.map encD).set j (.int .u32 x) = (xs.set j x).map encD := by
  rw [List.map_set]; rfl
theorem dg_set {xs : List Nat} {j x : Nat} (h : Dg xs) (hx : x < 4294967296) : Dg (xs.set j x) := fun y hy => by
  rcases List.mem_or_eq_of_mem_set hy with h1 | h1
  · exact h y h1
  · subst h1; exact hx

theorem split_mid {T gs : List Nat} {g i : Nat} (h : T.length = i) : (T ++ g :: gs).take (i + 1) = T ++ [g] ∧ (T ++ g :: gs).drop (i + 1) = gs := by
  have e1 : T ++ g :: gs = (T ++ [g]) ++ gs := by rw [List.append_assoc]; rfl
  have hTg : (T ++ [g]).length = i + 1 := by rw [List.length_append, h]; rfl
  rw [e1]
  exact ⟨List.take_left' hTg, List.drop_left' hTg⟩

theorem getD_drop0 (xs : List Nat) (k : Nat) : (xs.drop k).headD 0 = xs.getD k 0 := by
  rw [List.headD_eq_head?_getD, List.head?_drop]; rfl
theorem tail_drop' (xs : List Nat) (k : Nat) : (xs.drop k).tail = xs.drop (k + 1) := by rw [List.tail_drop]

set_option maxHeartbeats 3200000 in
set_option maxRecDepth 100000 in
theorem mul_le (v u : Value) (ds ms : List Nat) (w : World) (hv : Digs w v ds) (hu : Digs w u ms) (hd : Dg ds) (hm : Dg ms) (hl : ds.length ≤ 1073741824) (hl2 : ms.length ≤ 1073741824) :
    Calls Tryz.prog 73 #[v, u] w fun e w' => ∃ r, e = .returned r ∧ NatV w' r (val ds * val ms) ∧ Ext w w' := by
  obtain ⟨wo, rfl⟩ : ∃ wo : World, wo = w := ⟨_, rfl⟩
  obtain ⟨F, hF⟩ : ∃ F, mulOut ms ds (List.replicate (ds.length + ms.length) 0) = F := ⟨_, rfl⟩
  obtain ⟨L, hL⟩ : ∃ L, ds.length + ms.length = L := ⟨_, rfl⟩
  have hLi : (ds.length : Int) + (ms.length : Int) = (L : Int) := by omega
  have hL9 : L ≤ 2147483648 := by omega
  obtain ⟨ao, c, rfl, hlen, hc⟩ := hv.open
  obtain ⟨ao2, c2, rfl, hlen2, hc2⟩ := hu.open
  rw [hL] at hF
  have HF := Lib.hid hF
  have HL := Lib.hid hL
  have HC := Lib.hid hc
  have HC2 := Lib.hid hc2
  have HD := Lib.hid hd
  have HM := Lib.hid hm
  clear hF hc hd hv hc2 hm hu hL
  go_enter Tryz.func73, Tryz.ntmps73
  go_wp2_with (first
    | (at_make; refine wp_make1 rfl rfl ei_nat rfl rfl rfl L rfl rfl (by omega) (by omega) ?_; intro w2 hO2 hX2))
  clear hLi
  go_loopw [19] (fun iv wr => ∃ (i : Nat) (os : List Nat), i ≤ ds.length ∧ iv = .int .i64 i ∧ os.length = L ∧ Hid (Dg os) ∧ wr.ownsRow wo.heap.size 121 1 (.slice (some ⟨wo.heap.size, 0, none⟩) L L) L (os.map encD) ∧ Ext wo wr ∧ Hid (os.take i ++ mulOut ms (ds.drop i) (os.drop i) = F)) (fun iv _ => ds.length - (intOf iv).toNat)
  case atStart => exact ⟨0, List.replicate L 0, Nat.zero_le _, rfl, by simp, Dg.zeros L, own_cast hO2 (by simp [encD]) rfl, hX2, HF.out⟩
  case round =>
    obtain ⟨i, os, hi, rfl, hol, HDO, HO, X, HI⟩ := hrel
    have HOL := Lib.hid hol
    clear hol
    obtain ⟨wr0, rfl⟩ : ∃ wr0 : World, wr0 = wr := ⟨_, rfl⟩
    by_cases hlt : i < ds.length
    · obtain ⟨a, a1, a2, a3⟩ := get_lt hlt
      obtain ⟨b, off, rfl, hc0⟩ := (HC.out.ext X).at a1
      have hcell : wr0.cell? ⟨b, off + i, none⟩ = some (.int .u32 a) := hc0
      have hal := HD.out.at a1.out
      have hai : (a : Int) ≤ 4294967295 := by omega
      have hki : (i : Int) < (ds.length : Int) := by omega
      have hiL : i + ms.length < L := by have := HL.out; omega
      have hiLi : (i : Int) + (ms.length : Int) < (L : Int) := by omega
      obtain ⟨G, hG⟩ : ∃ G, mulIn a ms (os.drop i) 0 = G := ⟨_, rfl⟩
      have hi2 := HI.out
      rw [a2.out, mulOut, hG] at hi2
      have hGl : G.length = L - i := by rw [← hG, mulIn_len a ms (os.drop i) 0 (by rw [List.length_drop, HOL.out]; omega), List.length_drop, HOL.out]
      have HG := Lib.hid hG
      have HGL := Lib.hid hGl
      have HI2 := Lib.hid hi2
      have HTK := Lib.hid (show (os.take i).length = i by rw [List.length_take, HOL.out]; omega)
      obtain ⟨T, hT⟩ : ∃ T, os.take i = T := ⟨_, rfl⟩
      rw [hT] at HI2 HTK
      have HT := Lib.hid hT
      clear hG hi2 hGl hc0 hT
      go_wp2_with fail
      go_loopw [8, 26] (fun cv jv wr => ∃ (j cr : Nat) (xs : List Nat), j ≤ ms.length ∧ jv = .int .i64 j ∧ cv = .int .u64 cr ∧ cr < 4294967296 ∧ xs.length = L ∧ Hid (Dg xs) ∧ wr.ownsRow wo.heap.size 121 1 (.slice (some ⟨wo.heap.size, 0, none⟩) L L) L (xs.map encD) ∧ Ext wo wr ∧ Hid (xs.take (i + j) ++ mulIn a (ms.drop j) (xs.drop (i + j)) cr = T ++ G)) (fun _ jv _ => ms.length - (intOf jv).toNat)
      case atStart => exact ⟨0, 0, os, Nat.zero_le _, rfl, rfl, by omega, HOL.out, HDO, HO, X, by show _ = _; rw [Nat.add_zero, HT.out, List.drop_zero, HG.out]⟩
      case round =>
        obtain ⟨j, cr, xs, hj, rfl, rfl, hcr, hxl, HDX, HOX, XX, HIX⟩ := hrel
        have HXL := Lib.hid hxl
        clear hxl
        have hci : (cr : Int) ≤ 4294967295 := by omega
        by_cases hjm : j < ms.length
        · obtain ⟨m, m1, m2, m3⟩ := get_lt hjm
          obtain ⟨b2, off2, rfl, hc02⟩ := (HC2.out.ext XX).at m1
          have hcell2 : wr.cell? ⟨b2, off2 + j, none⟩ = some (.int .u32 m) := hc02
          have hml := HM.out.at m1.out
          have hmi : (m : Int) ≤ 4294967295 := by omega
          have hjk : (j : Int) < (ms.length : Int) := by omega
          obtain ⟨t, ht⟩ : ∃ t, i + j = t := ⟨_, rfl⟩
          have hti : (i : Int) + (j : Int) = (t : Int) := by omega
          have htL : t < L := by omega
          have htLi : (t : Int) < (L : Int) := by omega
          obtain ⟨o, o1, o2, o3⟩ := get_lt (xs := xs) (k := t) (by rw [HXL.out]; exact htL)
          have c1 := own_cell HOX (j := t) (x := .int .u32 o) (by show _ = _; rw [List.getElem?_map, o1.out]; rfl)
          have hol := HDX.out.at o1.out
          have hoi : (o : Int) ≤ 4294967295 := by omega
          have f1 := HOX.frozenAt t
          obtain ⟨p, hp⟩ : ∃ p, a * m = p := ⟨_, rfl⟩
          have hcar := mulIn_carry hal hml hol hcr
          rw [hp] at hcar
          have e1 : (a : Int) * (m : Int) = (p : Int) := by rw [← hp, Int.natCast_mul]
          obtain ⟨lo, hlo⟩ : ∃ lo, (cr + (p + o)) % 4294967296 = lo := ⟨_, rfl⟩
          obtain ⟨hh, hhi⟩ : ∃ hh, (cr + (p + o)) / 4294967296 = hh := ⟨_, rfl⟩
          rw [hhi] at hcar
          have hp9 : p ≤ 18446744065119617025 := by rw [← hp]; exact Nat.mul_le_mul (show a ≤ 4294967295 by omega) (show m ≤ 4294967295 by omega)
          have b1 : (p : Int) ≤ 18446744073709551615 := by omega
          have b2 : (p : Int) + (o : Int) ≤ 18446744073709551615 := by omega
          have b3 : (cr : Int) + ((p : Int) + (o : Int)) ≤ 18446744073709551615 := by omega
          have e2 : ((cr : Int) + ((p : Int) + (o : Int))) % 4294967296 = (lo : Int) := by omega
          have e3 : ((cr : Int) + ((p : Int) + (o : Int))) / 4294967296 = (hh : Int) := by omega
          have hlo9 : lo < 4294967296 := by omega
          have hstep : Hid ((xs.set t lo).take (t + 1) ++ mulIn a (ms.drop (j + 1)) ((xs.set t lo).drop (t + 1)) hh = T ++ G) := by
            show _ = _
            have h := HIX.out
            rw [ht, m2.out, o2.out, mulIn] at h
            simp only [List.headD_cons, List.tail_cons] at h
            rw [hp, hlo, hhi] at h
            rw [take_set_succ (by rw [HXL.out]; exact htL), drop_set_succ, List.append_assoc]
            exact h
          have s1 := HOX.stored t (.int .u32 lo)
          rw [set_map] at s1
          have H1 := Lib.hid s1.1
          have HDX2 : Hid (Dg (xs.set t lo)) := dg_set HDX.out hlo9
          have HTT := Lib.hid ht
          clear hc02 hp hlo hhi s1 ht hjm
          go_wp2_with fail
          go_roundw
          case rel => exact ⟨j + 1, hh, xs.set t lo, by omega, by go_num, rfl, hcar.2, by rw [List.length_set]; exact HXL.out, HDX2, H1.out, XX.setCell (Nat.le_refl _) _, by
            show _ = _
            rw [show i + (j + 1) = t + 1 from by have := HTT.out; omega]; exact hstep.out⟩
          case measure => simp [intOf]; omega
        · have hjl : j = ms.length := by omega
          subst hjl
          obtain ⟨t, ht⟩ : ∃ t, i + ms.length = t := ⟨_, rfl⟩
          have hti : (i : Int) + (ms.length : Int) = (t : Int) := by omega
          have htL : t < L := by omega
          have htLi : (t : Int) < (L : Int) := by omega
          obtain ⟨o, o1, o2, o3⟩ := get_lt (xs := xs) (k := t) (by rw [HXL.out]; exact htL)
          have c1 := own_cell HOX (j := t) (x := .int .u32 o) (by show _ = _; rw [List.getElem?_map, o1.out]; rfl)
          have f1 := HOX.frozenAt t
          have hcm : (cr : Int) % 4294967296 = (cr : Int) := by omega
          have hfin : xs.set t cr = T ++ G := by
            have h := HIX.out
            rw [ht, List.drop_length, o2.out, mulIn] at h
            simp only [List.tail_cons] at h
            rw [← h, ← List.take_append_drop (t + 1) (xs.set t cr), take_set_succ (by rw [HXL.out]; exact htL), drop_set_succ, List.append_assoc]; rfl
          have s1 := HOX.stored t (.int .u32 cr)
          rw [set_map] at s1
          have H1 := Lib.hid s1.1
          have HDX2 : Hid (Dg (xs.set t cr)) := dg_set HDX.out hcr
          have hstep : Hid ((xs.set t cr).take (i + 1) ++ mulOut ms (ds.drop (i + 1)) ((xs.set t cr).drop (i + 1)) = F) := by
            show _ = _
            have h := HI2.out
            cases hGc : G with
            | nil => rw [hGc] at HGL; have := HGL.out; simp at this; omega
            | cons g gs =>
              rw [hGc] at h
              simp only [List.headD_cons, List.tail_cons] at h
              obtain ⟨q1, q2⟩ := split_mid (g := g) (gs := gs) HTK.out
              rw [hfin, hGc, q1, q2, List.append_assoc]
              exact h
          clear s1 ht hfin hjm
          go_wp2_with fail
          go_roundw
          case rel => exact ⟨i + 1, xs.set t cr, by omega, by go_num, by rw [List.length_set]; exact HXL.out, HDX2, H1.out, XX.setCell (Nat.le_refl _) _, hstep⟩
          case measure => simp [intOf]; omega
    · have hil : i = ds.length := by omega
      subst hil
      have hi2 := HI.out
      rw [List.drop_length, mulOut, List.take_append_drop] at hi2
      have hval : Hid (val os = val ds * val ms) := by
        show _ = _
        rw [hi2, ← HF.out, mulOut_val ds _ (by rw [List.length_replicate]; have := HL.out; omega) (fun k _ => by rw [List.getD, List.getElem?_replicate]; split <;> rfl), val_zeros]; rfl
      clear hi2
      go_wp2_with fail
      refine (norm_own _ _ os _ HO (by omega) HDO.out).mono ?_
      rintro e w3 ⟨u, rfl, hn, _, rfl⟩
      go_wp2_with fail
      go_ret
      exact ⟨u, rfl, by rw [← hval.out]; exact hn, X⟩

theorem mul_any (v u : Value) (n m : Nat) (w : World) (hv : NatV w v n) (hu : NatV w u m) (hl : (dig n).length ≤ 1073741824) (hl2 : (dig m).length ≤ 1073741824) :
    Calls Tryz.prog 73 #[v, u] w fun e w' => ∃ r, e = .returned r ∧ NatV w' r (n * m) ∧ Ext w w' := by
  have := mul_le v u (dig n) (dig m) w hv hu (dig_dg n) (dig_dg m) hl hl2
  rw [val_dig, val_dig] at this
  exact this
end Go.Proofs.YtecfphohmgbddaaGreatDoor
