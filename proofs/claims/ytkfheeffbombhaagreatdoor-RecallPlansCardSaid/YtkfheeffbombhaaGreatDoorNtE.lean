/- texts merged: NatV NatW -/
import Derived.Test.YtkfheeffbombhaaGreatDoorNtC
import Derived.Deep.RegionHeld3
/- plain: the product of the reference, digit by digit -/
namespace Go.Proofs.YtkfheeffbombhaaGreatDoor
open Go.RowKit
set_option linter.unusedVariables false

/-- every entry keeps its bound -/
def LeAt (f : Nat → Nat) (o : List Nat) : Prop := ∀ j x, o[j]? = some x → x ≤ f j

theorem v10_set : ∀ (o : List Nat) (j x y : Nat), o[j]? = some x → v10 (o.set j y) + tenP j * x = v10 o + tenP j * y
  | [], j, x, y, h => by simp at h
  | a :: t, 0, x, y, h => by
    simp only [List.getElem?_cons_zero, Option.some.injEq] at h
    subst h
    simp only [List.set_cons_zero, v10, tenP, Nat.pow_zero, Nat.one_mul]
    omega
  | a :: t, j + 1, x, y, h => by
    have ih := v10_set t j x y (by simpa using h)
    rw [List.set_cons_succ, v10, v10, tenP_succ, Nat.mul_comm (tenP j) 10, Nat.mul_assoc, Nat.mul_assoc]
    omega

theorem LeAt.set {f : Nat → Nat} {o : List Nat} {j y : Nat} (h : LeAt f o) (hy : y ≤ f j) : LeAt f (o.set j y) := by
  intro k x hx
  rw [List.getElem?_set] at hx
  split at hx
  · rename_i e
    split at hx
    · cases hx; rw [← e]; exact hy
    · cases hx
  · exact h k x hx
theorem LeAt.mono {f g : Nat → Nat} {o : List Nat} (h : LeAt f o) (hg : ∀ j, j < o.length → f j ≤ g j) : LeAt g o :=
  fun j x hx => Nat.le_trans (h j x hx) (hg j (List.getElem?_eq_some_iff.1 hx).1)
theorem D9.leAt {o : List Nat} (h : D9 o) : LeAt (fun _ => 9) o := fun j x hx => h x (List.mem_of_getElem? hx)

/-- one row of products so far -/
def MI (L : Nat) (db : List Nat) (x i k : Nat) (o : List Nat) (V0 : Nat) : Prop :=
  o.length = L ∧ LeAt (fun j => if j < i + k then 90 else 9) o ∧ v10 o = V0 + tenP i * (x * v10 (db.take k))

theorem MI.start {L i x : Nat} {db o : List Nat} (hl : o.length = L) (h : D9 o) : MI L db x i 0 o (v10 o) :=
  ⟨hl, h.leAt.mono (fun j _ => by split <;> omega), by simp [v10]⟩
theorem v10_take {l : List Nat} {k y : Nat} (h : l[k]? = some y) : v10 (l.take (k + 1)) = v10 (l.take k) + tenP k * y := by
  obtain ⟨h1, h2⟩ := List.getElem?_eq_some_iff.1 h
  rw [List.take_succ_eq_append_getElem h1, h2, v10_snoc, List.length_take, Nat.min_eq_left (by omega)]
theorem MI.step {L i x k y e : Nat} {db o : List Nat} {V0 : Nat} (h : MI L db x i k o V0) (hx : x ≤ 9) (hy9 : y ≤ 9) (hy : db[k]? = some y) (he : o[i + k]? = some e) :
    e ≤ 9 ∧ MI L db x i (k + 1) (o.set (i + k) (e + x * y)) V0 := by
  obtain ⟨h1, h2, h3⟩ := h
  have he9 := h2 _ _ he
  simp only [Nat.lt_irrefl, if_false] at he9
  have hxy : x * y ≤ 9 * 9 := Nat.mul_le_mul hx hy9
  refine ⟨he9, by rw [List.length_set, h1], ?_, ?_⟩
  · apply LeAt.set
    · exact h2.mono (fun j _ => by (repeat' split) <;> omega)
    · rw [if_pos (by omega)]; omega
  · have e1 := v10_set o (i + k) e (e + x * y) he
    rw [Nat.mul_add, h3] at e1
    rw [v10_take hy, Nat.mul_add x, Nat.mul_add (tenP i), Nat.mul_left_comm x, ← Nat.mul_assoc (tenP i) (tenP k), tenP_add]
    omega
theorem MI.stop {L i x : Nat} {db o : List Nat} {V0 k : Nat} (h : MI L db x i k o V0) (hk : db.length = k) :
    o.length = L ∧ LeAt (fun _ => 90) o ∧ v10 o = V0 + tenP i * (x * v10 db) := by
  obtain ⟨h1, h2, h3⟩ := h
  rw [← hk, List.take_length] at h3
  exact ⟨h1, h2.mono (fun j _ => by split <;> omega), h3⟩

/-- the carries so far -/
def CI (L k : Nat) (o : List Nat) (V : Nat) : Prop :=
  o.length = L ∧ LeAt (fun j => if j < k then 9 else if j = k then 99 else 90) o ∧ v10 o = V
theorem CI.start {L V : Nat} {o : List Nat} (h1 : o.length = L) (h2 : LeAt (fun _ => 90) o) (h3 : v10 o = V) : CI L 0 o V :=
  ⟨h1, h2.mono (fun j _ => by (repeat' split) <;> omega), h3⟩
theorem CI.small {L k V e : Nat} {o : List Nat} (h : CI L k o V) (he : o[k]? = some e) (h9 : e ≤ 9) : CI L (k + 1) o V := by
  obtain ⟨h1, h2, h3⟩ := h
  refine ⟨h1, ?_, h3⟩
  intro j x hx
  have := h2 j x hx
  by_cases hj : j = k
  · subst hj
    rw [he] at hx
    cases hx
    dsimp only; rw [if_pos (by omega)]; exact h9
  · revert this
    simp only
    (repeat' split) <;> omega
theorem CI.big {L k V e f : Nat} {o : List Nat} (h : CI L k o V) (he : o[k]? = some e) (hf : o[k + 1]? = some f) :
    e ≤ 99 ∧ f ≤ 90 ∧ CI L (k + 1) ((o.set (k + 1) (f + e / 10)).set k (e % 10)) V := by
  obtain ⟨h1, h2, h3⟩ := h
  have be := h2 _ _ he
  have bf := h2 _ _ hf
  simp only [Nat.lt_irrefl, if_false, if_true] at be
  simp only [show ¬ (k + 1 < k) by omega, show ¬ (k + 1 = k) by omega, if_false] at bf
  refine ⟨be, bf, by rw [List.length_set, List.length_set, h1], ?_, ?_⟩
  · intro j x hx
    rw [List.getElem?_set, List.getElem?_set] at hx
    by_cases hj : k = j
    · subst hj
      rw [if_pos rfl] at hx
      split at hx
      · cases hx; dsimp only; rw [if_pos (by omega)]; omega
      · cases hx
    · rw [if_neg hj] at hx
      by_cases hj2 : k + 1 = j
      · subst hj2
        rw [if_pos rfl] at hx
        split at hx
        · cases hx; dsimp only; rw [if_neg (by omega), if_pos rfl]; omega
        · cases hx
      · rw [if_neg hj2] at hx
        have := h2 j x hx
        revert this
        simp only
        (repeat' split) <;> omega
  · have e1 := v10_set o (k + 1) f (f + e / 10) hf
    have hk : (o.set (k + 1) (f + e / 10))[k]? = some e := by rw [List.getElem?_set_ne (by omega)]; exact he
    have e2 := v10_set _ k e (e % 10) hk
    rw [Nat.mul_add, tenP_succ, h3] at e1
    have e3 : tenP k * e = tenP k * 10 * (e / 10) + tenP k * (e % 10) := by
      rw [Nat.mul_assoc, ← Nat.mul_add]; congr 1; omega
    omega
theorem CI.stop {n k V : Nat} {o : List Nat} (h : CI (n + 1) k o V) (hk : k = n) (hV : V < tenP n) : o.length = n + 1 ∧ D9 o ∧ v10 o = V := by
  subst hk
  obtain ⟨h1, h2, h3⟩ := h
  refine ⟨h1, ?_, h3⟩
  have hz : o.getD k 0 = 0 := by
    have hs : o = o.take k ++ o.drop k := (List.take_append_drop k o).symm
    have e1 := v10_append (o.take k) (o.drop k)
    rw [← hs, List.length_take, Nat.min_eq_left (by omega), h3, v10_drop] at e1
    rcases Nat.eq_zero_or_pos (o.getD k 0) with h | h
    · exact h
    · exfalso
      have := Nat.mul_le_mul_left (tenP k) (show 1 ≤ o.getD k 0 + 10 * v10 (o.drop (k + 1)) by omega)
      omega
  intro d hd
  obtain ⟨j, hj⟩ := List.mem_iff_getElem?.1 hd
  have hjl := (List.getElem?_eq_some_iff.1 hj).1
  have := h2 j d hj
  by_cases hjk : j = k
  · subst hjk
    rw [List.getD_eq_getElem?_getD, hj] at hz
    have : d = 0 := hz
    omega
  · dsimp only at this; rw [if_pos (by omega)] at this; exact this

/-- the rows so far -/
def OI (L : Nat) (da db : List Nat) (i : Nat) (o : List Nat) : Prop := o.length = L ∧ D9 o ∧ v10 o = v10 (da.take i) * v10 db
theorem v10_zeros (n : Nat) : v10 (List.replicate n 0) = 0 := by
  induction n with
  | zero => rfl
  | succ n ih => rw [List.replicate_succ, v10, ih]
theorem OI.start (L : Nat) (da db : List Nat) : OI L da db 0 (List.replicate L 0) :=
  ⟨by simp, fun d hd => by rw [(List.mem_replicate.1 hd).2]; omega, by rw [v10_zeros]; simp [v10]⟩
/-- the value behind one row, and its size -/
theorem row_val {da db : List Nat} {i x : Nat} (ha : D9 da) (hb : D9 db) (hx : da[i]? = some x) :
    v10 (da.take i) * v10 db + tenP i * (x * v10 db) = v10 (da.take (i + 1)) * v10 db ∧ v10 (da.take (i + 1)) * v10 db < tenP (da.length + db.length) := by
  refine ⟨by rw [v10_take hx, Nat.add_mul, Nat.mul_assoc], ?_⟩
  have h1 : v10 (da.take (i + 1)) < tenP (da.take (i + 1)).length := v10_lt (fun d hd => ha d (List.mem_of_mem_take hd))
  have h2 := v10_lt hb
  have h3 : tenP (da.take (i + 1)).length ≤ tenP da.length := tenP_le (by rw [List.length_take]; omega)
  rw [← tenP_add]
  calc v10 (da.take (i + 1)) * v10 db ≤ v10 (da.take (i + 1)) * tenP db.length := Nat.mul_le_mul_left _ (Nat.le_of_lt h2)
    _ < tenP da.length * tenP db.length := Nat.mul_lt_mul_of_pos_right (Nat.lt_of_lt_of_le h1 h3) (by omega)
theorem OI.stop {L i : Nat} {da db o : List Nat} (h : OI L da db i o) (hi : da.length = i) : D9 o ∧ v10 o = v10 da * v10 db := by
  obtain ⟨h1, h2, h3⟩ := h
  rw [← hi, List.take_length] at h3
  exact ⟨h2, h3⟩
end Go.Proofs.YtkfheeffbombhaaGreatDoor
/- walk of the reference: NatMul -/
namespace Go.Proofs.YtkfheeffbombhaaGreatDoor
open Go.RowKit
set_option linter.unusedVariables false

theorem getD_at {l : List Nat} {k x : Nat} (h : l[k]? = some x) : l.getD k 0 = x := by rw [List.getD_eq_getElem?_getD, h]; rfl
theorem set_mapI (os : List Nat) (t z : Nat) : (os.map encI).set t (.int .i64 (z : Nat)) = (os.set t z).map encI := by
  rw [List.map_set]; rfl
theorem get_mapI {os : List Nat} {t z : Nat} (h : os[t]? = some z) : (os.map encI)[t]? = some (.int .i64 (z : Nat)) := by
  rw [List.getElem?_map, h]; rfl

set_option maxHeartbeats 3200000 in
set_option maxRecDepth 100000 in
theorem rNatMul_any (a b : ByteArray) (w : World) (ha : AllD a.data.toList) (hb : AllD b.data.toList) (hla : a.size ≤ 1000000) (hlb : b.size ≤ 1000000) :
    Calls Tryz.prog 77 #[.string a, .string b] w fun e w' => e = .returned (.string (decT (numB a * numB b))) ∧ Ext w w' := by
  obtain ⟨wo, rfl⟩ : ∃ wo : World, wo = w := ⟨_, rfl⟩
  have HA := Lib.hid (fun W k (hk : k ≤ 1000001) q hq => digit_any a k W (by omega) (by omega) ha q hq)
  have HB := Lib.hid (fun W k (hk : k ≤ 1000001) q hq => digit_any b k W (by omega) (by omega) hb q hq)
  have HDA := Lib.hid (rd_D9 ha)
  have HDB := Lib.hid (rd_D9 hb)
  have hl1 := rd_length a.data.toList
  have hl2 := rd_length b.data.toList
  rw [bsz] at hl1 hl2
  have HL1 := Lib.hid hl1
  have HL2 := Lib.hid hl2
  obtain ⟨S, hS⟩ : ∃ S, numB a * numB b = S := ⟨_, rfl⟩
  rw [hS]
  have hSv : v10 (rd a.data.toList) * v10 (rd b.data.toList) = S := by rw [v10_rd, v10_rd]; exact hS
  have HS := Lib.hid hSv
  generalize rd a.data.toList = da at *
  generalize rd b.data.toList = db at *
  clear ha hb hl1 hl2 hS hSv
  have hlai : (a.size : Int) ≤ 1000000 := by omega
  have hlbi : (b.size : Int) ≤ 1000000 := by omega
  obtain ⟨n, hn⟩ : ∃ n, a.size + b.size = n := ⟨_, rfl⟩
  have hnL : (a.size : Int) + (b.size : Int) + 1 = ((n + 1 : Nat) : Int) := by omega
  have HN := Lib.hid hn
  have hn2 : n ≤ 2000000 := by omega
  have hst := OI.start (n + 1) da db
  obtain ⟨L, hL⟩ : ∃ L, n + 1 = L := ⟨_, rfl⟩
  rw [hL] at hnL hst
  have HST := Lib.hid hst
  have HL := Lib.hid hL
  have hL1 : (L : Int) - 1 = (n : Int) := by omega
  have hLm : L ≤ 2000001 := by omega
  have hLi : (L : Int) ≤ 2000001 := by omega
  clear hst hL hn
  go_enter Tryz.func77, Tryz.ntmps77
  go_wp2_with (first
    | (at_make; refine wp_make1 rfl rfl ei_ints' rfl rfl rfl L rfl rfl (by omega) (by omega) ?_; intro w2 hO2 hX2))
  clear hnL
  go_loopw [19] (fun iv wr => ∃ (i : Nat) (os : List Nat), i ≤ a.size ∧ iv = .int .i64 i ∧ Hid (OI L da db i os) ∧ wr.ownsRow wo.heap.size 3 1 (.slice (some ⟨wo.heap.size, 0, none⟩) L L) L (os.map encI) ∧ Ext wo wr) (fun iv _ => a.size - (intOf iv).toNat)
  case atStart => exact ⟨0, List.replicate L 0, Nat.zero_le _, rfl, HST, own_cast hO2 (by simp [encI]) rfl, hX2⟩
  case round =>
    obtain ⟨i, os, hi, rfl, HI, HO, X⟩ := hrel
    obtain ⟨wr0, rfl⟩ : ∃ wr0 : World, wr0 = wr := ⟨_, rfl⟩
    by_cases hlt : i < a.size
    · obtain ⟨x, x1, x2, x3⟩ := get_lt (show i < da.length by rw [HL1.out]; exact hlt)
      have hx9 : x ≤ 9 := HDA.out x (List.mem_of_getElem? x1.out)
      have HAx := Lib.hid (fun W => HA.out W i (by omega) x (getD_at x1.out))
      have hxi : (x : Int) ≤ 9 := by omega
      have hki : (i : Int) < (a.size : Int) := by omega
      obtain ⟨rv1, rv2⟩ := row_val (i := i) HDA.out HDB.out x1.out
      rw [HL1.out, HL2.out, HN.out] at rv2
      have RV1 := Lib.hid rv1
      have RV2 := Lib.hid rv2
      obtain ⟨V0, hV0⟩ : ∃ V0, v10 os = V0 := ⟨_, rfl⟩
      have hms := MI.start (i := i) (x := x) (db := db) HI.out.1 HI.out.2.1
      rw [hV0] at hms
      have HMS := Lib.hid hms
      have hV0e := HI.out.2.2
      rw [hV0] at hV0e
      have HV0 := Lib.hid hV0e
      clear rv1 rv2 hms hV0e hV0 hlt
      go_wp2_with fail
      refine (HAx.out _).mono ?_
      rintro e w1 ⟨rfl, rfl⟩
      go_wp2_with fail
      go_loopw [27] (fun kv wr => ∃ (k : Nat) (os : List Nat), k ≤ b.size ∧ kv = .int .i64 k ∧ Hid (MI L db x i k os V0) ∧ wr.ownsRow wo.heap.size 3 1 (.slice (some ⟨wo.heap.size, 0, none⟩) L L) L (os.map encI) ∧ Ext wo wr) (fun kv _ => b.size - (intOf kv).toNat)
      case atStart => exact ⟨0, os, Nat.zero_le _, rfl, HMS, HO, X⟩
      case round =>
        obtain ⟨k, os, hk, rfl, HM, HO, X⟩ := hrel
        obtain ⟨wr1, rfl⟩ : ∃ wr1 : World, wr1 = wr := ⟨_, rfl⟩
        by_cases hlt : k < b.size
        · obtain ⟨y, y1, y2, y3⟩ := get_lt (show k < db.length by rw [HL2.out]; exact hlt)
          have hy9 : y ≤ 9 := HDB.out y (List.mem_of_getElem? y1.out)
          have HBy := Lib.hid (fun W => HB.out W k (by omega) y (getD_at y1.out))
          have hyi : (y : Int) ≤ 9 := by omega
          have hkb : (k : Int) < (b.size : Int) := by omega
          obtain ⟨t, ht⟩ : ∃ t, i + k = t := ⟨_, rfl⟩
          have hti : (i : Int) + (k : Int) = (t : Int) := by omega
          have htL : t < L := by have := HN.out; have := HL.out; omega
          have htLi : (t : Int) < (L : Int) := by omega
          obtain ⟨e, e1, _, _⟩ := get_lt (show t < os.length by rw [HM.out.1]; exact htL)
          obtain ⟨he9, hm2⟩ := HM.out.step hx9 hy9 y1.out (by rw [ht]; exact e1.out)
          have hei : (e : Int) ≤ 9 := by omega
          obtain ⟨p, hp⟩ : ∃ p, x * y = p := ⟨_, rfl⟩
          have hp81 : p ≤ 81 := by rw [← hp]; exact Nat.mul_le_mul hx9 hy9
          have epi : (x : Int) * (y : Int) = (p : Int) := by rw [← hp, Int.natCast_mul]
          have hpi : (p : Int) ≤ 81 := by omega
          obtain ⟨z, hz⟩ : ∃ z, e + p = z := ⟨_, rfl⟩
          have ezi : (e : Int) + (p : Int) = (z : Int) := by omega
          have hzi : (z : Int) ≤ 90 := by omega
          rw [hp, hz, ht] at hm2
          have HM2 := Lib.hid hm2
          have c1 := own_cell HO (j := t) (get_mapI e1.out)
          have f1 := HO.frozenAt t
          have s1 := HO.stored t (.int .i64 z)
          rw [set_mapI] at s1
          have H1 := Lib.hid s1.1
          have h0t : (0 : Int) ≤ (t : Int) := by omega
          have hti2 : (i : Int) + (k : Int) < (L : Int) := by omega
          have hti0 : (0 : Int) ≤ (i : Int) + (k : Int) := by omega
          clear hm2 hp hz ht s1 hlt
          go_wp2_with fail
          have w1 : IntKind.i64.wrap ((i : Int) + (k : Int)) = (t : Int) := by rw [hti]; exact IntWalk.i64_in _ (by omega)
          have w2 : IntKind.i64.wrap (t : Int) = (t : Int) := IntWalk.i64_in _ (by omega)
          have w3 : IntKind.i64.wrap ((x : Int) * (y : Int)) = (p : Int) := by rw [epi]; exact IntWalk.i64_in _ (by omega)
          have w4 : IntKind.i64.wrap ((e : Int) + (p : Int)) = (z : Int) := by rw [ezi]; exact IntWalk.i64_in _ (by omega)
          have w5 : IntKind.i64.wrap (p : Int) = (p : Int) := IntWalk.i64_in _ (by omega)
          have w6 : IntKind.i64.wrap (z : Int) = (z : Int) := IntWalk.i64_in _ (by omega)
          go_region_with (refine (HBy.out _).mono ?_; rintro e w' ⟨rfl, rfl⟩)
          all_goals
            clear w1 w2 w3 w4 w5 w6
            go_wp2_with fail
            go_roundw
            case rel => exact ⟨k + 1, os.set t z, by omega, by go_num, HM2, H1.out, (X.drewN _).setCell (Nat.le_refl _) _⟩
            case measure => simp [intOf]; omega
        · have hkb : b.size = k := by omega
          subst hkb
          obtain ⟨m1, m2, m3⟩ := HM.out.stop HL2.out
          have hcs := CI.start m1 m2 m3
          rw [HV0.out, RV1.out] at hcs
          obtain ⟨V, hV⟩ : ∃ V, v10 (da.take (i + 1)) * v10 db = V := ⟨_, rfl⟩
          rw [hV] at hcs
          have hVn := RV2.out
          rw [hV] at hVn
          have HCS := Lib.hid hcs
          have HVN := Lib.hid hVn
          have HV := Lib.hid hV
          clear hcs hVn hV m1 m2 m3 hlt
          go_wp2_with fail
          go_loopw [50] (fun kv wr => ∃ (k : Nat) (os : List Nat), k ≤ n ∧ kv = .int .i64 k ∧ Hid (CI L k os V) ∧ wr.ownsRow wo.heap.size 3 1 (.slice (some ⟨wo.heap.size, 0, none⟩) L L) L (os.map encI) ∧ Ext wo wr) (fun kv _ => n - (intOf kv).toNat)
          case atStart => exact ⟨0, os, Nat.zero_le _, rfl, HCS, HO, X⟩
          case round =>
            obtain ⟨k, os, hk, rfl, HM, HO, X⟩ := hrel
            by_cases hlt : k < n
            · have hkL : (k : Int) < (L : Int) := by omega
              have hkL1 : (k : Int) + 1 < (L : Int) := by omega
              have hkn : (k : Int) < (n : Int) := by omega
              obtain ⟨e, e1, _, _⟩ := get_lt (show k < os.length by rw [HM.out.1]; omega)
              obtain ⟨f, f1, _, _⟩ := get_lt (show k + 1 < os.length by rw [HM.out.1]; omega)
              have ce := own_cell HO (j := k) (get_mapI e1.out)
              obtain ⟨he99, hf90, hb⟩ := HM.out.big e1.out f1.out
              have hei : (e : Int) ≤ 99 := by omega
              have hfi : (f : Int) ≤ 90 := by omega
              by_cases h9 : e ≤ 9
              · have hsm := HM.out.small e1.out h9
                have HSM := Lib.hid hsm
                have h9i : (e : Int) ≤ 9 := by omega
                clear hb hsm
                go_wp2_with fail
                go_roundw
                case rel => exact ⟨k + 1, os, by omega, by go_num, HSM, HO, X⟩
                case measure => simp [intOf]; omega
              · have h9i : (9 : Int) < (e : Int) := by omega
                obtain ⟨g, hg⟩ : ∃ g, e / 10 = g := ⟨_, rfl⟩
                obtain ⟨r, hr⟩ : ∃ r, e % 10 = r := ⟨_, rfl⟩
                obtain ⟨h, hh⟩ : ∃ h, f + g = h := ⟨_, rfl⟩
                rw [hg, hr, hh] at hb
                have HB2 := Lib.hid hb
                have eg : (e : Int).tdiv 10 = (g : Int) := by rw [← hg]; exact (Int.ofNat_tdiv e 10).symm
                have er : (e : Int).tmod 10 = (r : Int) := by rw [← hr]; exact (Int.ofNat_tmod e 10).symm
                have eh : (f : Int) + (g : Int) = (h : Int) := by omega
                have hgi : (g : Int) ≤ 9 := by omega
                have hhi : (h : Int) ≤ 99 := by omega
                have hri : (r : Int) ≤ 9 := by omega
                have cf := own_cell HO (j := k + 1) (get_mapI f1.out)
                have fz1 := HO.frozenAt (k + 1)
                have s1 := HO.stored (k + 1) (.int .i64 h)
                rw [set_mapI] at s1
                have ce2 := own_cell s1.1 (j := k) (x := .int .i64 e) (by
                  show _ = _
                  exact get_mapI (by rw [List.getElem?_set_ne (by omega)]; exact e1.out))
                have fz2 := s1.1.frozenAt k
                have s2 := s1.1.stored k (.int .i64 r)
                rw [set_mapI] at s2
                have H2 := Lib.hid s2.1
                clear hb s1 s2 hg hr hh
                go_wp2_with fail
                go_region
                all_goals go_wp2_with fail
                go_roundw
                case rel => exact ⟨k + 1, (os.set (k + 1) h).set k r, by omega, by go_num, HB2, H2.out, ((X.drewN _).setCell (Nat.le_refl _) _).setCell (Nat.le_refl _) _⟩
                case measure => simp [intOf]; omega
            · have hkn : n = k := by omega
              subst hkn
              have hcs := HM.out
              rw [← HL.out] at hcs
              obtain ⟨o1, o2, o3⟩ := hcs.stop rfl HVN.out
              have HOI : Hid (OI L da db (i + 1) os) := ⟨by rw [o1]; exact HL.out, o2, by rw [o3, HV.out]⟩
              clear hcs o1 o2 o3 hlt
              go_wp2_with fail
              go_roundw
              case rel => exact ⟨i + 1, os, by omega, by go_num, HOI, HO, X⟩
              case measure => simp [intOf]; omega
    · have hil : a.size = i := by omega
      subst hil
      obtain ⟨o2, o3⟩ := HI.out.stop HL1.out
      have hol := HI.out.1
      have HT := Lib.hid (dtext_any _ os wr0 (own_rowOf (enc := encI) HO (by omega)) o2 (by omega))
      rw [o3, HS.out] at HT
      clear hlt hol o2 o3
      go_wp2_with fail
      refine HT.out.mono ?_
      rintro e w1 ⟨rfl, X1⟩
      go_wp2_with fail
      go_ret
      exact ⟨rfl, X.trans X1⟩
end Go.Proofs.YtkfheeffbombhaaGreatDoor
