/- walks: index.Rank -/
import Derived.Test.YtllhgkacbpgemaaIdx4
namespace Go.Proofs.Ytllhgkacbpgemaa
open Go.RowKit

/-- a natural number as a value -/
def nat64 (n : Nat) : Value := .int .i64 n
/-- naturals as ints -/
def ofN (ns : List Nat) : List Int := ns.map fun (n : Nat) => (n : Int)

theorem ofN_map (ns : List Nat) : (ofN ns).map (Value.int .i64) = ns.map fun (n : Nat) => Value.int .i64 n := by simp [ofN, List.map_map]
theorem ints_ofN {w : World} {v : Value} {ns : List Nat} (h : Nats w v ns) : Ints w v (ofN ns) := by
  unfold Ints RowOf; rw [ofN_map]; exact h
theorem nats_of {w : World} {v : Value} {ns : List Nat} (h : Ints w v (ofN ns)) : Nats w v ns := by
  unfold Nats RowOf; rw [← ofN_map]; exact h

theorem bump_get (l : List Int) (x k : Nat) : (bump l x)[k]? = (l[k]?).map fun (q : Int) => q + if k = x then 1 else 0 := by
  simp only [bump, Int.toNat_natCast, List.getElem?_set]
  by_cases e : x = k
  · subst e
    by_cases hx : x < l.length <;> simp [hx, List.getD_eq_getElem?_getD]
  · rw [if_neg e, if_neg (by omega)]; simp

theorem foldl_bump_get (ns : List Nat) (k : Nat) : ∀ l : List Int, ((ofN ns).foldl bump l)[k]? = (l[k]?).map fun (q : Int) => q + ((ns.count k : Nat) : Int) := by
  induction ns with
  | nil => intro l; simp [ofN]
  | cons n ns ih =>
    intro l
    simp only [ofN, List.map_cons, List.foldl_cons] at ih ⊢
    rw [ih, bump_get, Option.map_map]
    congr 1
    funext q
    simp only [Function.comp, List.count_cons]
    by_cases e : k = n
    · subst e; simp; omega
    · have : ¬ (n == k) = true := by simp; omega
      rw [if_neg e, if_neg this]; simp

theorem cnts_ofN (ns : List Nat) : cnts (ofN ns) = ofN (cntN 7 ns) := by
  apply List.ext_getElem?
  intro k
  rw [cnts, foldl_bump_get]
  simp only [ofN, cntN, List.getElem?_map]
  by_cases hk : k < 7
  · match k, hk with
    | 0, _ | 1, _ | 2, _ | 3, _ | 4, _ | 5, _ | 6, _ => simp
  · rw [List.getElem?_eq_none (by simp; omega), List.getElem?_eq_none (by simp; omega)]; rfl

theorem mem_le_sum {l : List Nat} {x : Nat} (h : x ∈ l) : x ≤ l.sum := by
  induction l with
  | nil => cases h
  | cons y l ih =>
    rcases List.mem_cons.1 h with e | h
    · subst e; simp
    · have := ih h; simp; omega

/-- all kinds are kinds -/
def Fit (ns : List Nat) : Prop := (∀ x ∈ ns, x < 7) ∧ ns.length ≤ 16

theorem fit_of {xs : List Int} (h : cellsErr xs = 0) : ∃ ns, Fit ns ∧ xs = ofN ns := by
  obtain ⟨h1, h2⟩ := cellsErr_zero h
  refine ⟨xs.map Int.toNat, ⟨fun x hx => ?_, by simpa using h2⟩, ?_⟩
  · obtain ⟨y, hy, rfl⟩ := List.mem_map.1 hx
    have := h1 y hy; omega
  · simp only [ofN, List.map_map]
    conv => lhs; rw [← List.map_id xs]
    refine List.map_congr_left fun x hx => ?_
    have := h1 x hx
    simp only [Function.comp, id]; omega

theorem fit_err {ns : List Nat} (h : Fit ns) : cellsErr (ofN ns) = 0 := by
  have h1 : (ofN ns).any (fun c => !inB c 0 6) = false := by
    refine List.any_eq_false.2 fun x hx => ?_
    obtain ⟨y, hy, rfl⟩ := List.mem_map.1 hx
    have := h.1 y hy
    simp [inB]; omega
  have h2 : ¬ 16 < (ofN ns).length := by simp [ofN]; exact h.2
  simp [cellsErr, h2, h1, -List.any_eq_false]

theorem own_nats {w : World} {B : Nat} {e : TypeId} {v : Value} {n : Nat} {xs : List Nat} (h : w.ownsRow B e 1 v n (xs.map fun (n : Nat) => Value.int .i64 n)) (hn : n ≤ 17592186044416) : Nats w v xs := own_row h hn

set_option maxHeartbeats 400000 in
set_option maxRecDepth 100000 in
theorem Rank_err (v : Value) (xs : List Int) (w : World) (hv : Ints w v xs) (h : cellsErr xs ≠ 0) :
    Calls Try.prog 18 #[v] w fun e w' => e = .returned (.tuple #[.int .i64 0, .int .i64 (cellsErr xs)]) ∧ Ext w w' := by
  have HD := Lib.hid (check_any v xs w hv)
  have h2 : (cellsErr xs != 0) = true := by simp [h]
  clear hv h
  generalize cellsErr xs = q at *
  go_enter Try.func18, Try.ntmps18
  go_wp2_with fail
  refine HD.out.mono ?_
  rintro e w' ⟨rfl, hx⟩
  go_wp2_with fail
  go_ret2
  exact ⟨rfl, hx⟩

set_option maxHeartbeats 2000000 in
set_option maxRecDepth 100000 in
theorem Rank_ok (v : Value) (ns : List Nat) (w : World) (hv : Nats w v ns) (hf : Fit ns) :
    Calls Try.prog 18 #[v] w fun e w' => e = .returned (.tuple #[.int .i64 (rankF (cntN 7 ns) ns : Nat), .int .i64 0]) ∧ Ext w w' := by
  have HD := check_any v (ofN ns) w (ints_ofN hv)
  rw [fit_err hf] at HD
  have HD := Lib.hid HD
  have HK := Lib.hid (fun W hW => @counts_any v (ofN ns) W hW (cellsErr_zero (fit_err hf)).1)
  have HV := Lib.hid hv
  have hR := rank_bd 7 ns hf.1 hf.2
  obtain ⟨R, HR⟩ : ∃ R, Hid (rankF (cntN 7 ns) ns = R) := ⟨_, rfl⟩
  rw [HR.out] at hR ⊢
  have hl16 := hf.2
  clear hv
  go_enter Try.func18, Try.ntmps18
  go_wp2_with fail
  refine HD.out.mono ?_
  rintro e w1 ⟨rfl, hx⟩
  go_wp2_with fail
  refine (HK.out _ (ints_ofN (HV.out.ext hx))).mono ?_
  rintro e w2 ⟨u, rfl, hu, hx2⟩
  rw [cnts_ofN, ofN_map] at hu
  obtain ⟨g, cap, rfl, hg1, hg2⟩ := own_open hu (by decide)
  have hgw : w.heap.size ≤ g := Nat.le_trans hx.size hg1
  have HU := own_mono hu hx.size
  clear hu hg1 hg2
  have hX0 := hx.trans hx2
  obtain ⟨ao, c, rfl, hlen, hc⟩ := HV.out.open
  go_wp2_with fail
  go_loopw [6, 19] (fun o i wr => ∃ k o' : Nat, k ≤ ns.length ∧ i = .int .i64 k ∧ o = .int .i64 o' ∧ Ext w wr ∧
      wr.ownsRow w.heap.size 3 1 (.slice (some ⟨g, 0, none⟩) 7 cap) 7 ((cntN 7 (ns.drop k)).map fun (n : Nat) => Value.int .i64 n) ∧ Hid (o' + rankF (cntN 7 (ns.drop k)) (ns.drop k) = R)) (fun _ i _ => ns.length - (intOf i).toNat)
  case atStart => exact ⟨0, 0, Nat.zero_le _, rfl, rfl, hX0, HU, by simpa [Hid] using HR.out⟩
  case round =>
    obtain ⟨k, o', hk, rfl, rfl, HX, HO, HI⟩ := hrel
    by_cases hlt : k < ns.length
    · obtain ⟨x, h1, h2, h3⟩ := get_lt hlt
      obtain ⟨b, off, rfl, _⟩ := hc.at h1
      have hcell := (hc.ext HX).at' h1
      have hx7 : x < 7 := hf.1 x (List.mem_of_getElem? h1.out)
      have hfd : ∀ y ∈ ns.drop (k + 1), y < 7 := fun y hy => hf.1 y (List.mem_of_mem_drop hy)
      have hIr := HI.out
      rw [h2.out] at hIr HO
      simp only [rankF, dec_cnt 7 x _ hx7] at hIr
      have hsum : (cntN 7 (x :: ns.drop (k + 1))).sum ≤ 16 := by
        rw [← h2.out, cntN_sum 7 _ (fun y hy => hf.1 y (List.mem_of_mem_drop hy))]
        simp; omega
      have hlen7 : (cntN 7 (x :: ns.drop (k + 1))).length = 7 := cntN_len _ _
      have hdx := dec_cnt 7 x (ns.drop (k + 1)) hx7
      have hpos : 0 < (cntN 7 (x :: ns.drop (k + 1))).getD x 0 := by rw [cntN_getD, if_pos hx7]; simp
      generalize hL : cntN 7 (x :: ns.drop (k + 1)) = L at *
      have HDX := Lib.hid hdx; have HIR := Lib.hid hIr; have HL7 := Lib.hid hlen7; have HPO := Lib.hid hpos; have HLL := Lib.hid hL
      have hbd : o' + rIn L x ≤ 20922789888000 := by omega
      clear hdx hIr hlen7 hpos hL HI
      go_wp2_with fail
      go_loopw [6, 24] (fun o i wk => ∃ j : Nat, j ≤ x ∧ i = .int .i64 j ∧ o = .int .i64 (o' + rIn L j : Nat) ∧ Ext w wk ∧
        wk.ownsRow w.heap.size 3 1 (.slice (some ⟨g, 0, none⟩) 7 cap) 7 (L.map fun (n : Nat) => Value.int .i64 n)) (fun _ i _ => x - (intOf i).toNat)
      case atStart => exact ⟨0, Nat.zero_le _, rfl, by simp [rIn], HX, HO⟩
      case round =>
        obtain ⟨j, hj, rfl, rfl, HY, HP⟩ := hrel
        by_cases hjx : j < x
        · have hj7 : j < 7 := by omega
          obtain ⟨q, hq, _, _⟩ := get_lt (xs := L) (k := j) (by have := HL7.out; omega)
          have hgd : L.getD j 0 = q := by simp [List.getD_eq_getElem?_getD, hq.out]
          have c1 := own_cell HP (j := j) (x := .int .i64 q) (by simp [Hid, hq.out])
          have f1 := HP.frozenAt j
          have hq16 : q ≤ 16 := by
            have h8 : q ∈ L := List.mem_of_getElem? hq.out
            have := mem_le_sum h8
            omega
          have hmono := rIn_mono L (j + 1) x (by omega)
          have hsucc : rIn L (j + 1) = rIn L j + if 0 < L.getD j 0 then waysN (dec1 L j) else 0 := rfl
          rw [hgd] at hsucc
          have HSU := Lib.hid hsucc
          clear hgd
          by_cases hq0 : q = 0
          · subst hq0
            clear hsucc hmono
            go_wp2_with fail
            go_roundw
            case rel => exact ⟨j + 1, by omega, by go_num, by rw [HSU.out]; simp, HY, HP⟩
            case measure => simp [intOf]; omega
          · have hqp : 0 < q := by omega
            have hqi : (0 : Int) < (q : Int) := by omega
            rw [if_pos hqp] at hsucc
            have hbd2 : o' + rIn L j + waysN (dec1 L j) ≤ 20922789888000 := by omega
            have HSU2 := Lib.hid hsucc
            have hds : (dec1 L j).sum ≤ 16 := by
              have := dec1_sum L j (by simp [List.getD_eq_getElem?_getD, hq.out]; omega)
              omega
            clear hsucc hmono hq0 HSU
            have s1 := HP.stored j (.int .i64 ((q : Int) - 1))
            have hset : (L.map fun (n : Nat) => Value.int .i64 n).set j (.int .i64 ((q : Int) - 1)) = (dec1 L j).map fun (n : Nat) => Value.int .i64 n := by
              rw [dec1, List.map_set]
              congr 2
              simp [List.getD_eq_getElem?_getD, hq.out]; omega
            rw [hset] at s1
            have hN : Nats (wr.setCell ⟨g, j, none⟩ (.int .i64 ((q : Int) - 1))) (.slice (some ⟨g, 0, none⟩) 7 cap) (dec1 L j) := own_nats s1.1 (by decide)
            have s2 := s1.1.stored j (.int .i64 q)
            have hset2 : ((dec1 L j).map fun (n : Nat) => Value.int .i64 n).set j (.int .i64 q) = L.map fun (n : Nat) => Value.int .i64 n := by
              rw [← hset, List.set_set]
              apply List.ext_getElem?
              intro i
              by_cases e : j = i
              · subst e; simp [(List.getElem?_eq_some_iff.1 hq.out).1]; rw [(List.getElem?_eq_some_iff.1 hq.out).2]
              · simp [e]
            rw [hset2] at s2
            have HN := Lib.hid hN; have S2 := Lib.hid s2.1
            clear hN s1 s2 hset hset2
            have hwp := waysN_pos (dec1 L j)
            go_wp2_with fail
            refine (ways_any _ _ _ (by exact HN.out) hds).mono ?_
            rintro e w4 ⟨rfl, rfl⟩
            go_wp2_with fail
            go_roundw
            case rel => exact ⟨j + 1, by omega, by go_num, by rw [HSU2.out]; congr 1; omega, (HY.setCell hgw _).setCell hgw _, S2.out⟩
            case measure => simp [intOf]; omega
        · obtain rfl : j = x := by omega
          obtain ⟨q, hq, _, _⟩ := get_lt (xs := L) (k := j) (by have := HL7.out; omega)
          have hgd : L.getD j 0 = q := by simp [List.getD_eq_getElem?_getD, hq.out]
          have c1 := own_cell HP (j := j) (x := .int .i64 q) (by simp [Hid, hq.out])
          have f1 := HP.frozenAt j
          have hqp : 0 < q := by rw [← hgd]; exact HPO.out
          have hq16 : q ≤ 16 := by
            have h8 : q ∈ L := List.mem_of_getElem? hq.out
            have := mem_le_sum h8
            omega
          have s1 := HP.stored j (.int .i64 ((q : Int) - 1))
          have hset : (L.map fun (n : Nat) => Value.int .i64 n).set j (.int .i64 ((q : Int) - 1)) = (dec1 L j).map fun (n : Nat) => Value.int .i64 n := by
            rw [dec1, List.map_set]
            congr 2
            simp [List.getD_eq_getElem?_getD, hq.out]; omega
          rw [hset, HDX.out] at s1
          have S1 := Lib.hid s1.1
          have HGD := Lib.hid hgd
          clear s1 hset hgd
          go_wp2_with fail
          go_roundw
          case rel => exact ⟨k + 1, _, by omega, by go_num, rfl, HY.setCell hgw _, S1.out, by have := HIR.out; show _ = _; omega⟩
          case measure => simp [intOf]; omega
    · obtain ⟨h1, _⟩ := get_ge hlt
      have hI := HI.out
      rw [h1.out] at hI
      have : o' = R := by simpa [rankF] using hI
      have HE := Lib.hid this
      clear this hI HI
      go_wp2_with fail
      go_ret2
      exact ⟨congrArg (fun z : Nat => Ending.returned (.tuple #[.int .i64 (z : Nat), .int .i64 0])) HE.out, HX⟩

/-! ### Unrank -/
set_option maxHeartbeats 400000 in
set_option maxRecDepth 100000 in
theorem Unrank_err (v : Value) (xs : List Int) (n : Int) (w : World) (hv : Ints w v xs) (h : countsErr xs ≠ 0) :
    Calls Try.prog 23 #[v, .int .i64 n] w fun e w' => e = .returned (.tuple #[.slice none 0 0, .int .i64 (countsErr xs)]) ∧ Ext w w' := by
  have HD := Lib.hid (checkCounts_any v xs w hv)
  have h2 : (countsErr xs != 0) = true := by simp [h]
  clear hv h
  generalize countsErr xs = q at *
  go_enter Try.func23, Try.ntmps23
  go_wp2_with fail
  refine HD.out.mono ?_
  rintro e w' ⟨rfl, hx⟩
  go_wp2_with fail
  go_ret2
  exact ⟨rfl, hx⟩

/-- counts that are counts -/
def FitC (l : List Nat) : Prop := l.length = 7 ∧ l.sum ≤ 16

theorem fitC_of {xs : List Int} (h : countsErr xs = 0) : ∃ l, FitC l ∧ xs = ofN l := by
  obtain ⟨h1, h2, h3⟩ := countsErr_zero h
  refine ⟨xs.map Int.toNat, ⟨by simpa using h1, ?_⟩, ?_⟩
  · have := sum_toNats (xs := xs) (fun x hx => (h2 x hx).1); omega
  · simp only [ofN, List.map_map]
    conv => lhs; rw [← List.map_id xs]
    refine List.map_congr_left fun x hx => ?_
    have := h2 x hx
    simp only [Function.comp, id]; omega

theorem sum_ofN (l : List Nat) : (ofN l).sum = (l.sum : Nat) := by
  induction l with
  | nil => rfl
  | cons x l ih => simp only [ofN, List.map_cons, List.sum_cons] at ih ⊢; rw [ih]; omega

theorem fitC_err {l : List Nat} (h : FitC l) : countsErr (ofN l) = 0 := by
  have h1 : (ofN l).any (fun c => !inB c 0 16) = false := by
    refine List.any_eq_false.2 fun x hx => ?_
    obtain ⟨y, hy, rfl⟩ := List.mem_map.1 hx
    have := mem_le_sum hy
    have := h.2
    simp [inB]; omega
  have h2 : (ofN l).length = 7 := by simp [ofN]; exact h.1
  have h3 := sum_ofN l
  have h4 : ¬ 16 < (ofN l).sum := by rw [h3]; have := h.2; omega
  simp [countsErr, h2, h1, h4, -List.any_eq_false]

set_option maxHeartbeats 400000 in
set_option maxRecDepth 100000 in
theorem Unrank_range (v : Value) (l : List Nat) (n : Int) (w : World) (hv : Nats w v l) (hf : FitC l) (hn : n < 0 ∨ (waysN l : Int) ≤ n) :
    Calls Try.prog 23 #[v, .int .i64 n] w fun e w' => e = .returned (.tuple #[.slice none 0 0, .int .i64 4]) ∧ Ext w w' := by
  have HD := checkCounts_any v (ofN l) w (ints_ofN hv)
  rw [fitC_err hf] at HD
  have HD := Lib.hid HD
  have HV := Lib.hid hv
  have hs := hf.2
  clear hv
  by_cases h0 : n < 0
  · clear hn
    go_enter Try.func23, Try.ntmps23
    go_wp2_with fail
    refine HD.out.mono ?_
    rintro e w' ⟨rfl, hx⟩
    go_wp2_with fail
    go_ret2
    exact ⟨rfl, hx⟩
  · have hn2 : (waysN l : Int) ≤ n := by omega
    clear hn
    go_enter Try.func23, Try.ntmps23
    go_wp2_with fail
    refine HD.out.mono ?_
    rintro e w' ⟨rfl, hx⟩
    go_wp2_with fail
    refine (ways_any _ l _ (HV.out.ext hx) hs).mono ?_
    rintro e w'' ⟨rfl, rfl⟩
    go_wp2_with fail
    go_ret2
    exact ⟨rfl, hx⟩
end Go.Proofs.Ytllhgkacbpgemaa
