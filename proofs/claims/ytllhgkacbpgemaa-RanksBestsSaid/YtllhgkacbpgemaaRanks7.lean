/- the walk of order -/
import Derived.Test.YtllhgkacbpgemaaRanks6
import Derived.Laws.Rows
namespace Go.Proofs.Ytllhgkacbpgemaa
open Go.RowKit
set_option linter.unusedVariables false

theorem info_int3 : ∃ i, Try.prog.info? 3 = some i ∧ i.size = 1 ∧ i.zero = some (.int .i64 0) := by
  obtain ⟨i, h1, h2, h3, _⟩ := info_parts info_int
  exact ⟨i, h1, h3, h2⟩

theorem run_index_counts (cs : Array Value) (k : Nat) (x : Value) (w : World) (hx : cs[k]? = some x) (h : k < 13) (h1 : x.cells = #[x]) :
    (Instr.index 102 (.agg cs) (.int .i64 k)).run Try.prog w = .ok x w := by
  obtain ⟨i, hi, hs, hz⟩ := info_int3
  have hu : Try.prog.underlying 102 = some (.array 13 3) := Try.underlying102
  have h2 : (0 : Int) ≤ (k : Int) ∧ (k : Int) < 13 := by omega
  have hu3 : Try.prog.underlying 3 = some (.int .i64) := Try.underlying3
  simp [Instr.index, run_underlying hu, run_underlying hu3, isAgg, asIntOf, h, sizeOf, typeInfo, hi, hs, part, hx]

def rankL (c : Nat → Nat) (k : Nat) : List Nat := (List.range k).filter fun r => 0 < c r
def ordL (c : Nat → Nat) : List Nat := isort (cfR c) (rankL c 13)
def cntN (xs : List Int) (r : Nat) : Nat := cntR xs r

def Arr (W : World) (g : Nat) (c : Nat → Nat) : Prop := W.heap[g]? = some (.cells ((List.range 13).map fun r => encN (c r)).toArray 102 (0, 0))

theorem Arr.cnt {W : World} {g : Nat} {c : Nat → Nat} (h : Arr W g c) : Cnt W g c := by
  intro r hr
  rw [cell_of_row W g r _ _ (0, 0) h]
  simp [hr]
theorem Arr.free {W : World} {g : Nat} {c : Nat → Nat} (h : Arr W g c) (r : Nat) : W.frozen? ⟨g, r, none⟩ = false := by
  unfold Arr at h
  simp [World.frozen?, h]
theorem Arr.set {W : World} {g : Nat} {c c' : Nat → Nat} (h : Arr W g c) {r : Nat} (hr : r < 13) {z : Int} (hz : z = c' r) (hc : ∀ s, s ≠ r → c' s = c s) : Arr (W.setCell ⟨g, r, none⟩ (.int .i64 z)) g c' := by
  unfold Arr at h ⊢
  subst hz
  simp only [World.setCell, Array.getElem?_modify, h]
  simp only [if_true, Option.map_some, Option.some.injEq]
  congr 1
  rw [List.setIfInBounds_toArray]
  simp only [Option.isSome_none, Bool.false_eq_true, if_false]
  congr 1
  apply List.ext_getElem?
  intro s
  by_cases hs : s = r
  · subst hs
    simp [hr]
  · rw [List.getElem?_set_ne (fun e => hs e.symm)]
    simp only [List.getElem?_map]
    cases hq : (List.range 13)[s]? with
    | none => rfl
    | some y =>
      have : y = s := by
        have := List.getElem?_eq_some_iff.1 hq
        obtain ⟨h1, h2⟩ := this
        simpa using h2.symm
      subst this
      simp [hc y hs]
theorem Arr.lt {W : World} {g : Nat} {c : Nat → Nat} (h : Arr W g c) : g < W.heap.size := (Array.getElem?_eq_some_iff.1 h).1
theorem Arr.ext {W W' : World} {g : Nat} {c : Nat → Nat} (h : Arr W g c) (he : Ext W W') : Arr W' g c := by
  have hl := h.lt
  unfold Arr at h ⊢
  rw [he.block g hl]; exact h
theorem Arr.far {W : World} {g : Nat} {c : Nat → Nat} (h : Arr W g c) {p : Addr} (hp : p.block ≠ g) (u : Value) : Arr (W.setCell p u) g c :=
  (Below.heap_setCell W p u g (fun e => hp e.symm)).trans h
theorem Arr.grew {W W' : World} {g : Nat} {c : Nat → Nat} (h : Arr W g c) {v v' : Value} (hg : Grew W v W' v') (hv : v.ownBlock ≠ some g) : Arr W' g c := by
  have hl := h.lt
  unfold Arr at h ⊢
  rw [hg.by'.block g hl (fun e => hv e.symm)]; exact h

theorem rankL_succ (c : Nat → Nat) (k : Nat) : rankL c (k + 1) = rankL c k ++ (if 0 < c k then [k] else []) := by
  simp only [rankL, List.range_succ, List.filter_append]
  by_cases h : 0 < c k <;> simp [h]
theorem rankL_len (c : Nat → Nat) (k : Nat) : (rankL c k).length ≤ k := by
  have := List.length_filter_le (fun r => decide (0 < c r)) (List.range k)
  simpa [rankL] using this
theorem rankL_lt {c : Nat → Nat} {k r : Nat} (h : r ∈ rankL c k) : r < k := by
  simp [rankL] at h; exact h.1
theorem cntN_step {xs : List Int} {k : Nat} {x : Int} {r : Nat} (h : Hid (xs.take (k + 1) = xs.take k ++ [x])) (hr : x % 13 = r) (s : Nat) : cntN (xs.take (k + 1)) s = cntN (xs.take k) s + if s = r then 1 else 0 := by
  rw [cntN, cntR, countP_take_lt h]
  rw [cntN, cntR]
  congr 1
  rw [hr]
  by_cases e : s = r
  · subst e; simp
  · rw [if_neg e, if_neg]
    simp; omega
theorem isort_len (cf : Nat → Nat → Int) (l : List Nat) : (isort cf l).length = l.length := by
  have h : ∀ (l acc : List Nat), (l.foldl (fun acc x => insRev cf x acc) acc).length = acc.length + l.length := by
    intro l
    induction l with
    | nil => intro acc; simp
    | cons x l ih => intro acc; rw [List.foldl_cons, ih, insRev_len]; simp; omega
  rw [isort, isortR, List.length_reverse, h]; simp
theorem isort_mem {cf : Nat → Nat → Int} {l : List Nat} {z : Nat} (hz : z ∈ isort cf l) : z ∈ l := by
  have h : ∀ (l acc : List Nat), z ∈ l.foldl (fun acc x => insRev cf x acc) acc → z ∈ acc ∨ z ∈ l := by
    intro l
    induction l with
    | nil => intro acc h; exact .inl h
    | cons x l ih =>
      intro acc h
      rw [List.foldl_cons] at h
      rcases ih _ h with h | h
      · rcases insRev_mem h with h | h
        · exact .inr (by simp [h])
        · exact .inl h
      · exact .inr (by simp [h])
  rcases h l [] (by simpa [isort, isortR] using hz) with h | h
  · cases h
  · exact h

def OrderPost (c : Nat → Nat) (w : World) (e : Ending) (w' : World) : Prop :=
  ∃ u1 u2, e = .returned (.tuple #[u1, u2]) ∧ RowOf encN w' u1 (ordL c) ∧ RowOf encN w' u2 ((ordL c).map c) ∧ Ext w w'

set_option maxHeartbeats 3200000 in
set_option maxRecDepth 100000 in
theorem order_any (v : Value) (xs : List Int) (w : World) (hv : Ints w v xs) (hx : ∀ x ∈ xs, 0 ≤ x ∧ x ≤ 51) (h52 : xs.length ≤ 52) (hL : (rankL (cntN xs) 13).length ≤ 5) (hL0 : 0 < (rankL (cntN xs) 13).length) :
    Calls Try.prog 82 #[v] w (OrderPost (cntN xs) w) := by
  have HX := Lib.hid hx
  have HL := Lib.hid hL
  have HL0 := Lib.hid hL0
  obtain ⟨ao, cp, rfl, hlen, hc⟩ := hv.open
  have HCC := Lib.hid hc
  obtain ⟨g, hg⟩ : ∃ g, w.heap.size = g := ⟨_, rfl⟩
  have HG := Lib.hid hg
  clear hv hx hc hL hL0
  go_enter Try.func82, Try.ntmps82
  go_wp2_with fail
  obtain ⟨w1, hw1⟩ : ∃ w1, w1 = w.alloc (.cells #[.int .i64 0, .int .i64 0, .int .i64 0, .int .i64 0, .int .i64 0, .int .i64 0, .int .i64 0, .int .i64 0, .int .i64 0, .int .i64 0, .int .i64 0, .int .i64 0, .int .i64 0] 102) := ⟨_, rfl⟩
  have HX1 : Ext w w1 := by rw [hw1]; exact (Ext.refl w).alloc _
  have HA1 : Arr w1 g (cntN (xs.take 0)) := by
    rw [hw1, ← hg]; exact heap_alloc_new w _
  rw [← hw1]
  have HA1 := Lib.hid HA1
  clear hw1 hg
  go_loopw [15] (fun i wr => ∃ (k : Nat), k ≤ xs.length ∧ i = .int .i64 k ∧ Ext w wr ∧ Arr wr g (cntN (xs.take k))) (fun i _ => xs.length - (intOf i).toNat)
  case atStart => exact ⟨0, Nat.zero_le _, rfl, HX1, HA1.out⟩
  case round =>
    obtain ⟨k, hk, rfl, HXr, HA⟩ := hrel
    by_cases hlt : k < xs.length
    · obtain ⟨x, x1, _, x3⟩ := get_lt hlt
      obtain ⟨b, off, rfl, hcell0⟩ := HCC.out.at x1
      have hcell := HXr.cell hcell0
      obtain ⟨hx0, hx51⟩ := HX.out x (List.mem_of_getElem? x1.out)
      obtain ⟨r, hr⟩ : ∃ r : Nat, x % 13 = (r : Int) := ⟨(x % 13).toNat, by omega⟩
      have hr13 : r < 13 := by omega
      have c1 := HA.cnt r hr13
      have f1 := HA.free r
      have hcl : cntN (xs.take k) r ≤ 52 := by
        have h1 := List.countP_le_length (p := fun x => decide (x % 13 = (r : Int))) (l := xs.take k)
        have h2 : (xs.take k).length ≤ k := List.length_take_le _ _
        rw [cntN, cntR]; omega
      have hst := cntN_step x3 hr
      have HA2 := HA.set (c' := cntN (xs.take (k + 1))) hr13 (z := (cntN (xs.take k) r : Int) + 1) (by rw [hst r]; simp) (fun s hs => by rw [hst s]; simp [hs])
      have HA2 := Lib.hid HA2
      have hg0 : w.heap.size ≤ g := by rw [HG.out]; exact Nat.le_refl _
      have HX2 := Lib.hid (HXr.setCell (p := ⟨g, r, none⟩) hg0 (.int .i64 ((cntN (xs.take k) r : Int) + 1)))
      have hri : (0 : Int) ≤ (r : Int) := by omega
      have hrj : (r : Int) < 13 := by omega
      clear hst hcell0 HA hg0
      generalize cntN (xs.take k) r = z at *
      go_wp2_with fail
      go_roundw
      case rel => exact ⟨k + 1, by omega, by go_num, HX2.out, HA2.out⟩
      case measure => simp [intOf]; omega
    · obtain ⟨_, h1⟩ := get_ge hlt
      rw [h1.out] at HA
      obtain ⟨c, hc⟩ : ∃ c, cntN xs = c := ⟨_, rfl⟩
      rw [hc] at HA HL HL0
      have HCN := Lib.hid hc
      have HAH := Lib.hid HA
      have hg1 : w.heap.size + 1 = g + 1 := by rw [HG.out]
      have HG1 := Lib.hid hg1
      clear HA hg1 hc
      obtain ⟨cs, hcs⟩ : ∃ cs, ((List.range 13).map fun r => encN (c r)).toArray = cs := ⟨_, rfl⟩
      have hci : ∀ j, j < 13 → cs[j]? = some (encN (c j)) := by intro j hj; rw [← hcs]; simp [hj]
      have HCI := Lib.hid hci
      have hac : wr.heap[g]? = some (.cells cs 102 (0, 0)) := by rw [← hcs]; exact HAH.out
      have hcz : (Try.prog.info? 102).map (·.size) = some cs.size := by rw [← hcs]; simp only [List.size_toArray, List.length_map, List.length_range]; kernel_rfl
      have HAC := Lib.hid hac
      have HCZ := Lib.hid hcz
      clear hcs hci hac hcz
      go_wp2_with (refine wpList_load_row rfl 102 (.tmp 4) rfl g rfl _ cs (0, 0) (.array 13 3) HAC.out Try.underlying102 rfl HCZ.out ?_)
      have hz1 := HX1.size
      have hwg : w.heap.size ≤ g + 1 := by have := HG.out; omega
      obtain ⟨wo, rfl⟩ : ∃ wo : World, wo = wr := ⟨_, rfl⟩
      go_loopw [7, 27] (fun v i wr => ∃ (k : Nat), k ≤ 13 ∧ i = .int .i64 k ∧ Ext w wr ∧ Arr wr g c ∧ wr.ownsRow (g + 1) 3 1 v (rankL c k).length ((rankL c k).map encN)) (fun _ i _ => 13 - (intOf i).toNat)
      case atStart => exact ⟨0, Nat.zero_le _, rfl, HXr, HAH.out, World.ownsRow_nil _ _ _ _⟩
      case round =>
        obtain ⟨k2, hk2, rfl, HX2, HA2, HO2⟩ := hrel
        have hzr2 : g + 1 ≤ wr.heap.size := HA2.lt
        have HA2 := Lib.hid HA2
        have HOU := Lib.hid HO2
        have hsz := HX2.size
        have hlk := rankL_len c k2
        have hsc := rankL_succ c k2
        clear HO2
        by_cases hlt2 : k2 < 13
        · have hidx := fun (W : World) => run_index_counts cs k2 (encN (c k2)) W (HCI.out k2 hlt2) hlt2 rfl
          by_cases hpos : 0 < c k2
          · rw [if_pos hpos] at hsc
            have HSC := Lib.hid hsc
            obtain ⟨L, hLe⟩ : ∃ L, rankL c k2 = L := ⟨_, rfl⟩
            rw [hLe] at HOU HSC hlk
            have hposi : (0 : Int) < (c k2 : Int) := by omega
            clear hsc hLe
            go_wp2_with (at_builtin; refine wp_app1 rfl rfl ei_ints HOU.out rfl rfl rfl rfl (by omega) (by omega) (by omega) ?_; intro v' w' hown hgrew)
            go_roundw
            case rel => exact ⟨k2 + 1, by omega, by go_num, hgrew.extNew HX2 HOU.out hwg, HA2.out.grew hgrew (fun e => by have := (HOU.out.lt g e).1; omega), by rw [HSC.out]; simpa using hown⟩
            case measure => simp [intOf]; omega
          · rw [if_neg hpos, List.append_nil] at hsc
            have HSC := Lib.hid hsc
            have hz : c k2 = 0 := by omega
            rw [hz] at hidx
            clear hsc hpos hz
            go_wp2_with fail
            go_roundw
            case rel => exact ⟨k2 + 1, by omega, by go_num, HX2, HA2.out, by rw [HSC.out]; exact HOU.out⟩
            case measure => simp [intOf]; omega
        · have hk13 : k2 = 13 := by omega
          subst hk13
          obtain ⟨L, hLe⟩ : ∃ L, rankL c 13 = L := ⟨_, rfl⟩
          have hord : ordL c = isort (cfR c) L := by rw [ordL, hLe]
          have hL13 : ∀ x ∈ L, x < 13 := by rw [← hLe]; exact fun x h => rankL_lt h
          have HLA := HL.out
          have HLB := HL0.out
          rw [hLe] at HOU HLA HLB hlk
          obtain ⟨blk, cap, hve, hbg, hbl⟩ := own_open HOU.out HLB
          subst hve
          have HORD := Lib.hid hord
          have HL13 := Lib.hid hL13
          have hbne : blk ≠ g := by omega
          have HS := Lib.hid (sortFunc_any 90 #[.pointer (some ⟨g, 0, none⟩)] (cfR c) blk L.length cap (g + 1) L (fun x => x < 13) (fun W => Arr W g c) w wr (fun _ _ => by kernel_rfl)
            ⟨fun W W' h he => h.ext he, fun W p u h hp => h.far (by rw [hp]; exact hbne) u, fun W x y h hx hy => by
              exact orderCmp_any c g x y W hx hy h.cnt⟩ HA2.out HL13.out HX2 (by omega) HOU.out (by omega))
          clear hsc hLe hord hL13 HOU HA2 HL HL0
          go_wp2_with fail
          refine HS.out.mono ?_
          rintro e w3 ⟨rfl, HO3, HX3, HA3⟩
          rw [← HORD.out] at HO3
          have hol : (ordL c).length = L.length := by rw [HORD.out, isort_len]
          have ho13 : ∀ x ∈ ordL c, x < 13 := by rw [HORD.out]; exact fun x h => HL13.out x (isort_mem h)
          obtain ⟨M, hM⟩ : ∃ M, ordL c = M := ⟨_, rfl⟩
          rw [hM] at HO3 hol ho13
          have HM := Lib.hid hM
          obtain ⟨n, hn⟩ : ∃ n, L.length = n := ⟨_, rfl⟩
          rw [hn] at HO3 HLA HLB hol hlk ⊢
          have HML := Lib.hid hol
          have HM13 := Lib.hid ho13
          have HO3' := Lib.hid HO3
          have HA3' := Lib.hid HA3
          clear ho13 hol HO3 HA3 hM HORD HS hn
          have hz3 : g + 1 ≤ w3.heap.size := HA3'.out.lt
          go_wp2_with fail
          go_loopw [8, 43] (fun v i wr => ∃ (k : Nat), k ≤ n ∧ i = .int .i64 k ∧ Ext w3 wr ∧ wr.ownsRow w3.heap.size 3 1 v k (((M.take k).map c).map encN)) (fun _ i _ => n - (intOf i).toNat)
          case atStart => exact ⟨0, Nat.zero_le _, rfl, Ext.refl _, World.ownsRow_nil _ _ _ _⟩
          case round =>
            obtain ⟨k, hk, rfl, HX4, HO4⟩ := hrel
            have HOU := Lib.hid HO4
            have hsz := HX4.size
            clear HO4
            by_cases hlt3 : k < n
            · obtain ⟨x, x1, _, x3⟩ := get_lt (xs := M) (k := k) (by rw [HML.out]; exact hlt3)
              have hx13 := HM13.out x (List.mem_of_getElem? x1.out)
              have c0 := HX4.cell (own_cell HO3'.out (j := k) (x := encN x) (by show _ = _; rw [List.getElem?_map, x1.out]; rfl))
              have c1 := (HA3'.out.cnt.ext HX4) x hx13
              have hxi : (0 : Int) ≤ (x : Int) := by omega
              have hxj : (x : Int) < 13 := by omega
              have htk : Hid (((M.take (k + 1)).map c).map encN = ((M.take k).map c).map encN ++ [encN (c x)]) := by show _ = _; rw [x3.out]; simp
              go_wp2_with (at_builtin; refine wp_app1 rfl rfl ei_ints HOU.out rfl rfl rfl rfl (by omega) (by omega) (by omega) ?_; intro v' w' hown hgrew)
              go_roundw
              case rel => exact ⟨k + 1, by omega, by go_num, hgrew.extNew HX4 HOU.out (Nat.le_refl _), by rw [htk.out]; exact hown⟩
              case measure => simp [intOf]; omega
            · obtain ⟨_, h2⟩ := get_ge (xs := M) (k := k) (by rw [HML.out]; exact hlt3)
              have hkm : k = n := by omega
              subst hkm
              have HO5 := HOU.out
              rw [h2.out] at HO5
              have R1 := Lib.hid (own_rowOf (enc := encN) (xs := M) (own_ext HO3'.out HX4) (by omega))
              have R2 := Lib.hid (own_rowOf (enc := encN) (xs := M.map c) HO5 (by omega))
              clear HO5 HOU
              go_wp2_with fail
              go_ret2
              refine ⟨_, _, rfl, ?_, ?_, HX3.trans HX4⟩
              · rw [HCN.out, HM.out]; exact R1.out
              · rw [HCN.out, HM.out]; exact R2.out
end Go.Proofs.Ytllhgkacbpgemaa
