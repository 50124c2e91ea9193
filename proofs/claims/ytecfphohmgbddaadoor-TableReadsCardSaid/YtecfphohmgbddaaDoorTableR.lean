/- walk: slices.Repeat at one element -/
import Derived.Test.YtecfphohmgbddaaDoorTableN
import Derived.Deep.RegionLaw
namespace Go.Proofs.YtecfphohmgbddaaDoor
open Go.RowKit
set_option linter.unusedVariables false

theorem own_heap {w : World} {B : Nat} {e : TypeId} {g n : Nat} {vs : List Value} (h : w.ownsRow B e 1 (.slice (some ⟨g, 0, none⟩) n n) n vs) : w.heap[g]? = some (.cells vs.toArray e (0, 0)) ∧ B ≤ g := by
  rcases h.2 with ⟨h1, _⟩ | ⟨g', cap, cur, h1, hb, hg, hc, _, hcs, ht⟩
  · cases h1
  · simp only [Value.slice.injEq, Option.some.injEq, Addr.mk.injEq, and_true, true_and] at h1
    obtain ⟨rfl, rfl⟩ := h1
    have : cur.toList = vs := by rw [← ht, List.take_of_length_le]; rw [Array.length_toList, hcs]; exact Nat.le_refl _
    rw [← this]
    exact ⟨hg, hb⟩

theorem heap_row {w : World} {e : TypeId} {g n : Nat} {vs : List Value} (h : w.heap[g]? = some (.cells vs.toArray e (0, 0))) (hn : vs.length = n) (hb : n ≤ 17592186044416) : Row w (.slice (some ⟨g, 0, none⟩) n n) vs := by
  subst hn
  refine own_row (B := 0) (e := e) ⟨by simp, .inr ⟨g, vs.length, vs.toArray, rfl, Nat.zero_le _, h, Nat.le_refl _, by unfold maxLen; omega, by simp, by simp⟩⟩ hb

theorem heap_cell {w : World} {e : TypeId} {g : Nat} {vs : List Value} (h : w.heap[g]? = some (.cells vs.toArray e (0, 0))) {j : Nat} {x : Value} (hx : vs[j]? = some x) (h1 : vs.length ≤ 17592186044416) : w.cell? ⟨g, j, none⟩ = some x := by
  have := (heap_row h rfl h1).at (j := j) (p := x) (show Hid _ from hx)
  obtain ⟨b, off, e1, e2⟩ := this
  simp only [Option.some.injEq, Addr.mk.injEq, and_true] at e1
  obtain ⟨rfl, rfl⟩ := e1
  rwa [Nat.zero_add] at e2

/-- m copies, the others zeros -/
def repL (x : Value) (m r : Nat) : List Value := List.replicate m x ++ List.replicate r (.int .i64 0)
theorem repL_len (x : Value) (m r : Nat) : (repL x m r).length = m + r := by simp [repL]
theorem repL_get {x : Value} {m r j : Nat} (h : j < m) : (repL x m r)[j]? = some x := by
  unfold repL
  rw [List.getElem?_append_left (by simpa using h), List.getElem?_replicate, if_pos h]
theorem repL_splice (x : Value) (m r d : Nat) (h : d ≤ r) : splice (repL x m r) m (List.replicate d x) = repL x (m + d) (r - d) := by
  have e1 : (repL x m r).take m = List.replicate m x := by
    unfold repL
    rw [List.take_append_of_le_length (by simp), List.take_of_length_le (by simp)]
  have e2 : (repL x m r).drop (m + d) = List.replicate (r - d) (.int .i64 0) := by
    unfold repL
    rw [List.drop_append]
    simp
  unfold splice
  rw [e1, List.length_replicate, e2, ← List.append_assoc, List.replicate_append_replicate]
  rfl
theorem repL_first (x : Value) (r : Nat) : splice (List.replicate (r + 1) (.int .i64 0)) 0 [x] = repL x 1 r := by
  simp [splice, repL, List.replicate_succ]

set_option maxHeartbeats 1600000 in
set_option maxRecDepth 100000 in
theorem repeat_any (v : Value) (x : Int) (k : Nat) (w : World) (hv : Ints w v [x]) (hk1 : 1 ≤ k) (hk : k ≤ 4096) :
    Calls Tryd.prog 18 #[v, .int .i64 k] w fun e w' => ∃ u, e = .returned u ∧ Ints w' u (List.replicate k x) ∧ Ext w w' := by
  obtain ⟨wo, rfl⟩ : ∃ wo : World, wo = w := ⟨_, rfl⟩
  obtain ⟨r, rfl⟩ : ∃ r, k = r + 1 := ⟨k - 1, by omega⟩
  obtain ⟨ao, c, rfl, hlen, hc⟩ := hv.open
  simp only [List.length_cons, List.length_nil, Nat.zero_add] at *
  obtain ⟨b, off, rfl, hcell⟩ := hc 0 (.int .i64 x) rfl
  clear hc hv hlen
  have hmul := Tryd.bits_Mul 1 (r + 1) (by omega) (by omega) wo
  rw [show (1 * (r + 1)) / 18446744073709551616 = 0 from by omega, show (1 * (r + 1)) % 18446744073709551616 = r + 1 from by omega] at hmul
  obtain ⟨K, hK⟩ : ∃ K, r + 1 = K := ⟨_, rfl⟩
  rw [hK] at hmul
  have HM := Lib.hid hmul
  have HK := Lib.hid hK
  have hk0 : (0 : Int) ≤ (K : Int) := by omega
  have hk9 : (K : Int) ≤ 4096 := by omega
  rw [hK]
  have hK1 : 1 ≤ K := by omega
  have hK9 : K ≤ 4096 := by omega
  clear hK hmul hk1 hk
  go_enter Tryd.func18, Tryd.ntmps18
  go_wp2_with fail
  refine HM.out.mono ?_
  rintro e w1 ⟨rfl, rfl⟩
  have A2 : Hid ([Value.int .i64 x].length = Nat.min 1 K) := by
    show 1 = min 1 K
    omega
  have A4 : Hid (0 + [Value.int .i64 x].length ≤ (List.replicate K (Value.int .i64 0)).length) := by
    show _ ≤ _
    simp; omega
  have A5 : Hid (∀ u ∈ [Value.int .i64 x], u.oneCell' = true) := by
    show ∀ u ∈ _, _
    simp [Value.oneCell']
  have A3 : Hid (∀ w2, Ext w1 w2 → ∀ j u, [Value.int .i64 x][j]? = some u → w2.cell? ((⟨b, off, none⟩ : Addr).add j) = some u) := by
    show ∀ w2, _ → ∀ j u, _
    intro w2 hX2 j u hj
    match j with
    | 0 =>
      simp at hj
      subst hj
      rw [Addr.add_lit]
      exact hX2.cell hcell
    | j + 1 => simp at hj
  go_wp2_with (first
    | (at_make; refine wp_make1 rfl rfl ei_ints rfl rfl rfl K rfl rfl (by omega) (by omega) ?_; intro w2 hO2 hX2)
    | (refine wpList_copy_splice (o := ⟨some 33, _, _, _, _, _⟩) rfl (.tmp 31) (.tmp 32) 23 23 rfl 3 Tryd.underlying23 (by kernel_rfl) (some ⟨w1.heap.size, 0, none⟩) (some ⟨b, off, none⟩) K K 1 c rfl rfl w1.heap.size 0 (List.replicate K (.int .i64 0)) 3 (own_heap hO2).1 [.int .i64 x] A2.out (fun _ => ⟨rfl, _, rfl, A3.out _ hX2⟩) A4.out A5.out w1.heap.size w1 hX2 (Nat.le_refl _) ?_; intro w3 hg3 hX3))
  have hg4 : Hid (w3.heap[w1.heap.size]? = some (.cells (repL (.int .i64 x) 1 (K - 1)).toArray 3 (0, 0))) := by
    show _ = _
    rw [hg3.out, show K = (K - 1) + 1 from by omega, repL_first]
    rfl
  clear hg3
  go_loopw [8] (fun m wr => ∃ m' : Nat, 1 ≤ m' ∧ m' ≤ K ∧ m = .int .i64 m' ∧ Hid (wr.heap[w1.heap.size]? = some (.cells (repL (.int .i64 x) m' (K - m')).toArray 3 (0, 0))) ∧ Ext w1 wr) (fun m _ => K - (intOf m).toNat)
  case atStart => exact ⟨1, Nat.le_refl _, hK1, rfl, hg4.out, hX3⟩
  case round =>
    obtain ⟨m, hm1, hmK, rfl, HG, X⟩ := hrel
    by_cases hlt : m < K
    · obtain ⟨d, hd⟩ : ∃ d, Nat.min m (K - m) = d := ⟨_, rfl⟩
      have hd1 : 1 ≤ d ∧ d ≤ m ∧ m + d ≤ K := by
        have : min m (K - m) = d := hd
        omega
      obtain ⟨d1, d2, d3⟩ := hd1
      have hki : (m : Int) < (K : Int) := by omega
      have hkle : (m : Int) ≤ (K : Int) := by omega
      have hne : ¬ K = m := by omega
      have B1 : Hid ((List.replicate d (Value.int .i64 x)).length = Nat.min m (K - m)) := by show _ = _; rw [List.length_replicate, hd]
      have B2 : Hid (∀ W : World, W.heap = wr.heap → ∀ j u, (List.replicate d (Value.int .i64 x))[j]? = some u → W.cell? ((⟨w1.heap.size, 0, none⟩ : Addr).add j) = some u) := by
        show ∀ W : World, W.heap = wr.heap → ∀ j u, _ → _
        intro W hW j u hj
        obtain ⟨hj1, hj2⟩ := List.getElem?_eq_some_iff.1 hj
        rw [List.length_replicate] at hj1
        rw [List.getElem_replicate] at hj2
        subst hj2
        rw [Addr.add_lit, Nat.zero_add]
        exact heap_cell (by rw [hW]; exact HG.out) (repL_get (by omega)) (by rw [repL_len]; omega)
      have B3 : Hid (m + (List.replicate d (Value.int .i64 x)).length ≤ (repL (.int .i64 x) m (K - m)).length) := by
        show _ ≤ _
        rw [List.length_replicate, repL_len]; omega
      have B4 : Hid (∀ u ∈ List.replicate d (Value.int .i64 x), u.oneCell' = true) := by
        show ∀ u ∈ _, _
        intro u hu
        rw [(List.mem_replicate.1 hu).2]; rfl
      have B5 : Hid (splice (repL (.int .i64 x) m (K - m)) m (List.replicate d (.int .i64 x)) = repL (.int .i64 x) (m + d) (K - (m + d))) := by
        show _ = _
        rw [repL_splice _ _ _ _ (by omega), show K - m - d = K - (m + d) from by omega]
      have hdi : (m : Int) + (d : Int) ≤ 4096 := by omega
      have ew : IntKind.i64.wrap ((m : Int) + (d : Int)) = (m : Int) + (d : Int) := IntWalk.i64_in _ (by omega)
      clear hd
      go_wp2_with fail
      go_region_law (refine step_copy_splice (o := ⟨some 45, _, _, _, _, _⟩) rfl (.tmp 41) (.tmp 44) 23 23 rfl 3 Tryd.underlying23 (by kernel_rfl) (some ⟨w1.heap.size, m, none⟩) (some ⟨w1.heap.size, 0, none⟩) (K - m) (K - m) m K (by go_simp) (by go_simp) w1.heap.size m (repL (.int .i64 x) m (K - m)) 3 HG.out (List.replicate d (.int .i64 x)) B1.out (fun _ => ⟨rfl, _, rfl, B2.out _ rfl⟩) B3.out B4.out w1.heap.size w1 X.drew (Nat.le_refl _) ?_; intro w4 hg4 hb4)
      rw [B5.out] at hg4
      go_simp
      clear ew
      go_roundw
      case rel =>
        refine ⟨_, _, _, _, _, _, _, _, _, _, _, _, _, _, ?_, rfl⟩
        exact ⟨m + d, by omega, by omega, by go_num, hg4, hb4⟩
      case measure => simp [intOf]; omega
    · have hmk : m = K := by omega
      subst hmk
      go_wp2_with fail
      go_ret
      refine ⟨_, rfl, ?_, X⟩
      have h := HG.out
      rw [Nat.sub_self] at h
      have h2 := heap_row (n := m) h (by rw [repL_len]; omega) (by omega)
      show Ints wr (.slice (some ⟨w1.heap.size, 0, none⟩) m m) (List.replicate m x)
      show Row _ _ ((List.replicate m x).map _)
      rw [List.map_replicate]
      simpa [repL] using h2
end Go.Proofs.YtecfphohmgbddaaDoor
