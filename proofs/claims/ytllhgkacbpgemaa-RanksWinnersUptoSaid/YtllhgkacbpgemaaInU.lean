/- arguments that are read, with their bulk: for the second forms of the statements -/
import Derived.Test.YtllhgkacbpgemaaInC
import Derived.Deep.CondSized
namespace Go.Proofs.Ytllhgkacbpgemaa
open Go.ChangeShapes Go.WideShapes Go.ChangeAt Go.RowKit Go.Deep

theorem bulk_one {H : Type} (d : DataW H) : 1 ≤ Rows.uptoBulk d := by
  cases d with
  | lit l => cases l <;> simp [Rows.uptoBulk]
  | nil => simp [Rows.uptoBulk]
  | ptr d => simp [Rows.uptoBulk]
  | slice elems spare => simp [Rows.uptoBulk]
  | agg parts => simp [Rows.uptoBulk]
  | iface t d => simp [Rows.uptoBulk]
  | map entries => simp [Rows.uptoBulk]
  | held h => simp [Rows.uptoBulk]
theorem bulk_len {H : Type} : ∀ (l : List (DataW H)), l.length ≤ Rows.uptoBulkAll l
  | [] => Nat.zero_le _
  | x :: r => by have := bulk_one x; have := bulk_len r; simp only [Rows.uptoBulkAll, List.length_cons]; omega
theorem bulk_sum {H α : Type} (f : α → Nat) : ∀ (xs : List α) (ds : List (DataW H)), ds.length = xs.length → (∀ (i : Nat) (x : α) (d : DataW H), xs[i]? = some x → ds[i]? = some d → f x ≤ Rows.uptoBulk d) → (xs.map f).sum ≤ Rows.uptoBulkAll ds
  | [], [], _, _ => Nat.zero_le _
  | x :: xs, d :: ds, hl, h => by
    have h0 := h 0 x d rfl rfl
    have h1 := bulk_sum f xs ds (by simpa using hl) (fun i y e a b => h (i + 1) y e (by simpa using a) (by simpa using b))
    simp only [List.map_cons, List.sum_cons, Rows.uptoBulkAll]
    omega
  | [], d :: ds, hl, _ => by simp at hl
  | x :: xs, [], hl, _ => by simp at hl

section
variable {H : Type} {enc : TypeId × Value → H} {P : Program} {W : World}

theorem slice_inD {α : Type} {t e : TypeId} {B : Nat} (ht : P.underlying t = some (.slice e)) (ce : P.cellsOf e = 1) (hB : P.bytesOf e = B) (h8 : 8 ≤ B) {Rel : Value → α → DataW H → Prop}
    (helem : ∀ n u y, DataW.trod enc P W 0 (fun _ => true) true n e [u] = some y → Sized P e y.1 → ∃ x, Rel u x y.1)
    {n : Nat} {v : Value} {y : DataW H × List MemPlace} (h : DataW.trod enc P W 0 (fun _ => true) true n t [v] = some y) (hs : Sized P t y.1) :
    ∃ (us : List Value) (xs : List α) (ds : List (DataW H)), Row W v us ∧ us.length = xs.length ∧ ds.length = xs.length ∧ us.length * B ≤ reachBytes ∧ Rows.uptoBulkAll ds + 1 ≤ Rows.uptoBulk y.1 ∧
      ∀ (i : Nat) (u : Value) (x : α) (d : DataW H), us[i]? = some u → xs[i]? = some x → ds[i]? = some d → Rel u x d := by
  rcases open_slice1 ht ce h with ⟨hcs, hx⟩ | ⟨a, len, cap, m, n, V, D, Pl, hcs, _, hl, hm, hmm, rfl, hx⟩
  · simp at hcs
    subst hcs
    subst hx
    exact ⟨[], [], [], Row.nil W, rfl, rfl, by simp, by simp [Rows.uptoBulkAll, Rows.uptoBulk], fun i u x d h => by simp at h⟩
  · simp at hcs
    subst hcs
    obtain ⟨h1, h2⟩ := Sized.slice ht hs
    rw [hB] at h1
    have hlm : len ≤ m := by rw [hmm]; simp [hl]
    simp only [List.length_map, List.length_range] at h1
    have hlen : len * B ≤ reachBytes := Nat.le_trans (Nat.mul_le_mul_right _ (by omega)) h1
    have h44 : len ≤ 17592186044416 := by
      have : len * 8 ≤ reachBytes := Nat.le_trans (Nat.mul_le_mul_left _ h8) hlen
      unfold reachBytes at this; omega
    obtain ⟨xs, hxl, hxs⟩ := list_of (fun i x => Rel (V i) x (D i)) len (fun i hi => helem _ _ _ (hx i (by omega)).2 (h2 _ (List.mem_map.2 ⟨i, List.mem_range.2 hi, rfl⟩)))
    refine ⟨(List.range len).map V, xs, (List.range len).map D, ⟨some a, cap, by simp, ⟨fun e => (by cases e), by simpa using hl⟩, by simpa using h44, fun _ e => (by cases e), fun i u hu => ?_⟩, by simp [hxl], by simp [hxl], by simpa using hlen, by simp only [Rows.uptoBulk]; omega, fun i u x d hu hx2 hd => ?_⟩
    · simp only [List.getElem?_map, Option.map_eq_some_iff] at hu
      obtain ⟨j, hj, rfl⟩ := hu
      have hjl := (List.getElem?_eq_some_iff.1 hj).1
      simp only [List.length_range] at hjl
      rw [List.getElem?_range hjl] at hj
      obtain rfl := Option.some.inj hj
      obtain ⟨b, off, spot⟩ := a
      have hc0 := (hx i (by omega)).1
      have hspot : spot = none := by
        have := World.cell?_spot (hx 0 (by omega)).1
        simpa [Addr.add] using this
      subst hspot
      exact ⟨b, off, rfl, by rw [Addr.add_lit] at hc0; exact hc0⟩
    · simp only [List.getElem?_map, Option.map_eq_some_iff] at hu hd
      obtain ⟨j, hj, rfl⟩ := hu
      obtain ⟨j2, hj2, rfl⟩ := hd
      have hjl := (List.getElem?_eq_some_iff.1 hj).1
      simp only [List.length_range] at hjl
      rw [List.getElem?_range hjl] at hj hj2
      obtain rfl := Option.some.inj hj
      obtain rfl := Option.some.inj hj2
      exact hxs i x hx2

theorem ints_elemD {t e : TypeId} (ht : P.underlying t = some (.slice e)) (he : P.underlying e = some (.int .i64)) (ce : P.cellsOf e = 1) (hB : P.bytesOf e = 8)
    {n : Nat} {v : Value} {y : DataW H × List MemPlace} (h : DataW.trod enc P W 0 (fun _ => true) true n t [v] = some y) (hs : Sized P t y.1) :
    ∃ xs : List Int, Ints W v xs ∧ xs.length + 512 ≤ 17592186044416 ∧ (∀ x ∈ xs, (Lit.int .i64 x).wf = true) ∧ xs.length + 1 ≤ Rows.uptoBulk y.1 := by
  obtain ⟨us, xs, ds, h1, h2, h2b, h3, hb, h4⟩ := slice_inD (Rel := fun u x _ => u = .int .i64 x ∧ (Lit.int .i64 x).wf = true) ht ce hB (by omega) (fun n u y hy _ => by
    obtain ⟨x, h5, _, h6⟩ := DataW.trod_int he hy
    exact ⟨x, by simpa using h5, h6⟩) h hs
  have hd : ∀ i, i < xs.length → ∃ d, ds[i]? = some d := fun i hi => ⟨ds[i]'(by omega), List.getElem?_eq_getElem (by omega)⟩
  have hu := rel_map h2 (fun i u x a b => by
    obtain ⟨d, hd⟩ := hd i (List.getElem?_eq_some_iff.1 b).1
    exact (h4 i u x d a b hd).1)
  subst hu
  have hbl := bulk_len ds
  refine ⟨xs, h1, ?_, fun x hx => ?_, by omega⟩
  · simp only [List.length_map] at h3; unfold reachBytes at h3; omega
  · obtain ⟨i, hi, rfl⟩ := List.mem_iff_getElem.1 hx
    obtain ⟨d, hd⟩ := hd i hi
    exact (h4 i _ _ d (by rw [List.getElem?_map, List.getElem?_eq_getElem hi]; rfl) (List.getElem?_eq_getElem hi) hd).2
end

set_option maxRecDepth 100000 in
theorem ints_inU {H : Type} {enc : TypeId × Value → H} {W : World} {base : Nat} {v : Value} {d : DataW H} {p : List MemPlace} (hv : Value.okWide Try.prog W .any base 22 v)
    (h : DataW.Trod enc Try.prog W 0 (fun _ => true) true 22 v d p) (hs : Sized Try.prog 22 d) :
    ∃ xs : List Int, Ints W v xs ∧ xs.length + 512 ≤ 17592186044416 ∧ (∀ x ∈ xs, (Lit.int .i64 x).wf = true) ∧ xs.length + 1 ≤ Rows.uptoBulk d := by
  obtain ⟨n, hn⟩ := trod_slice_arg Try.underlying22 hv h
  exact ints_elemD Try.underlying22 Try.underlying3 (by kernel_rfl) (by kernel_rfl) hn hs
end Go.Proofs.Ytllhgkacbpgemaa
