/- walks of package nimsum: bytes; slices.Insert of one byte -/
import Derived.Test.YtnmcljjfepngeaaTsC
import Derived.Deep.RegionLaw
import Derived.Deep.Cut
import Derived.Laws.CopyOwn
import Derived.Lib.AppendZerosOnto
import Derived.Lib.Overlaps
import Derived.Laws.Externs
import Derived.Lib.JoinLaws
namespace Go.Proofs.Ytnmcljjfepngeaa
open Go.RowKit
set_option linter.unusedVariables false

def encU (n : Nat) : Value := .int .u8 n
theorem ts_info_u8 : (Try.prog.info? 5).map (fun i => (i.zero, i.size, i.bytes)) = some (some (.int .u8 0), 1, 1) := by kernel_rfl
theorem ts_ei_u8 : EI Try.prog 40 5 (.int .u8 0) 1 1 := ⟨Try.underlying40, info_parts ts_info_u8, rfl, by decide⟩

/-- an own row, open -/
theorem own_heapc {w : World} {B : Nat} {e : TypeId} {g n c : Nat} {vs : List Value} (h : w.ownsRow B e 1 (.slice (some ⟨g, 0, none⟩) n c) n vs) : ∃ cur : List Value, w.heap[g]? = some (.cells cur.toArray e (0, 0)) ∧ B ≤ g ∧ cur.length = c ∧ n ≤ c ∧ cur.take n = vs ∧ c ≤ maxLen := by
  rcases h.2 with ⟨h1, _⟩ | ⟨g', cap, cur, h1, hb, hg, hc, hm, hcs, ht⟩
  · cases h1
  · simp only [Value.slice.injEq, Option.some.injEq, Addr.mk.injEq, and_true, true_and] at h1
    obtain ⟨rfl, rfl⟩ := h1
    refine ⟨cur.toList, by simpa using hg, hb, by simpa using hcs, hc, by simpa using ht, hm⟩
/-- a row that lies whole in a block -/
theorem heap_rowc {w : World} {e : TypeId} {g n c : Nat} {cur vs : List Value} (h : w.heap[g]? = some (.cells cur.toArray e (0, 0))) (hl : cur.length = c) (hn : n ≤ c) (hm : c ≤ maxLen) (hb : n ≤ 17592186044416) (ht : cur.take n = vs) : Row w (.slice (some ⟨g, 0, none⟩) n c) vs := by
  have hv : vs.length = n := by rw [← ht, List.length_take]; omega
  refine own_row (B := 0) (e := e) ⟨by simpa using hv, .inr ⟨g, c, cur.toArray, rfl, Nat.zero_le _, h, hn, hm, by simpa using hl, by simpa using ht⟩⟩ hb

set_option maxHeartbeats 1600000 in
set_option maxRecDepth 100000 in
theorem insertEnd_any (xs : List Nat) (x : Nat) (s v : Value) (w0 w : World) (hl : xs.length ≤ 64) (hs : w.ownsRow w0.heap.size 5 1 s xs.length (xs.map encU)) (hv : w.ownsRow w0.heap.size 5 1 v 1 [encU x]) (X : Ext w0 w) :
    Calls Try.prog 39 #[s, .int .i64 xs.length, v] w fun e w' => ∃ u, e = .returned u ∧ RowOf encU w' u (xs ++ [x]) ∧ Ext w0 w' := by
  have hsrc := Lib.hid ((own_row hv (by omega)).src (fun y hy => by rw [List.mem_singleton.1 hy]; rfl))
  have HO := Lib.hid hs
  rcases hv.2 with ⟨h1, h2⟩ | ⟨k, vc, cur, rfl, _⟩
  · cases h2
  rcases hs.2 with ⟨rfl, h2⟩ | ⟨g, c, cur2, rfl, _⟩
  · rw [h2] at HO ⊢
    have hxn : xs = [] := List.eq_nil_of_length_eq_zero h2
    subst hxn
    clear hs hv h2
    go_enter Try.func39, Try.ntmps39
    go_wp2_with (at_builtin; go_must (refine wp_app rfl rfl ts_ei_u8 rfl HO.out rfl hsrc.out (by simp) (by simp) X.size ?_); intro v' w' hown hgrew)
    go_ret
    exact ⟨_, rfl, by show Row _ _ _; exact own_row (by simpa using hown) (by simp), hgrew.extNew X HO.out (Nat.le_refl _)⟩
  · obtain ⟨cur3, _, _, _, hnc, _⟩ := own_heapc hs
    clear hs hv
    obtain ⟨n, hn⟩ : ∃ n, xs.length = n := ⟨_, rfl⟩
    have HN := Lib.hid hn
    rw [hn] at HO hl hnc ⊢
    clear hn
    go_enter Try.func39, Try.ntmps39
    by_cases hcn : c = n
    · subst hcn
      go_wp2_with (at_builtin; go_must (refine wp_app rfl rfl ts_ei_u8 rfl HO.out rfl hsrc.out (by simp; omega) (by simp; omega) X.size ?_); intro v' w' hown hgrew)
      go_ret
      exact ⟨_, rfl, by show Row _ _ _; exact own_row (by simpa using hown) (by simp; omega), hgrew.extNew X HO.out (Nat.le_refl _)⟩
    · have hcn2 : ¬ (c : Int) = (n : Int) := by omega
      go_wp2_with (at_builtin; go_must (refine wp_app rfl rfl ts_ei_u8 rfl HO.out rfl hsrc.out (by simp; omega) (by simp; omega) X.size ?_); intro v' w' hown hgrew)
      go_ret
      exact ⟨_, rfl, by show Row _ _ _; exact own_row (by simpa using hown) (by simp; omega), hgrew.extNew X HO.out (Nat.le_refl _)⟩

theorem heapc_cell {w : World} {e : TypeId} {g j : Nat} {cur : List Value} {u : Value} (h : w.heap[g]? = some (.cells cur.toArray e (0, 0))) (hj : cur[j]? = some u) : w.cell? ⟨g, j, none⟩ = some u := by
  simp [World.cell?, h, hj]

/-! ### splices -/
theorem splice_get {α : Type} (L : List α) (off : Nat) (cs : List α) (h : off + cs.length ≤ L.length) (j : Nat) : (splice L off cs)[j]? = if j < off then L[j]? else if j < off + cs.length then cs[j - off]? else L[j]? := by
  unfold splice
  have h1 : (L.take off).length = off := by rw [List.length_take]; omega
  by_cases h2 : j < off
  · rw [if_pos h2, List.getElem?_append_left (by omega), List.getElem?_take, if_pos h2]
  · rw [if_neg h2, List.getElem?_append_right (by omega), h1]
    by_cases h3 : j < off + cs.length
    · rw [if_pos h3, List.getElem?_append_left (by omega)]
    · rw [if_neg h3, List.getElem?_append_right (by omega), List.getElem?_drop]
      congr 1; omega
theorem ins_get {α : Type} (xs : List α) (i : Nat) (x : α) (hi : i ≤ xs.length) (j : Nat) : (xs.take i ++ x :: xs.drop i)[j]? = if j < i then xs[j]? else if j = i then some x else xs[j - 1]? := by
  have h1 : (xs.take i).length = i := by rw [List.length_take]; omega
  by_cases h2 : j < i
  · rw [if_pos h2, List.getElem?_append_left (by omega), List.getElem?_take, if_pos h2]
  · rw [if_neg h2, List.getElem?_append_right (by omega), h1]
    by_cases h3 : j = i
    · subst h3; rw [if_pos rfl, Nat.sub_self]; rfl
    · rw [if_neg h3, show j - i = (j - 1 - i) + 1 from by omega, List.getElem?_cons_succ, List.getElem?_drop]
      congr 1; omega
theorem ins_len {α : Type} (xs : List α) (i : Nat) (x : α) (hi : i ≤ xs.length) : (xs.take i ++ x :: xs.drop i).length = xs.length + 1 := by
  rw [List.length_append, List.length_take, List.length_cons, List.length_drop]; omega
theorem take_ext {α : Type} {L ys : List α} {n : Nat} (hy : ys.length = n) (h : ∀ j, j < n → L[j]? = ys[j]?) : L.take n = ys := by
  refine List.ext_getElem? fun j => ?_
  rw [List.getElem?_take]
  split
  · exact h j ‹_›
  · rw [List.getElem?_eq_none (by omega)]
/-- room: first what stands behind the place, then the element -/
theorem splice_room {α : Type} {cur xs : List α} {i : Nat} (x : α) (hi : i < xs.length) (ht : cur.take xs.length = xs) (hc : xs.length < cur.length) :
    (splice (splice cur (i + 1) (xs.drop i)) i [x]).take (xs.length + 1) = xs.take i ++ x :: xs.drop i := by
  have h1 : (xs.drop i).length = xs.length - i := List.length_drop
  have hx : ∀ j, j < xs.length → cur[j]? = xs[j]? := fun j hj => by
    conv => rhs; rw [← ht]
    rw [List.getElem?_take, if_pos hj]
  have hl := length_splice cur (i + 1) (xs.drop i) (by omega)
  refine take_ext (ins_len xs i x (by omega)) fun j hj => ?_
  rw [splice_get _ _ _ (by rw [hl, List.length_singleton]; omega), ins_get xs i x (by omega), List.length_singleton]
  by_cases h2 : j < i
  · rw [if_pos h2, if_pos h2, splice_get _ _ _ (by omega), if_pos (by omega)]
    exact hx j (by omega)
  · rw [if_neg h2, if_neg h2]
    by_cases h3 : j = i
    · subst h3; rw [if_pos (by omega), if_pos rfl, Nat.sub_self]; rfl
    · rw [if_neg (by omega), if_neg h3, splice_get _ _ _ (by omega), if_neg (by omega), if_pos (by omega), List.getElem?_drop]
      congr 1; omega
/-- no room: a new row -/
theorem splice_grow {α : Type} {cur xs : List α} {i : Nat} (x : α) (hi : i < xs.length) (ht : cur.take i = xs.take i) (hc : xs.length < cur.length) :
    (splice (splice cur i [x]) (i + 1) (xs.drop i)).take (xs.length + 1) = xs.take i ++ x :: xs.drop i := by
  have h1 : (xs.drop i).length = xs.length - i := List.length_drop
  have hx : ∀ j, j < i → cur[j]? = xs[j]? := fun j hj => by
    have := congrArg (fun l => l[j]?) ht
    rwa [List.getElem?_take, if_pos hj, List.getElem?_take, if_pos hj] at this
  have hl := length_splice cur i [x] (by rw [List.length_singleton]; omega)
  refine take_ext (ins_len xs i x (by omega)) fun j hj => ?_
  rw [splice_get _ _ _ (by rw [hl]; omega), ins_get xs i x (by omega)]
  by_cases h2 : j < i
  · rw [if_pos (by omega), if_pos h2, splice_get _ _ _ (by rw [List.length_singleton]; omega), if_pos h2]
    exact hx j h2
  · rw [if_neg h2]
    by_cases h3 : j = i
    · subst h3; rw [if_pos (by omega), if_pos rfl, splice_get _ _ _ (by rw [List.length_singleton]; omega), if_neg h2, if_pos (by rw [List.length_singleton]; omega), Nat.sub_self]; rfl
    · rw [if_neg (by omega), if_neg h3, if_pos (by omega), List.getElem?_drop]
      congr 1; omega

/-- a copy into a row of its own, as one step of a drawn region: the world is told -/
theorem step_copy_own {P : Program} {ops : Array Oper} {o : Oper} {a : Act} {w : World} {K : Act → World → Prop} {Q : Exit → Act → World → Prop} {E : Prop} (hgd : o.guard = none) (d s : Operand) (dT sT : TypeId)
    (ho : o.op = .call { callee := .builtin .copy, args := #[d, s], argTypes := #[dT, sT] }) (elem : TypeId) (hu : P.underlying dT = some (.slice elem)) (hsz : (P.info? elem).map (·.size) = some 1)
    (g off dLen dCap : Nat) (ad : Addr) (sLen sCap : Nat) (hd : a.eval d = .slice (some ⟨g, off, none⟩) dLen dCap) (hs : a.eval s = .slice (some ad) sLen sCap)
    (cur : List Value) (t : TypeId) (hg : w.heap[g]? = some (.cells cur.toArray t (0, 0))) (cs : List Value) (hn : cs.length = Nat.min sLen dLen)
    (hsrc : ∀ j v, cs[j]? = some v → w.cell? (ad.add j) = some v) (hfit : off + cs.length ≤ cur.length) (h1 : ∀ v ∈ cs, v.oneCell' = true)
    (h : Hid ((w.setRow g (splice cur off cs).toArray).heap[g]? = some (.cells (splice cur off cs).toArray t (0, 0))) → K (a.put o.dst (goInt cs.length)) (w.setRow g (splice cur off cs).toArray)) :
    if Region.wanted o (yielded ops a.tmps) = true then Oper.wp P o a w K Q else E := by
  have hw : Region.wanted o (yielded ops a.tmps) = true := by simp [Region.wanted, hgd]
  rw [if_pos hw]
  have hrun := run_copy_row (P := P) w dT sT o.type elem g off dLen dCap ad sLen sCap cur.toArray t cs hu hsz hg hn hsrc (by simpa using hfit) h1
  unfold Oper.wp
  simp [execOp, ho, resolve, invoke, builtin, hd, hs, hrun, Result.andThen]
  exact h (show _ = _ from setRow_heap w g _ _ t _ hg)

set_option maxHeartbeats 200000 in
set_option maxRecDepth 100000 in
theorem insertRoom_any (xs : List Nat) (x i g c : Nat) (v : Value) (w0 w : World) (hl : xs.length ≤ 64) (hi : i < xs.length) (hc : xs.length < c) (hs : w.ownsRow w0.heap.size 5 1 (.slice (some ⟨g, 0, none⟩) xs.length c) xs.length (xs.map encU)) (hv : w.ownsRow w0.heap.size 5 1 v 1 [encU x]) (hne : v.ownBlock ≠ some g) (X : Ext w0 w) :
    Calls Try.prog 39 #[.slice (some ⟨g, 0, none⟩) xs.length c, .int .i64 i, v] w fun e w' => ∃ u, e = .returned u ∧ RowOf encU w' u (xs.take i ++ x :: xs.drop i) ∧ Ext w0 w' := by
  rcases hv.2 with ⟨h1, h2⟩ | ⟨k, vc, curv, rfl, hbk, hgk, hck, hmk, hsk, htk⟩
  · cases h2
  obtain ⟨cur, hg, hB, hlc, hnc, htk2, hcm⟩ := own_heapc hs
  have hkg : k ≠ g := fun e => hne (by simp [Value.ownBlock, e])
  clear hs hv hne
  have h4 : ∀ lb cb, (callFunc 41 #[.slice (some ⟨k, 0, none⟩) 1 vc, .slice (some ⟨g, i + 1, none⟩) lb cb]).run Try.prog w = .ok (.value (.bool false)) w := fun lb cb => by
    have hsa : w.shape? k = some (5, curv.size) := by simp [World.shape?, hgk]
    have hsb : w.shape? g = some (5, cur.length) := by simp [World.shape?, hg]
    rw [run_callFunc_extern Try.func41 (by kernel_rfl) (by kernel_rfl) (by kernel_rfl) (e := Extern.SlicesOverlaps.overlaps #[40, 40] #[4]) (by kernel_rfl),
      Lib.run_overlaps_apart w 40 4 5 Try.underlying40 1 (fun w => by kernel_rfl) ⟨k, 0, none⟩ ⟨g, i + 1, none⟩ 1 vc lb cb hkg 5 5 curv.size cur.length hsa hsb (by omega) (by simp [World.frozen?, hgk]) (by simp [World.frozen?, hgk])]
    rfl
  obtain ⟨n, hn⟩ : ∃ n, xs.length = n := ⟨_, rfl⟩
  have HN := Lib.hid hn
  rw [hn] at hl hi hc hnc htk2 ⊢
  clear hn
  have b1 : ¬ (i : Int) = (n : Int) := by omega
  have b2 : (n : Int) + 1 ≤ (c : Int) := by omega
  have hw1 : IntKind.i64.wrap ((i : Int) + 1) = ((i + 1 : Nat) : Int) := by rw [IntKind.wrap_i64]; omega
  have b3 : ¬ c = i := by omega
  have b4 : ¬ c = i + 1 := by omega
  go_enter Try.func39, Try.ntmps39
  go_wp2_with (simp only [h4])
  have hcl : ((xs.drop i).map encU).length = n - i := by rw [List.length_map, List.length_drop, HN.out]
  have A1 : Hid (((xs.drop i).map encU).length = Nat.min (n + 1 - i) (n - i)) := by
    show _ = min _ _
    rw [hcl]; omega
  have A2 : Hid (∀ j u, ((xs.drop i).map encU)[j]? = some u → w.cell? ((⟨g, i, none⟩ : Addr).add j) = some u) := by
    show ∀ j u, _
    intro j u hj
    have hj2 : j < n - i := by have := (List.getElem?_eq_some_iff.1 hj).1; omega
    rw [Addr.add_lit]
    refine heapc_cell hg ?_
    rw [List.getElem?_map, List.getElem?_drop] at hj
    have e : (cur.take n)[i + j]? = (xs.map encU)[i + j]? := by rw [htk2]
    rw [List.getElem?_take, if_pos (by omega), List.getElem?_map] at e
    rw [e]; exact hj
  have A3 : Hid (i + 1 + ((xs.drop i).map encU).length ≤ cur.length) := by show _ ≤ _; rw [hcl]; omega
  have A4 : Hid (∀ u ∈ (xs.drop i).map encU, u.oneCell' = true) := by
    show ∀ u ∈ _, _
    intro u hu
    obtain ⟨y, _, rfl⟩ := List.mem_map.1 hu
    rfl
  obtain ⟨D, hD⟩ : ∃ D, (xs.drop i).map encU = D := ⟨_, rfl⟩
  have HD := Lib.hid hD
  rw [hD] at A1 A2 A3 A4
  clear hD hcl
  have b5 : (0 : Int) ≤ (i : Int) + 1 := by omega
  have b6 : i ≤ n := by omega
  have b7 : (i : Int) ≤ (n : Int) + 1 := by omega
  go_region_law (refine step_copy_own (o := ⟨some 77, _, _, _, _, _⟩) rfl (.tmp 73) (.tmp 76) 40 40 rfl 5 Try.underlying40 (by kernel_rfl) g (i + 1) (n - i) (c - (i + 1)) ⟨g, i, none⟩ (n + 1 - i) (c - i) (by go_simp) (by go_simp) cur 5 hg D A1.out A2.out A3.out A4.out ?_; intro hg4)
  obtain ⟨W4, hW4⟩ : ∃ W4, w.drew.setRow g (splice cur (i + 1) D).toArray = W4 := ⟨_, rfl⟩
  rw [hW4] at hg4 ⊢
  have X4 : Ext w0 W4 := by
    rw [← hW4]
    exact below_setRow (Ext.drew X) hB _
  have B2 : Hid (∀ j u, [encU x][j]? = some u → W4.cell? ((⟨k, 0, none⟩ : Addr).add j) = some u) := by
    show ∀ j u, _
    intro j u hj
    rw [List.getElem?_singleton] at hj
    split at hj
    · rename_i h0
      subst h0
      obtain rfl := Option.some.inj hj
      rw [Addr.add_lit]
      refine heapc_cell (cur := curv.toList) (e := 5) ?_ ?_
      · rw [← hW4, setRow_other _ _ _ _ hkg]; show w.heap[k]? = _; simpa using hgk
      · have e : (curv.toList.take (1 * 1))[0]? = [encU x][0]? := by rw [htk]
        rw [List.getElem?_take, if_pos (by omega)] at e
        exact e
    · cases hj
  have hDl : D.length = n - i := by rw [← HD.out, List.length_map, List.length_drop, HN.out]
  have hsl : (splice cur (i + 1) D).length = c := by rw [length_splice _ _ _ (by omega)]; exact hlc
  have B1 : Hid ([encU x].length = Nat.min 1 (n + 1 - i)) := by show 1 = min 1 _; omega
  have B3 : Hid (i + [encU x].length ≤ (splice cur (i + 1) D).length) := by show _ ≤ _; rw [hsl, List.length_singleton]; omega
  have B4 : Hid (∀ u ∈ [encU x], u.oneCell' = true) := by
    show ∀ u ∈ _, _
    intro u hu
    rw [List.mem_singleton.1 hu]; rfl
  have hfin : (splice (splice cur (i + 1) D) i [encU x]).take (n + 1) = (xs.take i ++ x :: xs.drop i).map encU := by
    have h := splice_room (xs := xs.map encU) (cur := cur) (i := i) (encU x) (by simpa [HN.out] using hi) (by rw [List.length_map, HN.out]; exact htk2) (by rw [List.length_map, HN.out]; omega)
    rw [List.length_map, HN.out, ← List.map_drop, HD.out] at h
    rw [h, List.map_append, List.map_cons, List.map_take, HD.out]
  have HF := Lib.hid hfin
  have HSL := Lib.hid hsl
  obtain ⟨C, hC⟩ : ∃ C, splice cur (i + 1) D = C := ⟨_, rfl⟩
  rw [hC] at HF HSL B3 hg4
  clear hsl hDl hfin hW4 hg hC A1 A2 A3 A4 hlc htk2 htk hsk h4 hgk hck hmk hbk
  have hrun : ∀ ty, (Builtin.copy_ #[40, 40] ty #[.slice (some ⟨g, i, none⟩) (n + 1 - i) (c - i), .slice (some ⟨k, 0, none⟩) 1 vc]).run Try.prog W4 = .ok (goInt [encU x].length) (W4.setRow g (C.take i ++ ([encU x] ++ C.drop (i + [encU x].length))).toArray) := fun ty => by
    have h := run_copy_row (P := Try.prog) W4 40 40 ty 5 g i (n + 1 - i) (c - i) ⟨k, 0, none⟩ 1 vc C.toArray 5 [encU x] Try.underlying40 (by kernel_rfl) hg4.out B1.out B2.out (by simpa using B3.out) B4.out
    simpa using h
  obtain ⟨W5, hW5⟩ : ∃ W5, W4.setRow g (C.take i ++ ([encU x] ++ C.drop (i + [encU x].length))).toArray = W5 := ⟨_, rfl⟩
  rw [hW5] at hrun
  have hg5 : Hid (W5.heap[g]? = some (.cells (splice C i [encU x]).toArray 5 (0, 0))) := by
    show _ = _
    rw [← hW5]
    exact setRow_heap W4 g _ _ _ _ hg4.out
  have hb5 : Ext w0 W5 := by rw [← hW5]; exact below_setRow X4 hB _
  clear hW5
  go_wp2_with fail
  go_ret
  refine ⟨_, rfl, ?_, hb5⟩
  show Row _ _ _
  refine heap_rowc hg5.out ?_ (by omega) hcm (by omega) HF.out
  rw [length_splice _ _ _ B3.out]
  exact HSL.out

/-- append of zeros where there is no room -/
theorem wp_appzs {P : Program} {rest : List Oper} {oa : Array Oper} {o : Oper} {a : Act} {Q : Exit → Act → World → Prop} {w : World} (hg : o.guard = none) {s x : Operand} {t tn e : TypeId} {z : Value} {bytes : Nat} {kn kq : IntKind}
    (ho : o.op = .call { callee := .builtin .append, args := #[s, x], argTypes := #[t, tn] }) (ei : EI P t e z 1 bytes) (htn : P.underlying tn = some (.int kn)) {g i c : Nat} (hs : a.eval s = .slice (some ⟨g, 0, none⟩) i c) {olds : List Value} (hol : olds.length = i)
    (hold : ∀ j v, olds[j]? = some v → w.cell? ⟨g, j, none⟩ = some v) {K : Int} (hx : a.eval x = .int kq K) {k : Nat} (hK : K = (k : Int))
    (h0 : 0 < k) (hc : c < i + k) (hlen : i + k ≤ 17592186044416) (hby : (i + k) * bytes ≤ 140737488355328)
    (h : ∀ cap (cur : List Value), i + k ≤ cap → cap ≤ maxLen → cur.length = cap → cur.take i = olds → wpList P oa Q rest (a.put o.dst (.slice (some ⟨w.heap.size, 0, none⟩) (i + k) cap)) (w.drew.alloc (.cells cur.toArray e))) : wpList P oa Q (o :: rest) a w := by
  refine wpList_plain hg fun K' hK' => ?_
  obtain ⟨inf, hi, hz, hs1, hb⟩ := ei.info
  have hz1 := ei.zc
  subst hb
  subst hK
  have hb2 : k * inf.bytes ≤ 281474976710656 := by
    have := Nat.mul_le_mul_right inf.bytes (show k ≤ i + k by omega)
    omega
  have hr := Lib.run_append_grow_zeros (P := P) w t tn o.type e inf z kq kn ei.und htn hi hz (some ⟨g, 0, none⟩) i c olds (by rw [hs1]; exact run_firstCells_some (w := w.drew) 1 i ⟨g, 0, none⟩ i c olds (by omega) (fun j v hj => by rw [Addr.add_lit, Nat.zero_add]; exact hold j v hj)) k h0 (by omega) hc (by omega) hb2 (growslice_fits (by omega) hby)
  unfold Oper.wp execOp
  simp only [ho, resolve, invoke, builtin, Sem.run_bind, Sem.run_pure, Result.andThen_ok, List.map_toArray, List.map_cons, List.map_nil, hs, hx, hr]
  have hge := grownCap_ge w (i + k) c e
  have h1 := h (grownCap w (i + k) c e) (olds ++ (Builtin.zeroCells z.cells k ++ Builtin.zeroCells z.cells (grownCap w (i + k) c e - (i + k))).toList) hge (grownCap_le_maxLen _ _ _ _ (by unfold maxLen; omega)) (by
    simp [Builtin.zeroCells, hz1, hol]
    omega) (by rw [← hol]; simp)
  refine hK' _ _ ?_
  have e : olds.toArray ++ Builtin.zeroCells z.cells k ++ Builtin.zeroCells z.cells (grownCap w (i + k) c e - (i + k)) = (olds ++ (Builtin.zeroCells z.cells k ++ Builtin.zeroCells z.cells (grownCap w (i + k) c e - (i + k))).toList).toArray := by
    apply Array.ext'
    simp
  rw [e]
  exact h1

set_option maxHeartbeats 800000 in
set_option maxRecDepth 100000 in
theorem insertGrow_any (xs : List Nat) (x i g : Nat) (v : Value) (w0 w : World) (hl : xs.length ≤ 64) (hi : i < xs.length) (hs : w.ownsRow w0.heap.size 5 1 (.slice (some ⟨g, 0, none⟩) xs.length xs.length) xs.length (xs.map encU)) (hv : w.ownsRow w0.heap.size 5 1 v 1 [encU x]) (X : Ext w0 w) :
    Calls Try.prog 39 #[.slice (some ⟨g, 0, none⟩) xs.length xs.length, .int .i64 i, v] w fun e w' => ∃ u, e = .returned u ∧ RowOf encU w' u (xs.take i ++ x :: xs.drop i) ∧ Ext w0 w' := by
  rcases hv.2 with ⟨h1, h2⟩ | ⟨k, vc, curv, rfl, hbk, hgk, hck, hmk, hsk, htk⟩
  · cases h2
  obtain ⟨cur, hg, hB, hlc, hnc, htk2, hcm⟩ := own_heapc hs
  have hgl : g < w.heap.size := (Array.getElem?_eq_some_iff.1 hg).1
  have hkl : k < w.heap.size := (Array.getElem?_eq_some_iff.1 hgk).1
  clear hs hv
  obtain ⟨n, hn⟩ : ∃ n, xs.length = n := ⟨_, rfl⟩
  have HN := Lib.hid hn
  rw [hn] at hl hi hlc hnc htk2 hcm ⊢
  clear hn
  have hcx : cur = xs.map encU := by rw [← htk2, List.take_of_length_le (by omega)]
  have b1 : ¬ (i : Int) = (n : Int) := by omega
  have b2 : ¬ (n : Int) + 1 ≤ (n : Int) := by omega
  have hw1 : IntKind.i64.wrap ((i : Int) + 1) = ((i + 1 : Nat) : Int) := by rw [IntKind.wrap_i64]; omega
  have b3 : ¬ n = i := by omega
  have b6 : i ≤ n := by omega
  have A1 : Hid (((xs.take i).map encU).length = i) := by show _ = _; rw [List.length_map, List.length_take, HN.out]; omega
  have A2 : Hid (∀ j u, ((xs.take i).map encU)[j]? = some u → w.cell? ⟨g, j, none⟩ = some u) := by
    show ∀ j u, _
    intro j u hj
    refine heapc_cell hg ?_
    rw [hcx, List.getElem?_map]
    rw [List.getElem?_map, List.getElem?_take] at hj
    split at hj
    · exact hj
    · simp at hj
  obtain ⟨OL, hOL⟩ : ∃ OL, (xs.take i).map encU = OL := ⟨_, rfl⟩
  have HOL := Lib.hid hOL
  rw [hOL] at A1 A2
  clear hOL
  have A3 : ((n : Int) + 1 - (i : Int)) = ((n + 1 - i : Nat) : Int) := by omega
  go_enter Try.func39, Try.ntmps39
  have B1 : Hid ([encU x].length = Nat.min 1 (n + 1 - i)) := by show 1 = min 1 _; omega
  have B4 : Hid (∀ u ∈ [encU x], u.oneCell' = true) := by
    show ∀ u ∈ _, _
    intro u hu
    rw [List.mem_singleton.1 hu]; rfl
  have hDl : ((xs.drop i).map encU).length = n - i := by rw [List.length_map, List.length_drop, HN.out]
  have C1 : Hid (((xs.drop i).map encU).length = Nat.min (n - i) (n - i)) := by show _ = min _ _; rw [hDl]; omega
  have C4 : Hid (∀ u ∈ (xs.drop i).map encU, u.oneCell' = true) := by
    show ∀ u ∈ _, _
    intro u hu
    obtain ⟨y, _, rfl⟩ := List.mem_map.1 hu
    rfl
  have HFIN : Hid (∀ cr : List Value, cr.take i = OL → n < cr.length → (splice (splice cr i [encU x]) (i + 1) ((xs.drop i).map encU)).take (n + 1) = (xs.take i ++ x :: xs.drop i).map encU) := by
    show ∀ cr : List Value, _
    intro cr h1 h2
    have h := splice_grow (xs := xs.map encU) (cur := cr) (i := i) (encU x) (by simpa [HN.out] using hi) (by rw [h1, ← HOL.out, List.map_take]) (by rw [List.length_map, HN.out]; omega)
    rw [List.length_map, HN.out, ← List.map_drop] at h
    rw [h, List.map_append, List.map_cons, List.map_take]
  obtain ⟨D, hD⟩ : ∃ D, (xs.drop i).map encU = D := ⟨_, rfl⟩
  have HD := Lib.hid hD
  rw [hD] at C1 C4 HFIN hDl
  clear hD
  have hkw : k ≠ w.heap.size := by omega
  have hgw : g ≠ w.heap.size := by omega
  have hin : i + (n + 1 - i) = n + 1 := by omega
  have b5 : (0 : Int) ≤ (i : Int) + 1 := by omega
  have b7 : (i : Int) ≤ (n : Int) := by omega
  go_upto_region 10 with (first | (at_builtin; go_must (refine wp_appzs rfl rfl ts_ei_u8 Try.underlying3 rfl A1.out A2.out rfl (k := n + 1 - i) (by omega) (by omega) (by omega) (by omega) (by omega) ?_); intro cap cr hcap hcm2 hcl hct))
  try rw [hin] at hcap
  clear hin
  obtain ⟨G, hG⟩ : ∃ G, w.heap.size = G := ⟨_, rfl⟩
  obtain ⟨W1, hW1⟩ : ∃ W1, w.drew.alloc (.cells cr.toArray 5) = W1 := ⟨_, rfl⟩
  have X1 : Ext w W1 := by rw [← hW1]; exact (Ext.refl w).drew.alloc _
  have g1 : W1.heap[G]? = some (.cells cr.toArray 5 (0, 0)) := by rw [← hW1, ← hG]; exact Array.getElem?_push_size
  have B2 : ∀ j u, [encU x][j]? = some u → W1.cell? ((⟨k, 0, none⟩ : Addr).add j) = some u := by
    intro j u hj
    rw [List.getElem?_singleton] at hj
    split at hj
    · rename_i h0
      subst h0
      obtain rfl := Option.some.inj hj
      rw [Addr.add_lit]
      refine X1.cell (heapc_cell (cur := curv.toList) (e := 5) (by simpa using hgk) ?_)
      have e : (curv.toList.take (1 * 1))[0]? = [encU x][0]? := by rw [htk]
      rw [List.getElem?_take, if_pos (by omega)] at e
      exact e
    · cases hj
  have hrun : ∀ ty, (Builtin.copy_ #[40, 40] ty #[.slice (some ⟨G, i, none⟩) (n + 1 - i) (cap - i), .slice (some ⟨k, 0, none⟩) 1 vc]).run Try.prog W1 = .ok (goInt [encU x].length) (W1.setRow G (cr.take i ++ ([encU x] ++ cr.drop (i + [encU x].length))).toArray) := fun ty => by
    have h := run_copy_row (P := Try.prog) W1 40 40 ty 5 G i (n + 1 - i) (cap - i) ⟨k, 0, none⟩ 1 vc cr.toArray 5 [encU x] Try.underlying40 (by kernel_rfl) g1 B1.out B2 (by rw [List.length_singleton, List.size_toArray]; omega) B4.out
    simpa using h
  obtain ⟨W2, hW2⟩ : ∃ W2, W1.setRow G (cr.take i ++ ([encU x] ++ cr.drop (i + [encU x].length))).toArray = W2 := ⟨_, rfl⟩
  rw [hW2] at hrun
  have g2 : W2.heap[G]? = some (.cells (splice cr i [encU x]).toArray 5 (0, 0)) := by rw [← hW2]; exact setRow_heap W1 G _ _ _ _ g1
  have X2 : Ext w0 W2 := by rw [← hW2]; exact below_setRow (X.trans X1) (by rw [← hG]; exact X.size) _
  have C2 : ∀ j u, D[j]? = some u → W2.cell? ((⟨g, i, none⟩ : Addr).add j) = some u := by
    intro j u hj
    rw [Addr.add_lit]
    refine heapc_cell (cur := cur) (e := 5) ?_ ?_
    · rw [← hW2, setRow_other _ _ _ _ (by rw [← hG]; exact hgw), X1.block g hgl]; exact hg
    · rw [hcx, List.getElem?_map]
      rw [← HD.out, List.getElem?_map, List.getElem?_drop] at hj
      exact hj
  have HC2 := Lib.hid C2
  have Hg2 := Lib.hid g2
  have HX2 := Lib.hid X2
  have hf := HFIN.out cr hct (by omega)
  have hsl : (splice cr i [encU x]).length = cap := by rw [length_splice _ _ _ (by rw [List.length_singleton]; omega)]; exact hcl
  obtain ⟨C, hC⟩ : ∃ C, splice cr i [encU x] = C := ⟨_, rfl⟩
  rw [hC] at hf hsl Hg2
  have HF := Lib.hid hf
  have HSL := Lib.hid hsl
  have hBG : w0.heap.size ≤ G := by rw [← hG]; exact X.size
  simp only [hG]
  have hW1' : (w.alloc (.cells cr.toArray 5)).drew = W1 := hW1
  rw [hW1']
  clear hW1'
  have b8 : ¬ cap = i := by omega
  have b9 : ¬ cap = i + 1 := by omega
  have c1 : (i : Int) + 1 ≤ (n : Int) + 1 := by omega
  clear hW1 hW2 hC X1 g1 B2 g2 X2 C2 hf hsl hct hcl hG A2 HFIN hgk hg hgl hkl htk hsk hcx htk2 hlc
  go_wp2_with fail
  go_region_law (refine step_copy_splice (o := ⟨some 54, _, _, _, _, _⟩) rfl (.tmp 50) (.tmp 53) 40 40 rfl 5 Try.underlying40 (by kernel_rfl) (some ⟨G, i + 1, none⟩) (some ⟨g, i, none⟩) (n - i) (cap - (i + 1)) (n - i) (n - i) (by go_simp) (by go_simp) G (i + 1) C 5 Hg2.out D C1.out (fun _ => ⟨rfl, _, rfl, HC2.out⟩) (by have := HSL.out; omega) C4.out w0.heap.size w0 (Ext.drew HX2.out) hBG ?_; intro w5 hg5 hb5)
  go_wp2_with fail
  go_ret
  refine ⟨_, rfl, ?_, hb5⟩
  show Row _ _ _
  refine heap_rowc hg5.out ?_ (by omega) hcm2 (by omega) HF.out
  rw [length_splice _ _ _ (by have := HSL.out; omega)]
  exact HSL.out
end Go.Proofs.Ytnmcljjfepngeaa
