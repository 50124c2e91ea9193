/- the best five: plain words; worlds that differ in two blocks; the walk of Best's closure -/
import Derived.Test.YtllhgkacbpgemaaRanks11
namespace Go.Proofs.Ytllhgkacbpgemaa
open Go.RowKit
set_option linter.unusedVariables false

/-- the world behind: what was there is unturned, but for two blocks -/
structure Ext2 (p q : Nat) (w w' : World) : Prop where
  os : w'.os = w.os
  tape : w'.tape = w.tape
  output : w'.output = w.output
  size : w.heap.size ≤ w'.heap.size
  block : ∀ k, k < w.heap.size → k ≠ p → k ≠ q → w'.heap[k]? = w.heap[k]?

theorem Ext2.of {p q : Nat} {w w' : World} (h : Ext w w') : Ext2 p q w w' := ⟨h.os, h.tape, h.output, h.size, fun k hk _ _ => h.block k hk⟩
theorem Ext2.refl (p q : Nat) (w : World) : Ext2 p q w w := Ext2.of (Ext.refl w)
theorem Ext2.trans {p q : Nat} {a b c : World} (h : Ext2 p q a b) (k : Ext2 p q b c) : Ext2 p q a c :=
  ⟨k.os.trans h.os, k.tape.trans h.tape, k.output.trans h.output, Nat.le_trans h.size k.size, fun i hi hp hq => (k.block i (Nat.lt_of_lt_of_le hi h.size) hp hq).trans (h.block i hi hp hq)⟩
theorem Ext2.setCell {p q : Nat} {a b : World} (h : Ext2 p q a b) {x : Addr} (hx : x.block = p ∨ x.block = q) (u : Value) : Ext2 p q a (b.setCell x u) := by
  refine ⟨h.os, h.tape, h.output, ?_, fun k hk hp hq => ?_⟩
  · have := h.size; simpa [World.setCell] using this
  · rw [← h.block k hk hp hq]
    exact Below.heap_setCell b x u k (by rcases hx with e | e <;> rw [e] <;> intro h2 <;> subst h2 <;> simp at hp hq)
theorem Ext2.ext {p q : Nat} {w0 w w' : World} (h : Ext2 p q w w') (he : Ext w0 w) (hp : w0.heap.size ≤ p) (hq : w0.heap.size ≤ q) : Ext w0 w' :=
  ⟨h.os.trans he.os, h.tape.trans he.tape, h.output.trans he.output, Nat.le_trans he.size h.size, fun k hk => (h.block k (Nat.lt_of_lt_of_le hk he.size) (by omega) (by omega)).trans (he.block k hk)⟩
theorem own_ext2 {p q : Nat} {w w' : World} {B : Nat} {e : TypeId} {sz : Nat} {v : Value} {n : Nat} {vs : List Value} (h : w.ownsRow B e sz v n vs) (he : Ext2 p q w w') (hp : p < B) (hq : q < B) : w'.ownsRow B e sz v n vs := by
  refine ⟨h.1, ?_⟩
  rcases h.2 with h2 | ⟨g, cap, cur, r1, r2, r3, r4⟩
  · exact .inl h2
  · exact .inr ⟨g, cap, cur, r1, r2, by rw [he.block g (Array.getElem?_eq_some_iff.1 r3).1 (by omega) (by omega)]; exact r3, r4⟩

/-- the values of places of a list -/
def atP (l : List Int) (pl : List Nat) : List Int := pl.map fun p => l.getD p 0
def updP (l : List Int) (st : List Nat × Int) (pl : List Nat) : List Nat × Int := if st.2 < valueR (atP l pl) then (pl, valueR (atP l pl)) else st
/-- all sets of five places, as the search finds them -/
def combos : Nat → Nat → List Nat → List (List Nat)
  | 0, _, _ => []
  | k + 1, a, pl => (if pl.length = 4 then [pl ++ [a]] else combos k (a + 1) (pl ++ [a])) ++ combos k (a + 1) pl
def walkF (l : List Int) (k a : Nat) (pl : List Nat) (st : List Nat × Int) : List Nat × Int :=
  if pl.length = 5 then updP l st pl else (combos k a pl).foldl (updP l) st

theorem walkF_step (l : List Int) (k a : Nat) (pl : List Nat) (st : List Nat × Int) (h : pl.length < 5) :
    (combos (k + 1) a pl).foldl (updP l) st = (combos k (a + 1) pl).foldl (updP l) (walkF l k (a + 1) (pl ++ [a]) st) := by
  rw [combos, List.foldl_append]
  congr 1
  unfold walkF
  by_cases h4 : pl.length = 4
  · rw [if_pos h4, if_pos (by simp [h4])]; rfl
  · rw [if_neg h4, if_neg (by simp; omega)]

/-- the world of the search: the four variables -/
structure StB (w0 W : World) (bl bb bm bw B : Nat) (lv : Value) (st : List Nat × Int) : Prop where
  base : Ext w0 W
  cl : W.cell? ⟨bl, 0, none⟩ = some lv
  cm : W.cell? ⟨bm, 0, none⟩ = some (.int .i64 st.2)
  cb : ∃ bv, W.cell? ⟨bb, 0, none⟩ = some bv ∧ W.ownsRow B 3 1 bv st.1.length (st.1.map encN)
  cw : W.cell? ⟨bw, 0, none⟩ = some (.func (.func 71) #[] #[.pointer (some ⟨bl, 0, none⟩), .pointer (some ⟨bm, 0, none⟩), .pointer (some ⟨bb, 0, none⟩), .pointer (some ⟨bw, 0, none⟩)])
  fm : W.frozen? ⟨bm, 0, none⟩ = false
  fb : W.frozen? ⟨bb, 0, none⟩ = false
  sz : B ≤ W.heap.size

theorem frozen_ext {W W' : World} (h : Ext W W') {p : Addr} (hp : p.block < W.heap.size) : W'.frozen? p = W.frozen? p := Below.frozen h hp

theorem StB.ext {w0 W W' : World} {bl bb bm bw B : Nat} {lv : Value} {st : List Nat × Int} (h : StB w0 W bl bb bm bw B lv st) (he : Ext W W') (hm : bm < B) (hb : bb < B) : StB w0 W' bl bb bm bw B lv st := by
  obtain ⟨bv, h1, h2⟩ := h.cb
  have hs := h.sz
  exact ⟨h.base.trans he, he.cell h.cl, he.cell h.cm, ⟨bv, he.cell h1, own_ext h2 he⟩, he.cell h.cw, (frozen_ext he (by show bm < _; omega)).trans h.fm, (frozen_ext he (by show bb < _; omega)).trans h.fb, Nat.le_trans h.sz he.size⟩

theorem StB.put {w0 W : World} {bl bb bm bw B : Nat} {lv : Value} {st : List Nat × Int} (h : StB w0 W bl bb bm bw B lv st) {bv : Value} {pl : List Nat} (q : Int) (hb : W.ownsRow B 3 1 bv pl.length (pl.map encN))
    (h1 : bl ≠ bb) (h2 : bl ≠ bm) (h3 : bb ≠ bm) (h4 : bw ≠ bb) (h5 : bw ≠ bm) (h6 : w0.heap.size ≤ bb) (h7 : w0.heap.size ≤ bm) (hm : bm < B) (hbb : bb < B) :
    StB w0 ((W.setCell ⟨bb, 0, none⟩ bv).setCell ⟨bm, 0, none⟩ (.int .i64 q)) bl bb bm bw B lv (pl, q) := by
  obtain ⟨ov, o1, o2⟩ := h.cb
  have n1 : ∀ {x y : Nat}, x ≠ y → (⟨x, 0, none⟩ : Addr) ≠ ⟨y, 0, none⟩ := fun hxy e => hxy (by injection e)
  have hE : Ext2 bm bb W ((W.setCell ⟨bb, 0, none⟩ bv).setCell ⟨bm, 0, none⟩ (.int .i64 q)) := ((Ext2.refl bm bb W).setCell (.inr rfl) _).setCell (.inl rfl) _
  refine ⟨(h.base.setCell (by exact h6) _).setCell (by exact h7) _, ?_, ?_, ⟨bv, ?_, own_ext2 hb hE hm hbb⟩, ?_, ?_, ?_, ?_⟩
  · rw [World.cell?_setCell_other _ _ _ _ (n1 h2.symm), World.cell?_setCell_other _ _ _ _ (n1 h1.symm)]; exact h.cl
  · have : (W.setCell ⟨bb, 0, none⟩ bv).cell? ⟨bm, 0, none⟩ = some (.int .i64 st.2) := by rw [World.cell?_setCell_other _ _ _ _ (n1 h3)]; exact h.cm
    exact World.cell?_setCell_same _ _ _ this
  · rw [World.cell?_setCell_other _ _ _ _ (n1 h3.symm)]
    exact World.cell?_setCell_same _ _ _ o1
  · rw [World.cell?_setCell_other _ _ _ _ (n1 h5.symm), World.cell?_setCell_other _ _ _ _ (n1 h4.symm)]; exact h.cw
  · simp; exact h.fm
  · simp; exact h.fb
  · have := h.sz; simpa [World.setCell] using this

theorem atP_ok {l : List Int} {pl : List Nat} (hr : ∀ x ∈ l, 0 ≤ x ∧ x ≤ 51) (hn : l.Nodup) (hp : ∀ p ∈ pl, p < l.length) (hd : pl.Nodup) (h5 : pl.length = 5) : HandOk (atP l pl) := by
  have hg : ∀ p (h : p < l.length), l.getD p 0 = l[p] := fun p h => by rw [List.getD_eq_getElem?_getD, List.getElem?_eq_getElem h]; rfl
  refine ⟨by simpa [atP] using h5, fun x hx => ?_, ?_⟩
  · obtain ⟨p, h1, rfl⟩ := List.mem_map.1 hx
    rw [hg p (hp p h1)]
    exact hr _ (List.getElem_mem _)
  · unfold atP
    rw [List.Nodup, List.pairwise_map]
    refine List.Pairwise.imp_of_mem (R := (· ≠ ·)) ?_ hd
    intro x y hx hy hxy e
    rw [hg x (hp x hx), hg y (hp y hy)] at e
    rcases Nat.lt_trichotomy x y with h | h | h
    · exact List.pairwise_iff_getElem.1 hn x y (hp x hx) (hp y hy) h e
    · exact hxy h
    · exact List.pairwise_iff_getElem.1 hn y x (hp y hy) (hp x hx) h e.symm

theorem natI_enc (l : List Nat) : (natI l).map (Value.int .i64) = l.map encN := by rw [natI, List.map_map]; rfl
theorem natI_len (l : List Nat) : (natI l).length = l.length := by simp [natI]

/-- what the search's world is about -/
structure BestCtx (w0 : World) (bl bb bm bw B : Nat) (lv : Value) (l : List Int) : Prop where
  row : Ints w0 lv l
  len : l.length ≤ 9
  rng : ∀ x ∈ l, 0 ≤ x ∧ x ≤ 51
  nd : l.Nodup
  h1 : bl ≠ bb
  h2 : bl ≠ bm
  h3 : bb ≠ bm
  h4 : bw ≠ bb
  h5 : bw ≠ bm
  g1 : w0.heap.size ≤ bl
  g2 : w0.heap.size ≤ bb
  g3 : w0.heap.size ≤ bm
  l1 : bl < B
  l2 : bb < B
  l3 : bm < B
  l4 : bw < B

theorem atP_snoc (l : List Int) (pl : List Nat) (p : Nat) : atP l (pl ++ [p]) = atP l pl ++ [l.getD p 0] := by simp [atP]

set_option maxHeartbeats 3200000 in
set_option maxRecDepth 100000 in
theorem walk5_any (w0 : World) (bl bb bm bw B : Nat) (lv : Value) (l : List Int) (C : BestCtx w0 bl bb bm bw B lv l) (a : Nat) (ai : Int) (pl : List Nat) (pv : Value) (W : World) (st : List Nat × Int) (hal : a ≤ l.length)
    (hpa : ∀ p ∈ pl, p < a) (hpn : pl.Nodup) (h5 : pl.length = 5) (hO : W.ownsRow B 3 1 pv pl.length (pl.map encN)) (hS : StB w0 W bl bb bm bw B lv st) :
    Calls Try.prog 71 #[.int .i64 ai, pv, .pointer (some ⟨bl, 0, none⟩), .pointer (some ⟨bm, 0, none⟩), .pointer (some ⟨bb, 0, none⟩), .pointer (some ⟨bw, 0, none⟩)] W fun e W' =>
      e = .returned (.tuple #[]) ∧ StB w0 W' bl bb bm bw B lv (updP l st pl) ∧ Ext2 bm bb W W' := by
  have hh := atP_ok C.rng C.nd (fun p h => Nat.lt_of_lt_of_le (hpa p h) hal) hpn h5
  obtain ⟨q, hq⟩ : ∃ q, Hid (valueR (atP l pl) = q) := ⟨_, rfl⟩
  have HV := Lib.hid (fun (W' : World) (v : Value) (hv : Ints W' v (atP l pl)) => valueOf_any v (atP l pl) W' hv hh.rng (by rw [hh.len]; omega) (hand_law hh).2.1 q (by show _ = _; rw [(hand_law hh).2.2.2]; exact hq.out))
  have hrow : Ints W pv (natI pl) := rowN_ints (own_rowOf (enc := encN) (xs := pl) hO (by omega))
  have HCL := Lib.hid (fun (W' : World) (hW : Ext W W') => clone_ints pv (natI pl) W' (hrow.ext hW))
  have hst : updP l st pl = if st.2 < q then (pl, q) else st := by rw [updP, hq.out]
  obtain ⟨pao, pc, hpe, _, hpc⟩ := (own_rowOf (enc := encN) (xs := pl) hO (by omega)).open
  rw [h5] at hpe
  subst hpe
  obtain ⟨lao, lc, hle, _, hlc⟩ := C.row.open
  subst hle
  have HLC := Lib.hid hlc
  have HPC := Lib.hid hpc
  have HS := Lib.hid hS
  have HST := Lib.hid hst
  have HC := Lib.hid C
  have HH := Lib.hid hh
  have HP5 := Lib.hid h5
  have HPA := Lib.hid (fun p h => Nat.lt_of_lt_of_le (hpa p h) hal)
  have cl := hS.cl
  have hl9 := C.len
  clear hq hh hrow hst hO hS hlc hpc C h5 hpa hpn
  go_enter Try.func71, Try.ntmps71
  go_wp2_with fail
  go_loopw [8, 18] (fun v i wr => ∃ (j : Nat), j ≤ 5 ∧ i = .int .i64 j ∧ Ext W wr ∧ wr.ownsRow W.heap.size 3 1 v j ((atP l (pl.take j)).map (Value.int .i64))) (fun _ i _ => 5 - (intOf i).toNat)
  case atStart => exact ⟨0, Nat.zero_le _, rfl, Ext.refl _, World.ownsRow_nil _ _ _ _⟩
  case round =>
    obtain ⟨j, hj, rfl, HX, HO⟩ := hrel
    have HOU := Lib.hid HO
    have hsz := HX.size
    clear HO
    by_cases hlt : j < 5
    · obtain ⟨p, x1, _, x3⟩ := get_lt (xs := pl) (k := j) (by rw [HP5.out]; exact hlt)
      obtain ⟨pb, poff, rfl, cp0⟩ := HPC.out.at x1
      have cp := HX.cell cp0
      have hpl := HPA.out p (List.mem_of_getElem? x1.out)
      obtain ⟨y, y1, _, _⟩ := get_lt hpl
      obtain ⟨lb, loff, rfl, cy0⟩ := HLC.out.at y1
      have cy := (HS.out.base.trans HX).cell cy0
      have cl2 := HX.cell cl
      have hpi : (0 : Int) ≤ (p : Int) := by omega
      have hpj : (p : Int) < (l.length : Int) := by omega
      have htk : Hid ((atP l (pl.take (j + 1))).map (Value.int .i64) = (atP l (pl.take j)).map (Value.int .i64) ++ [.int .i64 y]) := by
        show _ = _; rw [x3.out, atP_snoc, getD_of y1]; simp
      clear cp0 cy0
      go_wp2_with (at_builtin; refine wp_app1 rfl rfl ei_ints HOU.out rfl rfl rfl rfl (by omega) (by omega) (by omega) ?_; intro v' w' hown hgrew)
      go_roundw
      case rel => exact ⟨j + 1, by omega, by go_num, hgrew.extNew HX HOU.out (Nat.le_refl _), by rw [htk.out]; exact hown⟩
      case measure => simp [intOf]; omega
    · have hj5 : j = 5 := by omega
      subst hj5
      have hr := HOU.out
      rw [List.take_of_length_le (by rw [HP5.out]; omega)] at hr
      have HR := Lib.hid (own_rowOf (enc := Value.int .i64) (xs := atP l pl) hr (by omega))
      clear hr HOU
      go_wp2_with fail
      refine (HV.out _ _ HR.out).mono ?_
      rintro e w2 ⟨rfl, hx2⟩
      have X2 := HX.trans hx2
      have cm := X2.cell HS.out.cm
      have HS2 := Lib.hid (HS.out.ext X2 HC.out.l3 HC.out.l2)
      by_cases hgt : st.2 < q
      · have HS3 := HST.out
        rw [if_pos hgt] at HS3
        have HST2 := Lib.hid HS3
        have fm := HS2.out.fm
        have fb := HS2.out.fb
        obtain ⟨ov, ob, _⟩ := HS2.out.cb
        clear HST HS3
        go_wp2_with fail
        refine (HCL.out _ (by exact X2)).mono ?_
        rintro e w3 ⟨u, rfl, hO3, hx3⟩
        have HO3 := Lib.hid hO3
        have ob3 := hx3.cell ob
        have cm3 := hx3.cell cm
        have HS4 := HS2.out.ext hx3 HC.out.l3 HC.out.l2
        have fm3 := HS4.fm
        have fb3 := HS4.fb
        have HS4' := Lib.hid HS4
        have hne : bb ≠ bm := HC.out.h3
        rw [natI_enc, natI_len] at hO3
        have HO4 := Lib.hid (own_mono hO3 HS2.out.sz)
        obtain ⟨ro, rc, rfl, _, _⟩ := (own_rowOf (enc := encN) (xs := pl) hO3 (by rw [HP5.out]; omega)).open
        have X3 := X2.trans hx3
        clear hO3 HS4 fm fb ob cm HO3
        go_wp2_with fail
        (try simp only [Exit.inBlock, Exit.then])
        refine bodyPost_ret (results_none rfl _ _ _) rfl ⟨rfl, ?_, ?_⟩
        · rw [HST2.out]
          have c := HC.out
          exact HS4'.out.put q HO4.out c.h1 c.h2 c.h3 c.h4 c.h5 c.g2 c.g3 c.l3 c.l2
        · exact Ext2.setCell (p := bm) (q := bb) (Ext2.setCell (p := bm) (q := bb) (x := ⟨bb, 0, none⟩) (Ext2.of X3) (.inr rfl) _) (x := ⟨bm, 0, none⟩) (.inl rfl) _
      · have HS3 := HST.out
        rw [if_neg hgt] at HS3
        have HST2 := Lib.hid HS3
        have hle : q ≤ st.2 := by omega
        clear HST HS3 hgt
        go_wp2_with fail
        (try simp only [Exit.inBlock, Exit.then])
        refine bodyPost_ret (results_none rfl _ _ _) rfl ⟨rfl, ?_, ?_⟩
        · rw [HST2.out]; exact HS2.out
        · exact Ext2.of X2
end Go.Proofs.Ytllhgkacbpgemaa
