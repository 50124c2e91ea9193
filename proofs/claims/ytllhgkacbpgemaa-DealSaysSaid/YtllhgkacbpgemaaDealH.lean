/- the state of a deal in the loop of DealSays -/
import Derived.Test.YtllhgkacbpgemaaDealG
namespace Go.Proofs.Ytllhgkacbpgemaa
open Go.RowKit
set_option linter.unusedVariables false

/-- nothing that was there is written but blocks from B on and below B2 -/
structure Mid (B B2 : Nat) (w w' : World) : Prop where
  os : w'.os = w.os
  tape : w'.tape = w.tape
  output : w'.output = w.output
  size : w.heap.size ≤ w'.heap.size
  block : ∀ k, k < w.heap.size → (k < B ∨ B2 ≤ k) → w'.heap[k]? = w.heap[k]?

theorem Mid.of {B B2 : Nat} {w w' : World} (h : Ext w w') : Mid B B2 w w' := ⟨h.os, h.tape, h.output, h.size, fun k hk _ => h.block k hk⟩
theorem Mid.refl (B B2 : Nat) (w : World) : Mid B B2 w w := .of (Ext.refl w)
theorem Mid.trans {B B2 : Nat} {a b c : World} (h : Mid B B2 a b) (g : Mid B B2 b c) : Mid B B2 a c :=
  ⟨g.os.trans h.os, g.tape.trans h.tape, g.output.trans h.output, Nat.le_trans h.size g.size, fun k hk h1 => (g.block k (Nat.lt_of_lt_of_le hk h.size) h1).trans (h.block k hk h1)⟩
theorem Mid.ext {B B2 : Nat} {w0 w w' : World} (h : Mid B B2 w w') (h0 : Ext w0 w) (ht : w0.heap.size ≤ B) : Ext w0 w' :=
  ⟨h.os.trans h0.os, h.tape.trans h0.tape, h.output.trans h0.output, Nat.le_trans h0.size h.size, fun k hk => (h.block k (Nat.lt_of_lt_of_le hk h0.size) (.inl (by omega))).trans (h0.block k hk)⟩
theorem Mid.grown {B B2 : Nat} {w w' : World} {k : Nat} (h : w.grownBy w' (some k)) (h1 : B ≤ k) (h2 : k < B2) : Mid B B2 w w' :=
  ⟨h.os, h.tape, h.output, h.size, fun j hj h3 => h.block j hj (by simp; omega)⟩
theorem Mid.kp {B B2 tb pb : Nat} {w w' : World} (h : Kp tb pb w w') (h1 : B ≤ tb ∧ tb < B2) (h2 : B ≤ pb ∧ pb < B2) : Mid B B2 w w' :=
  ⟨h.os, h.tape, h.output, h.size, fun j hj h3 => h.block j hj (by omega) (by omega)⟩
theorem Mid.row {B B2 : Nat} {w w' : World} {v : Value} {vs : List Value} (hk : Mid B B2 w w') (h : Row w v vs) (hf : Fr B2 v vs) : Row w' v vs := by
  obtain ⟨ao, c, h1, h2, h3, h4, h5⟩ := h
  refine ⟨ao, c, h1, h2, h3, h4, fun i u hu => ?_⟩
  obtain ⟨b, off, rfl, hc⟩ := h5 i u hu
  refine ⟨b, off, rfl, ?_⟩
  rcases hf with rfl | ⟨k, e1, e2⟩
  · simp at hu
  · rw [h1] at e1
    simp [Value.ownBlock] at e1
    subst e1
    have hb := World.block_lt_of_cell? w _ hc
    rw [← hc]
    unfold World.cell?
    simp only [hk.block b hb (.inr e2)]

/-- two stores into two rows -/
theorem two_stores {W : World} {B B2 : Nat} {e1 e2 : TypeId} {b1 b2 n1 c1 n2 c2 : Nat} {xs ys : List Value} (h1 : W.ownsRow B e1 1 (.slice (some ⟨b1, 0, none⟩) n1 c1) n1 xs) (h2 : W.ownsRow B e2 1 (.slice (some ⟨b2, 0, none⟩) n2 c2) n2 ys) (hne : b1 ≠ b2)
    (k1 : b1 < B2) (k2 : b2 < B2) (i j : Nat) (x y : Value) :
    ((W.setCell ⟨b1, i, none⟩ x).setCell ⟨b2, j, none⟩ y).ownsRow B e1 1 (.slice (some ⟨b1, 0, none⟩) n1 c1) n1 (xs.set i x) ∧ ((W.setCell ⟨b1, i, none⟩ x).setCell ⟨b2, j, none⟩ y).ownsRow B e2 1 (.slice (some ⟨b2, 0, none⟩) n2 c2) n2 (ys.set j y) ∧
      (∀ k, k ≠ b1 → k ≠ b2 → ∀ (e : TypeId) (sz n c : Nat) (zs : List Value), W.ownsRow B e sz (.slice (some ⟨k, 0, none⟩) n c) n zs → ((W.setCell ⟨b1, i, none⟩ x).setCell ⟨b2, j, none⟩ y).ownsRow B e sz (.slice (some ⟨k, 0, none⟩) n c) n zs) ∧ Mid B B2 W ((W.setCell ⟨b1, i, none⟩ x).setCell ⟨b2, j, none⟩ y) := by
  have s1 := h1.stored i x
  have g2 := own_kept h2 s1.2 (.inl (by simp [Value.ownBlock]; exact fun e => hne e.symm))
  have s2 := g2.stored j y
  have g1 := own_kept s1.1 s2.2 (.inl (by simp [Value.ownBlock]; exact hne))
  refine ⟨g1, s2.1, fun k n1 n2 e sz n c zs h => ?_, (Mid.grown s1.2 (h1.lt b1 rfl).1 k1).trans (Mid.grown s2.2 (h2.lt b2 rfl).1 k2)⟩
  exact own_kept (own_kept h s1.2 (.inl (by simp [Value.ownBlock]; exact n1))) s2.2 (.inl (by simp [Value.ownBlock]; exact n2))

/-- the blocks of a deal -/
structure Bl (B B2 tb pb sb ob mb nb : Nat) : Prop where
  nd : tb ≠ pb ∧ tb ≠ sb ∧ tb ≠ ob ∧ tb ≠ mb ∧ tb ≠ nb ∧ pb ≠ sb ∧ pb ≠ ob ∧ pb ≠ mb ∧ pb ≠ nb ∧ sb ≠ ob ∧ sb ≠ mb ∧ sb ≠ nb ∧ ob ≠ mb ∧ ob ≠ nb ∧ mb ≠ nb
  lo : (B ≤ tb ∧ tb < B2) ∧ (B ≤ pb ∧ pb < B2) ∧ (B ≤ sb ∧ sb < B2) ∧ (B ≤ ob ∧ ob < B2) ∧ (B ≤ mb ∧ mb < B2) ∧ (B ≤ nb ∧ nb < B2)

/-- the state of the law's loop -/
structure St (w0 wL wr : World) (B B2 tb pb sb ob mb nb n : Nat) (l : List PV) (cheat : Int) (ms : List Int) (nv : List Value) (dss : List (List Int)) : Prop where
  bl : Bl B B2 tb pb sb ob mb nb
  mid : Mid B B2 wL wr
  tab : Tab wr B tb pb n l cheat
  rs : wr.ownsRow B 4 1 (.slice (some ⟨sb, 0, none⟩) l.length l.length) l.length ((l.map (·.sealed)).map Value.bool)
  ro : wr.ownsRow B 4 1 (.slice (some ⟨ob, 0, none⟩) l.length l.length) l.length ((l.map (·.opened)).map Value.bool)
  rm : wr.ownsRow B 37 1 (.slice (some ⟨mb, 0, none⟩) l.length l.length) l.length (ms.map (Value.int .u64))
  rn : wr.ownsRow B 22 1 (.slice (some ⟨nb, 0, none⟩) l.length l.length) l.length nv
  dl : dss.length = l.length
  mrk : ∀ (i : Nat) (p : PV), l[i]? = some p → p.sealed = true → ms[i]? = some p.mark
  op : ∀ (i : Nat) (p : PV), l[i]? = some p → p.opened = true → ∃ u ds, nv[i]? = some u ∧ dss[i]? = some ds ∧ Ints w0 u ds ∧ Ints wr p.draws ds ∧ Fr B2 p.draws (ds.map (Value.int .i64)) ∧ drawsErr n ds = 0
  i1 : ∀ p ∈ l, p.opened = true → l.any (fun p => !p.sealed) = false
  i2 : 0 ≤ cheat → l.any (fun p => !p.sealed) = false ∧ l.any (fun p => !p.opened) = true
  ch : -1 ≤ cheat ∧ cheat < l.length
  one : 1 ≤ l.length

theorem St.ext {w0 wL wr w' : World} {B B2 tb pb sb ob mb nb n : Nat} {l : List PV} {cheat : Int} {ms : List Int} {nv : List Value} {dss : List (List Int)} (h : St w0 wL wr B B2 tb pb sb ob mb nb n l cheat ms nv dss) (hx : Ext wr w') :
    St w0 wL w' B B2 tb pb sb ob mb nb n l cheat ms nv dss :=
  { h with mid := h.mid.trans (.of hx), tab := h.tab.ext hx, rs := own_ext h.rs hx, ro := own_ext h.ro hx, rm := own_ext h.rm hx, rn := own_ext h.rn hx,
           op := fun i p a b => by
            obtain ⟨u, ds, r1, r2, r3, r4, r5⟩ := h.op i p a b
            exact ⟨u, ds, r1, r2, r3, r4.ext hx, r5⟩ }

theorem Kp.own1 {tb pb : Nat} {w w' : World} {B : Nat} {e : TypeId} {sz k n c : Nat} {vs : List Value} (h : w.ownsRow B e sz (.slice (some ⟨k, 0, none⟩) n c) n vs) (hk : Kp tb pb w w') (h1 : k ≠ tb) (h2 : k ≠ pb) : w'.ownsRow B e sz (.slice (some ⟨k, 0, none⟩) n c) n vs :=
  Kp.own h hk (fun j hj => by simp [Value.ownBlock] at hj; subst hj; exact ⟨h1, h2⟩)

theorem any_set_sealed {l : List PV} {K : Nat} {p p' : PV} (hp : l[K]? = some p) (hs : p'.sealed = true) (h : l.any (fun p => !p.sealed) = false) : (l.set K p').any (fun p => !p.sealed) = false := by
  simp only [List.any_eq_false] at h ⊢
  intro x hx
  rcases List.mem_or_eq_of_mem_set hx with h1 | rfl
  · exact h x h1
  · simp [hs]

theorem set_same {α : Type} {l : List α} {K : Nat} {x : α} (h : l[K]? = some x) : l.set K x = l := by
  apply List.ext_getElem?
  intro i
  rw [List.getElem?_set]
  split
  · rename_i e; subst e; split
    · exact h.symm
    · rename_i hn; rw [List.getElem?_eq_none (by omega)]
  · rfl

theorem map_set_same {α β : Type} (f : α → β) {l : List α} {K : Nat} {p p' : α} (hp : l[K]? = some p) (h : f p' = f p) : (l.set K p').map f = l.map f := by
  rw [List.map_set, h]
  exact set_same (by rw [List.getElem?_map, hp]; rfl)

theorem get_set {α : Type} {l : List α} {K : Nat} {p p' : α} (hp : l[K]? = some p) {i : Nat} {q : α} (h : (l.set K p')[i]? = some q) : (i = K ∧ q = p') ∨ (i ≠ K ∧ l[i]? = some q) := by
  have hK := (List.getElem?_eq_some_iff.1 hp).1
  by_cases e : i = K
  · subst e
    rw [List.getElem?_set_self hK] at h
    exact .inl ⟨rfl, (Option.some.inj h).symm⟩
  · rw [List.getElem?_set_ne (fun h => e h.symm)] at h
    exact .inr ⟨e, h⟩

theorem St.commit {w0 wL wr w1 w2 : World} {B B2 tb pb sb ob mb nb n : Nat} {l : List PV} {cheat : Int} {ms : List Int} {nv : List Value} {dss : List (List Int)} (h : St w0 wL wr B B2 tb pb sb ob mb nb n l cheat ms nv dss)
    {K : Nat} {p : PV} {s : Int} (hp : l[K]? = some p) (hu : p.sealed = false) (hT : Tab w1 B tb pb n (l.set K { p with sealed := true, mark := s }) cheat) (hk : Kp tb pb wr w1)
    (h1 : ∀ (e : TypeId) (xs : List Value), w1.ownsRow B e 1 (.slice (some ⟨sb, 0, none⟩) l.length l.length) l.length xs → w2.ownsRow B e 1 (.slice (some ⟨sb, 0, none⟩) l.length l.length) l.length (xs.set K (.bool true)))
    (h2 : ∀ (e : TypeId) (xs : List Value), w1.ownsRow B e 1 (.slice (some ⟨mb, 0, none⟩) l.length l.length) l.length xs → w2.ownsRow B e 1 (.slice (some ⟨mb, 0, none⟩) l.length l.length) l.length (xs.set K (.int .u64 s)))
    (h3 : ∀ k, k ≠ sb → k ≠ mb → ∀ (e : TypeId) (sz n c : Nat) (zs : List Value), w1.ownsRow B e sz (.slice (some ⟨k, 0, none⟩) n c) n zs → w2.ownsRow B e sz (.slice (some ⟨k, 0, none⟩) n c) n zs)
    (h4 : Mid B B2 w1 w2) :
    St w0 wL w2 B B2 tb pb sb ob mb nb n (l.set K { p with sealed := true, mark := s }) cheat (ms.set K s) nv dss := by
  have hK := (List.getElem?_eq_some_iff.1 hp).1
  obtain ⟨a1, a2, a3, a4, a5, b1, b2, b3, b4, c1, c2, c3, d1, d2, e1⟩ := h.bl.nd
  obtain ⟨l1, l2, l3, l4, l5, l6⟩ := h.bl.lo
  have hm1 := Mid.kp (B := B) (B2 := B2) hk l1 l2
  have hun : l.any (fun p => !p.sealed) = true := by
    simp only [List.any_eq_true]
    exact ⟨p, List.mem_of_getElem? hp, by simp [hu]⟩
  refine ⟨h.bl, (h.mid.trans hm1).trans h4, ⟨h3 tb a2 a4 _ _ _ _ _ hT.own, h3 pb b1 b3 _ _ _ _ _ hT.row, hT.ne, hT.len⟩, ?_, ?_, ?_, ?_, by simpa using h.dl, ?_, ?_, ?_, ?_, by simpa using h.ch, by simpa using h.one⟩
  · have := h1 _ _ (Kp.own1 h.rs hk (Ne.symm a2) (Ne.symm b1))
    rw [List.length_set, List.map_set, List.map_set]
    exact this
  · have := h3 ob (Ne.symm c1) d1 _ _ _ _ _ (Kp.own1 h.ro hk (Ne.symm a3) (Ne.symm b2))
    rw [List.length_set, map_set_same (·.opened) hp]
    · exact this
    · rfl
  · have := h2 _ _ (Kp.own1 h.rm hk (Ne.symm a4) (Ne.symm b3))
    rw [List.length_set, List.map_set]
    exact this
  · have := h3 nb (Ne.symm c3) (Ne.symm e1) _ _ _ _ _ (Kp.own1 h.rn hk (Ne.symm a5) (Ne.symm b4))
    rw [List.length_set]
    exact this
  · intro i q hq hs
    rcases get_set hp hq with ⟨rfl, rfl⟩ | ⟨hne, hq⟩
    · have : i < ms.length := by have := own_n h.rm; simp at this; omega
      rw [List.getElem?_set_self this]
    · rw [List.getElem?_set_ne (Ne.symm hne)]
      exact h.mrk i q hq hs
  · intro i q hq ho
    rcases get_set hp hq with ⟨rfl, rfl⟩ | ⟨hne, hq⟩
    · have := h.i1 p (List.mem_of_getElem? hp) ho
      rw [hun] at this; cases this
    · have := h.i1 q (List.mem_of_getElem? hq) ho
      rw [hun] at this; cases this
  · intro q hq ho
    rcases List.mem_or_eq_of_mem_set hq with hq | rfl
    · have := h.i1 q hq ho
      rw [hun] at this; cases this
    · have := h.i1 p (List.mem_of_getElem? hp) ho
      rw [hun] at this; cases this
  · intro hc
    have := (h.i2 hc).1
    rw [hun] at this; cases this

theorem St.openOk {w0 wL wr w1 w2 : World} {B B2 tb pb sb ob mb nb n : Nat} {l : List PV} {cheat : Int} {ms : List Int} {nv : List Value} {dss : List (List Int)} (h : St w0 wL wr B B2 tb pb sb ob mb nb n l cheat ms nv dss)
    {K : Nat} {p : PV} {ds : List Int} {dv : Value} {da : Option Addr} {dc : Nat} (hp : l[K]? = some p) (hch : cheat < 0) (hall : l.any (fun p => !p.sealed) = false) (hT : Tab w1 B tb pb n (l.set K { p with opened := true, da := da, dl := ds.length, dc := dc }) cheat) (hk : Kp tb pb wr w1)
    (hd : Ints w0 dv ds) (hf : drawsErr n ds = 0) (hr : w1.ownsRow wr.heap.size 3 1 (.slice da ds.length dc) ds.length (ds.map (Value.int .i64))) (hB2 : B2 ≤ wr.heap.size)
    (h1 : ∀ (e : TypeId) (xs : List Value), w1.ownsRow B e 1 (.slice (some ⟨ob, 0, none⟩) l.length l.length) l.length xs → w2.ownsRow B e 1 (.slice (some ⟨ob, 0, none⟩) l.length l.length) l.length (xs.set K (.bool true)))
    (h2 : ∀ (e : TypeId) (xs : List Value), w1.ownsRow B e 1 (.slice (some ⟨nb, 0, none⟩) l.length l.length) l.length xs → w2.ownsRow B e 1 (.slice (some ⟨nb, 0, none⟩) l.length l.length) l.length (xs.set K dv))
    (h3 : ∀ k, k ≠ ob → k ≠ nb → ∀ (e : TypeId) (sz n c : Nat) (zs : List Value), w1.ownsRow B e sz (.slice (some ⟨k, 0, none⟩) n c) n zs → w2.ownsRow B e sz (.slice (some ⟨k, 0, none⟩) n c) n zs)
    (h4 : Mid B B2 w1 w2) (hn : ds.length ≤ 17592186044416) :
    St w0 wL w2 B B2 tb pb sb ob mb nb n (l.set K { p with opened := true, da := da, dl := ds.length, dc := dc }) cheat ms (nv.set K dv) (dss.set K ds) := by
  have hK := (List.getElem?_eq_some_iff.1 hp).1
  obtain ⟨a1, a2, a3, a4, a5, b1, b2, b3, b4, c1, c2, c3, d1, d2, e1⟩ := h.bl.nd
  obtain ⟨l1, l2, l3, l4, l5, l6⟩ := h.bl.lo
  have hm1 := Mid.kp (B := B) (B2 := B2) hk l1 l2
  have hall2 : (l.set K { p with opened := true, da := da, dl := ds.length, dc := dc }).any (fun p => !p.sealed) = false := by
    have e : ∀ l : List PV, l.any (fun p => !p.sealed) = (l.map (·.sealed)).any (!·) := fun l => by rw [List.any_map]; rfl
    rw [e, map_set_same (·.sealed) hp, ← e]
    · exact hall
    · rfl
  have hnl : nv.length = l.length := by have := own_n h.rn; simpa using this
  refine ⟨h.bl, (h.mid.trans hm1).trans h4, ⟨h3 tb a3 a5 _ _ _ _ _ hT.own, h3 pb b2 b4 _ _ _ _ _ hT.row, hT.ne, hT.len⟩, ?_, ?_, ?_, ?_, by simpa using h.dl, ?_, ?_, ?_, ?_, by simpa using h.ch, by simpa using h.one⟩
  · have := h3 sb c1 c3 _ _ _ _ _ (Kp.own1 h.rs hk (Ne.symm a2) (Ne.symm b1))
    rw [List.length_set, map_set_same (·.sealed) hp]
    · exact this
    · rfl
  · have := h1 _ _ (Kp.own1 h.ro hk (Ne.symm a3) (Ne.symm b2))
    rw [List.length_set, List.map_set, List.map_set]
    exact this
  · have := h3 mb (Ne.symm d1) e1 _ _ _ _ _ (Kp.own1 h.rm hk (Ne.symm a4) (Ne.symm b3))
    rw [List.length_set]
    exact this
  · have := h2 _ _ (Kp.own1 h.rn hk (Ne.symm a5) (Ne.symm b4))
    rw [List.length_set]
    exact this
  · intro i q hq hs
    rcases get_set hp hq with ⟨rfl, rfl⟩ | ⟨hne, hq⟩
    · exact h.mrk i p hp hs
    · exact h.mrk i q hq hs
  · intro i q hq ho
    rcases get_set hp hq with ⟨rfl, rfl⟩ | ⟨hne, hq⟩
    · refine ⟨dv, ds, List.getElem?_set_self (by omega), List.getElem?_set_self (by rw [h.dl]; omega), hd, ?_, ?_, hf⟩
      · exact h4.row (own_rowOf hr hn) (own_fr (own_mono hr hB2) (by intro e; exact Nat.pos_of_ne_zero (fun e2 => e (by rw [List.eq_nil_of_length_eq_zero e2]; rfl))))
      · exact own_fr (own_mono hr hB2) (by intro e; exact Nat.pos_of_ne_zero (fun e2 => e (by rw [List.eq_nil_of_length_eq_zero e2]; rfl)))
    · obtain ⟨u, es, r1, r2, r3, r4, r5, r6⟩ := h.op i q hq ho
      exact ⟨u, es, by rw [List.getElem?_set_ne (Ne.symm hne)]; exact r1, by rw [List.getElem?_set_ne (Ne.symm hne)]; exact r2, r3, h4.row (hm1.row r4 r5) r5, r5, r6⟩
  · intro q _ _
    exact hall2
  · intro hc
    omega

theorem St.openBad {w0 wL wr w1 : World} {B B2 tb pb sb ob mb nb n : Nat} {l : List PV} {cheat : Int} {ms : List Int} {nv : List Value} {dss : List (List Int)} (h : St w0 wL wr B B2 tb pb sb ob mb nb n l cheat ms nv dss)
    {K : Nat} {p : PV} (hp : l[K]? = some p) (hop : p.opened = false) (hall : l.any (fun p => !p.sealed) = false) (hT : Tab w1 B tb pb n l K) (hk : Kp tb pb wr w1) :
    St w0 wL w1 B B2 tb pb sb ob mb nb n l K ms nv dss := by
  have hK := (List.getElem?_eq_some_iff.1 hp).1
  obtain ⟨a1, a2, a3, a4, a5, b1, b2, b3, b4, c1, c2, c3, d1, d2, e1⟩ := h.bl.nd
  obtain ⟨l1, l2, l3, l4, l5, l6⟩ := h.bl.lo
  have hm1 := Mid.kp (B := B) (B2 := B2) hk l1 l2
  exact ⟨h.bl, h.mid.trans hm1, hT, Kp.own1 h.rs hk (Ne.symm a2) (Ne.symm b1), Kp.own1 h.ro hk (Ne.symm a3) (Ne.symm b2), Kp.own1 h.rm hk (Ne.symm a4) (Ne.symm b3), Kp.own1 h.rn hk (Ne.symm a5) (Ne.symm b4), h.dl, h.mrk,
    fun i q hq ho => by obtain ⟨u, es, r1, r2, r3, r4, r5, r6⟩ := h.op i q hq ho; exact ⟨u, es, r1, r2, r3, hm1.row r4 r5, r5, r6⟩, h.i1,
    fun _ => ⟨hall, by simp only [List.any_eq_true]; exact ⟨p, List.mem_of_getElem? hp, by simp [hop]⟩⟩, ⟨by omega, by omega⟩, h.one⟩
end Go.Proofs.Ytllhgkacbpgemaa
