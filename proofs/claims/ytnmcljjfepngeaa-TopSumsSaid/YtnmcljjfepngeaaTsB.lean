/- worlds that differ in one block; keys of package nimsum's maps -/
import Derived.Test.YtnmcljjfepngeaaTsA
import Derived.Test.YtnmcljjfepngeaaMpA
import Derived.Test.YtnmcljjfepngeaaSlB
import Derived.DeepKeys5
import Derived.StringKeys
namespace Go.Proofs.Ytnmcljjfepngeaa
open Go.RowKit Go.Maps
set_option linter.unusedVariables false

/-- the world behind: what was there is unturned, but for one block -/
structure Gr (b : Nat) (w w' : World) : Prop where
  os : w'.os = w.os
  tape : w'.tape = w.tape
  output : w'.output = w.output
  size : w.heap.size ≤ w'.heap.size
  block : ∀ k, k < w.heap.size → k ≠ b → w'.heap[k]? = w.heap[k]?
theorem Gr.of {b : Nat} {w w' : World} (h : Ext w w') : Gr b w w' := ⟨h.os, h.tape, h.output, h.size, fun k hk _ => h.block k hk⟩
theorem Gr.refl (b : Nat) (w : World) : Gr b w w := Gr.of (Ext.refl w)
theorem Gr.trans {b : Nat} {x y z : World} (h : Gr b x y) (k : Gr b y z) : Gr b x z :=
  ⟨k.os.trans h.os, k.tape.trans h.tape, k.output.trans h.output, Nat.le_trans h.size k.size, fun i hi hb => (k.block i (Nat.lt_of_lt_of_le hi h.size) hb).trans (h.block i hi hb)⟩
theorem Gr.by' {b : Nat} {w w' : World} (h : w.grownBy w' (some b)) : Gr b w w' := ⟨h.os, h.tape, h.output, h.size, fun k hk hb => h.block k hk (by simp; exact hb)⟩
theorem Gr.grown {b : Nat} {w w' : World} (h : Gr b w w') : w.grownBy w' (some b) := ⟨h.os, h.tape, h.output, h.size, fun k hk hb => h.block k hk (fun e => hb (by rw [e]))⟩
theorem Gr.drew {b : Nat} {w w' : World} (h : Gr b w w') : Gr b w w'.drew := ⟨h.os, h.tape, h.output, h.size, h.block⟩
/-- a change in a block that was not there -/
theorem Gr.ext {b : Nat} {w0 w w' : World} (h : Gr b w w') (he : Ext w0 w) (hb : w0.heap.size ≤ b) : Ext w0 w' :=
  ⟨h.os.trans he.os, h.tape.trans he.tape, h.output.trans he.output, Nat.le_trans he.size h.size, fun k hk => (h.block k (Nat.lt_of_lt_of_le hk he.size) (by omega)).trans (he.block k hk)⟩
theorem Gr.cell {b : Nat} {w w' : World} (h : Gr b w w') {p : Addr} {v : Value} (hc : w.cell? p = some v) (hb : p.block ≠ b) : w'.cell? p = some v := by
  have hk := World.block_lt_of_cell? w p hc
  have e := h.block p.block hk hb
  rw [← hc]
  unfold World.cell?
  rw [e]
theorem Gr.cell' {b : Nat} {w w' : World} (h : Gr b w w') {p : Addr} {v : Value} (hc : w.cell? p = some v) (hb : p.block ≠ b) : w'.cell? p = some v :=
  (World.cell?_of_block (w := w) (h.block p.block (World.block_lt_of_cell? w p hc) hb)).trans hc
theorem Gr.rowOwn {b : Nat} {w w' : World} (h : Gr b w w') {B : Nat} {e : TypeId} {sz : Nat} {v : Value} {n : Nat} {vs : List Value} (ho : w.ownsRow B e sz v n vs) (hb : b < B) : w'.ownsRow B e sz v n vs := by
  refine ⟨ho.1, ?_⟩
  rcases ho.2 with h2 | ⟨g, cap, cur, r1, r2, r3, r4⟩
  · exact .inl h2
  · exact .inr ⟨g, cap, cur, r1, r2, by rw [h.block g (Array.getElem?_eq_some_iff.1 r3).1 (by omega)]; exact r3, r4⟩
theorem MapG.gr {ι : Type} [DecidableEq ι] {P : Program} {k : TypeId} {enc : ι → Value} {dom : ι → Prop} {w w' : World} {b n : Nat} {f : ι → Option Value} (h : MapG P k enc dom w b n f) {c : Nat} (hg : Gr c w w') (hc : b ≠ c) : MapG P k enc dom w' b n f :=
  h.kept hg.grown (fun e => hc (Option.some.inj e))

/-! ### keys -/
def bys (l : List Nat) : ByteArray := ⟨(l.map UInt8.ofNat).toArray⟩
theorem bys_toList (l : List Nat) : (bys l).data.toList = l.map UInt8.ofNat := by unfold bys; simp
theorem bys_size (l : List Nat) : (bys l).size = l.length := by unfold bys; simp [ByteArray.size]
def domB (l : List Nat) : Prop := l.length ≤ 64 ∧ ∀ x ∈ l, x < 256
theorem bys_inj {i j : List Nat} (hi : domB i) (hj : domB j) (e : bys i = bys j) : i = j := by
  have e2 := congrArg (fun b : ByteArray => b.data.toList.map UInt8.toNat) e
  rw [bys_toList, bys_toList, List.map_map, List.map_map] at e2
  have key : ∀ l : List Nat, domB l → l.map (UInt8.toNat ∘ UInt8.ofNat) = l := fun l hl => by
    conv => rhs; rw [← List.map_id l]
    refine List.map_congr_left fun x hx => ?_
    have := hl.2 x hx
    show (UInt8.ofNat x).toNat = x
    rw [UInt8.toNat_ofNat']
    omega
  rwa [key i hi, key j hj] at e2
def encI (n : Nat) : Value := .int .i64 n
def domI (n : Nat) : Prop := n < 1000000
def encB (l : List Nat) : Value := .string (bys l)
def encQ (s : Nat × List Nat) : Value := .agg #[.int .i64 s.1, .string (bys s.2)]
def domQ (s : Nat × List Nat) : Prop := domI s.1 ∧ domB s.2
theorem wf_nat {n : Nat} (h : domI n) : (Lit.int .i64 (n : Int)).wf = true := by
  have e1 : IntKind.i64.min = -9223372036854775808 := by decide
  have e2 : IntKind.i64.max = 9223372036854775807 := by decide
  unfold domI at h
  simp [Lit.wf]
  omega
theorem keyE_nat : KeyE Try.prog 3 encI domI where
  keyed := int_keyed Try.underlying3
  key n hn := ⟨_, keyOf_int_mk Try.underlying3 (wf_nat hn)⟩
  inj i j _ _ e := by
    unfold encI at e
    simp at e
    omega
theorem keyE_string : KeyE Try.prog 9 encB domB where
  keyed := string_keyed Try.underlying9
  key l hl := ⟨_, Go.WideMaps.keyOf_string_mk Try.underlying9 (by rw [bys_size]; have := hl.1; simp [maxLen]; omega)⟩
  inj i j hi hj e := by
    unfold encB at e
    simp at e
    exact bys_inj hi hj e
set_option maxRecDepth 100000 in
theorem keyE_pair : KeyE Try.prog 37 encQ domQ where
  keyed := Keyed.of_law (deep_law_laid (m := 2) (by kernel_rfl) (by decide) (of_decide_eq_true (by kernel_rfl)) (by kernel_rfl) (by kernel_rfl))
  key s hs := by
    obtain ⟨n, l⟩ := s
    obtain ⟨ha, hb⟩ := hs
    dsimp only at ha hb
    have hk : Try.prog.keyType 37 = true := by kernel_rfl
    have hc : Try.prog.cellsOf 37 = 2 := by kernel_rfl
    have hc1 : Try.prog.cellsOf 3 = 1 := by kernel_rfl
    have hc2 : Try.prog.cellsOf 9 = 1 := by kernel_rfl
    have hw := wf_nat ha
    have h9 : (bys l).size ≤ maxLen := by rw [bys_size]; have := hb.1; simp [maxLen]; omega
    have h1 : ∀ d, Try.prog.keyLits (d + 1) 3 [.int .i64 (n : Int)] = some [.int .i64 (n : Int)] := fun d => by
      simp [Program.keyLits, Try.underlying3, hw]
    have h2 : ∀ d, ∃ q, Try.prog.keyLits (d + 1) 9 [.string (bys l)] = some q := fun d => by
      simp [Program.keyLits, Try.underlying9, h9]
    have hd : Try.prog.types.size + 1 = (Try.prog.types.size - 1) + 1 + 1 := by kernel_rfl
    have h3 : ∃ q, Try.prog.keyLits (Try.prog.types.size + 1) 37 [.int .i64 (n : Int), .string (bys l)] = some q := by
      rw [hd]
      generalize Try.prog.types.size - 1 = d
      obtain ⟨q, hq⟩ := h2 d
      have e1 := h1 d
      refine ⟨[Lit.int .i64 (n : Int)] ++ q, ?_⟩
      rw [show Try.prog.keyLits (d + 1 + 1) 37 [.int .i64 (n : Int), .string (bys l)] = (match Try.prog.underlying 37, [Value.int .i64 (n : Int), Value.string (bys l)] with | some .bool, [.bool b] => some [.bool b] | some (.int q), [.int q' n] => if q' = q ∧ (Lit.int q n).wf = true then some [.int q n] else none | some .string, [.string s] => if s.size ≤ maxLen then some [.string s.data.toList] else none | some (.array n e), cs => if cs.length = Try.prog.cellsOf 37 then ((List.range n).mapM fun i => Try.prog.keyLits (d + 1) e ((cs.drop (i * Try.prog.cellsOf e)).take (Try.prog.cellsOf e))).map List.flatten else none | some (.struct fs), cs => if cs.length = Try.prog.cellsOf 37 ∧ fs.all (·.name != "_") = true then (fs.toList.mapM fun f => Try.prog.keyLits (d + 1) f.type ((cs.drop f.offset).take (Try.prog.cellsOf f.type))).map List.flatten else none | _, _ => none) from rfl]
      rw [Try.underlying37]
      simp [hc, hc1, hc2, e1, hq]
    have hf : (Value.agg #[.int .i64 (n : Int), .string (bys l)]).formed Try.prog 37 = true := by simp [Value.formed, Try.underlying37, hc]
    obtain ⟨q, hq⟩ := h3
    unfold keyOf encQ
    rw [Try.underlying37]
    show ∃ kl, (if (Try.prog.keyType 37 && (Value.agg #[.int .i64 (n : Int), .string (bys l)]).formed Try.prog 37) = true then (Try.prog.keyLits (Try.prog.types.size + 1) 37 [.int .i64 (n : Int), .string (bys l)]).map fun ls => Lit.string (keyBytes ls) else none) = some kl
    rw [hk, hf, hq]
    exact ⟨_, rfl⟩
  inj i j hi hj e := by
    obtain ⟨a, b⟩ := i
    obtain ⟨c, d⟩ := j
    unfold encQ at e
    simp at e
    have h2 : b = d := bys_inj hi.2 hj.2 e.2
    have h3 : a = c := by omega
    rw [h2, h3]
end Go.Proofs.Ytnmcljjfepngeaa
