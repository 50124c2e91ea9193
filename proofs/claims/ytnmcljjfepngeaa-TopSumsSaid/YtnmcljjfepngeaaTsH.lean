/- slices of states of a sum: read, grown; Both.Next -/
import Derived.Test.YtnmcljjfepngeaaTsG
import Derived.OwnWalk
import Derived.Handy
namespace Go.Proofs.Ytnmcljjfepngeaa
open Go.RowKit
set_option linter.unusedVariables false

def flatQ : List (Nat × List Nat) → List Value
  | [] => []
  | p :: t => .int .i64 (p.1 : Int) :: .string (bys p.2) :: flatQ t
theorem flatQ_len : ∀ ps, (flatQ ps).length = ps.length * 2
  | [] => rfl
  | p :: t => by simp only [flatQ, List.length_cons, flatQ_len t]; omega
theorem flatQ_app : ∀ (ps qs : List (Nat × List Nat)), flatQ (ps ++ qs) = flatQ ps ++ flatQ qs
  | [], qs => rfl
  | a :: t, qs => by simp only [List.cons_append, flatQ, flatQ_app t qs]
theorem flatQ_get : ∀ (ps : List (Nat × List Nat)) (i : Nat) (p : Nat × List Nat), ps[i]? = some p → (flatQ ps)[i * 2]? = some (.int .i64 (p.1 : Int)) ∧ (flatQ ps)[i * 2 + 1]? = some (.string (bys p.2))
  | [], i, p, h => by simp at h
  | a :: t, 0, p, h => by
    simp only [List.getElem?_cons_zero, Option.some.injEq] at h
    subst h
    exact ⟨rfl, rfl⟩
  | a :: t, i + 1, p, h => by
    have := flatQ_get t i p (by simpa using h)
    rw [show (i + 1) * 2 = i * 2 + 2 by omega]
    exact this
theorem flatQ_one : ∀ ps, ∀ x ∈ flatQ ps, x.oneCell' = true
  | [], x, h => by cases h
  | p :: t, x, h => by
    rw [flatQ] at h
    rcases List.mem_cons.1 h with rfl | h
    · rfl
    · rcases List.mem_cons.1 h with rfl | h
      · rfl
      · exact flatQ_one t x h
/-- the slice value reads as pairs -/
def QOf (w : World) (ao : Option Addr) (ps : List (Nat × List Nat)) : Prop := ∀ (j : Nat) (u : Value), (flatQ ps)[j]? = some u → ∃ b off, ao = some ⟨b, off, none⟩ ∧ w.cell? ⟨b, off + j, none⟩ = some u
def QIn (w : World) (v : Value) (ps : List (Nat × List Nat)) : Prop := ∃ ao c, v = .slice ao ps.length c ∧ ps.length ≤ c ∧ (ao = none → c = 0) ∧ ps.length ≤ 17592186044416 ∧ QOf w ao ps
theorem QOf.ext {w w' : World} {ao : Option Addr} {ps : List (Nat × List Nat)} (h : QOf w ao ps) (hx : Ext w w') : QOf w' ao ps := fun j u hu => by
  obtain ⟨b, off, e, hc⟩ := h j u hu
  exact ⟨b, off, e, hx.cell hc⟩
theorem QIn.ext {w w' : World} {v : Value} {ps : List (Nat × List Nat)} (h : QIn w v ps) (hx : Ext w w') : QIn w' v ps := by
  obtain ⟨ao, c, h1, h2, h3, h4, h5⟩ := h
  exact ⟨ao, c, h1, h2, h3, h4, h5.ext hx⟩
theorem QIn.nil (w : World) : QIn w (.slice none 0 0) [] := ⟨none, 0, rfl, Nat.le_refl _, fun _ => rfl, by simp, fun j u h => by simp [flatQ] at h⟩
theorem QIn.open {w : World} {v : Value} {ps : List (Nat × List Nat)} (h : QIn w v ps) : ∃ ao c, v = .slice ao ps.length c ∧ ps.length ≤ 17592186044416 ∧ QOf w ao ps := by
  obtain ⟨ao, c, h1, h2, h3, h4, h5⟩ := h
  exact ⟨ao, c, h1, h4, h5⟩
theorem QOf.at {w : World} {ao : Option Addr} {ps : List (Nat × List Nat)} (h : QOf w ao ps) {i : Nat} {p : Nat × List Nat} (hp : Hid (ps[i]? = some p)) : ∃ b off, ao = some ⟨b, off, none⟩ ∧ w.cell? ⟨b, off + i * 2, none⟩ = some (.int .i64 (p.1 : Int)) ∧ w.cell? ⟨b, off + i * 2 + 1, none⟩ = some (.string (bys p.2)) := by
  obtain ⟨g0, g1⟩ := flatQ_get ps i p hp.out
  obtain ⟨b, off, e, c0⟩ := h _ _ g0
  obtain ⟨b', off', e', c1⟩ := h _ _ g1
  rw [e] at e'
  simp only [Option.some.injEq, Addr.mk.injEq, and_true] at e'
  obtain ⟨rfl, rfl⟩ := e'
  exact ⟨b, off, e, c0, c1⟩
theorem QIn.src {w : World} {v : Value} {ps : List (Nat × List Nat)} (h : QIn w v ps) : Src w v ps.length 2 (flatQ ps) := by
  obtain ⟨ao, c, e, _, _, _, h5⟩ := h
  refine ⟨ao, c, e, flatQ_len ps, flatQ_one ps, fun hm => ?_⟩
  obtain ⟨p, t, rfl⟩ := List.exists_cons_of_ne_nil (l := ps) (by intro e; subst e; simp at hm)
  obtain ⟨b, off, rfl, _⟩ := h5 0 _ rfl
  refine ⟨b, off, rfl, fun j x hx => ?_⟩
  obtain ⟨b', off', e', hc⟩ := h5 j x hx
  simp only [Option.some.injEq, Addr.mk.injEq, and_true] at e'
  obtain ⟨rfl, rfl⟩ := e'
  exact hc
/-- an own slice of pairs -/
def QO (w : World) (B : Nat) (v : Value) (ps : List (Nat × List Nat)) : Prop := w.ownsRow B 37 2 v ps.length (flatQ ps)
theorem QO.nil (w : World) (B : Nat) : QO w B (.slice none 0 0) [] := World.ownsRow_nil _ _ _ _
theorem QO.ext {w w' : World} {B : Nat} {v : Value} {ps : List (Nat × List Nat)} (h : QO w B v ps) (hx : Ext w w') : QO w' B v ps := own_ext h hx
theorem QO.toIn {w : World} {B : Nat} {v : Value} {ps : List (Nat × List Nat)} (h : QO w B v ps) (hl : ps.length ≤ 17592186044416) : QIn w v ps := by
  rcases h.2 with ⟨rfl, h0⟩ | ⟨g, cap, cur, rfl, hb, hg, hc, _⟩
  · have : ps = [] := List.eq_nil_of_length_eq_zero h0
    subst this
    exact QIn.nil w
  · refine ⟨_, _, rfl, hc, fun e => (by cases e), hl, fun j u hu => ⟨g, 0, rfl, ?_⟩⟩
    have := h.cells (g := g) rfl j u hu
    rwa [Addr.add_lit] at this
theorem info_q : (Try.prog.info? 37).map (fun i => (i.zero, i.size, i.bytes)) = some (some (.agg #[.int .i64 0, .string ⟨#[]⟩]), 2, 24) := by kernel_rfl
theorem ei_q : EI Try.prog 54 37 (.agg #[.int .i64 0, .string ⟨#[]⟩]) 2 24 := ⟨Try.underlying54, info_parts info_q, by decide, by decide⟩
theorem src_newQ (w : World) (x y : Value) (e : TypeId) (h1 : x.oneCell' = true) (h2 : y.oneCell' = true) : Src (w.alloc (.cells #[x, y] e)) (.slice (some ⟨w.heap.size, 0, none⟩) 1 1) 1 2 [x, y] := by
  refine ⟨_, _, rfl, rfl, ?_, fun _ => ⟨_, _, rfl, fun j u hu => ?_⟩⟩
  · intro u hu
    rcases List.mem_cons.1 hu with rfl | hu
    · exact h1
    · rw [List.mem_singleton] at hu; subst hu; exact h2
  · match j, hu with
    | 0, hu => simp at hu; subst hu; simp [World.cell?_alloc_new]
    | 1, hu => simp at hu; subst hu; simp [World.cell?_alloc_new]
/-- append of one pair -/
theorem wp_appQ {P : Program} {rest : List Oper} {oa : Array Oper} {o : Oper} {a : Act} {Q : Exit → Act → World → Prop} {W : World} {x1 x2 : Value} (hg : o.guard = none) {s x : Operand} {t e : TypeId} {z : Value} {bytes : Nat}
    (ho : o.op = .call { callee := .builtin .append, args := #[s, x], argTypes := #[t, t] }) (ei : EI P t e z 2 bytes) {B : Nat} {v : Value} {n : Nat} {xs : List Value}
    (hown : W.ownsRow B e 2 v n xs) (hs : a.eval s = v) {k : Nat} (hx : a.eval x = .slice (some ⟨k, 0, none⟩) 1 1) (hk : k = W.heap.size) (h1 : x1.oneCell' = true) (h2 : x2.oneCell' = true) (hlen : n + 1 ≤ 17592186044416) (hby : (n + 1) * bytes ≤ 140737488355328) (hB : B ≤ W.heap.size)
    (h : ∀ v' w', w'.ownsRow B e 2 v' (n + 1) (xs ++ [x1, x2]) → Grew W v w' v' → wpList P oa Q rest (a.put o.dst v') w') : wpList P oa Q (o :: rest) a (W.alloc (.cells #[x1, x2] e)) := by
  subst hk
  refine wp_app hg ho ei hs (own_ext hown ((Ext.refl W).alloc _)) hx (src_newQ W x1 x2 e h1 h2) hlen hby (by simp; omega) fun v' w' g2 g3 => h v' w' g2 ⟨⟨g3.by'.os, g3.by'.tape, g3.by'.output, Nat.le_trans (by simp) g3.by'.size, fun k hk hn => ?_⟩, ?_⟩
  · rw [g3.by'.block k (by simp; omega) hn]; exact Below.heap_alloc W _ k hk
  · rcases g3.blk with e | e
    · exact .inl e
    · exact .inr fun k hk => by have := e k hk; simp at this; omega

theorem own_shape' {w : World} {B : Nat} {e : TypeId} {sz : Nat} {v : Value} {n : Nat} {vs : List Value} (h : w.ownsRow B e sz v n vs) : ∃ ao c, v = .slice ao n c := by
  rcases h.2 with ⟨rfl, rfl⟩ | ⟨g, cap, cur, rfl, _⟩
  · exact ⟨none, 0, rfl⟩
  · exact ⟨_, _, rfl⟩

def bothV (m : Nat) : Value := .agg #[.iface 26 (.agg #[.int .i64 m]), .iface 29 (.agg #[])]

set_option maxHeartbeats 3200000 in
set_option maxRecDepth 100000 in
theorem bothNext_any (m n : Nat) (l : List Nat) (w : World) (hn : n ≤ 20000) (hm : m ≤ 20000) (hl : l.length ≤ 64) (hb : ∀ x ∈ l, x < 256) (hs : l.sum ≤ 64) (h1 : (hN m n).length ≤ 20000) (h2 : (sN l).length ≤ 20000) :
    Calls Try.prog 45 #[bothV m, encQ (n, l)] w fun e w' => ∃ u, e = .returned u ∧ QIn w' u (pN m (n, l)) ∧ Ext w w' := by
  unfold bothV encQ
  obtain ⟨wo, rfl⟩ : ∃ wo : World, wo = w := ⟨_, rfl⟩
  have HH := Lib.hid (fun W => heapNext_any m n W hn hm)
  have HS := Lib.hid (fun W => splitNext_any l W hl hb hs)
  have HP : Hid (pN m (n, l) = (hN m n).map (fun a => (a, l)) ++ (sN l).map fun b => (n, b)) := rfl
  obtain ⟨PN, hPN⟩ : ∃ PN, pN m (n, l) = PN := ⟨_, rfl⟩
  rw [hPN] at HP ⊢
  obtain ⟨AN, hAN⟩ : ∃ AN, hN m n = AN := ⟨_, rfl⟩
  obtain ⟨BN, hBN⟩ : ∃ BN, sN l = BN := ⟨_, rfl⟩
  rw [hAN] at HH HP h1
  rw [hBN] at HS HP h2
  clear hPN hAN hBN hl hb hs hn hm
  obtain ⟨W1, hW1⟩ : ∃ W1, (wo.alloc (.cells #[.iface 26 (.agg #[.int .i64 (m : Int)]), .iface 29 (.agg #[])] 35)).alloc (.cells #[.int .i64 (n : Int), .string (bys l)] 37) = W1 := ⟨_, rfl⟩
  obtain ⟨T1, hT1⟩ : ∃ T1, wo.heap.size = T1 := ⟨_, rfl⟩
  have X1 : Ext wo W1 := by rw [← hW1]; exact ((Ext.refl wo).alloc _).alloc _
  have y0 : W1.cell? ⟨T1, 0, none⟩ = some (.iface 26 (.agg #[.int .i64 (m : Int)])) := by rw [← hW1, ← hT1]; simp [go_sem]
  have y1 : W1.cell? ⟨T1, 1, none⟩ = some (.iface 29 (.agg #[])) := by rw [← hW1, ← hT1]; simp [go_sem]
  have y2 : W1.cell? ⟨T1 + 1, 0, none⟩ = some (.int .i64 (n : Int)) := by rw [← hW1, ← hT1]; simp [go_sem]
  have y3 : W1.cell? ⟨T1 + 1, 1, none⟩ = some (.string (bys l)) := by rw [← hW1, ← hT1]; simp [go_sem]
  have hB1 : T1 ≤ W1.heap.size := by rw [← hT1]; exact X1.size
  obtain ⟨SB, hSB⟩ : ∃ SB, bys l = SB := ⟨_, rfl⟩
  have HSB := Lib.hid hSB
  rw [hSB] at hW1 y3 HS ⊢
  have HX1 := Lib.hid X1
  clear hSB X1
  go_enter Try.func45, Try.ntmps45
  go_wp2_with fail
  refine (HH.out _).mono ?_
  rintro e w2 ⟨u2, rfl, hA, X2⟩
  have z1 := X2.cell y1
  have z2 := X2.cell y2
  have z3 := X2.cell y3
  obtain ⟨ao, ac, rfl, hal, hac⟩ := hA.open
  have HAC := Lib.hid hac
  have HX2 := Lib.hid X2
  clear hA hac X2 y1 y2 y3
  go_wp2_with fail
  go_loopw [5, 16] (fun u5 iv wr => ∃ (i : Nat), i ≤ AN.length ∧ iv = .int .i64 i ∧ Hid (wr.ownsRow w2.heap.size 37 2 u5 i (flatQ ((AN.take i).map fun a => (a, l)))) ∧ Ext w2 wr) (fun _ iv _ => AN.length - (intOf iv).toNat)
  case atStart => exact ⟨0, Nat.zero_le _, rfl, World.ownsRow_nil _ _ _ _, Ext.refl _⟩
  case round =>
    obtain ⟨i, hi, rfl, HO, X⟩ := hrel
    have q1 := X.cell z1
    have q2 := X.cell z2
    have q3 := X.cell z3
    by_cases hlt : i < AN.length
    · obtain ⟨x, d1, d2, d3⟩ := get_lt hlt
      obtain ⟨b, off, rfl, hc0⟩ := (HAC.out.ext X).at d1
      have hcell : wr.cell? ⟨b, off + i, none⟩ = some (.int .i64 (x : Int)) := hc0
      have hii : (i : Int) < (AN.length : Int) := by omega
      have e1 : i + 1 ≤ 17592186044416 := by omega
      have e2 : (i + 1) * 24 ≤ 140737488355328 := by omega
      have hbk : w2.heap.size ≤ wr.heap.size := X.size
      clear hc0
      go_wp2_with (first | (at_builtin; go_must (refine wp_appQ rfl rfl ei_q HO.out rfl rfl (by simp) rfl rfl e1 e2 (by simpa using hbk) ?_); intro v' w' hown hgrew))
      go_roundw
      case rel =>
        refine ⟨i + 1, by omega, by go_num, ?_, hgrew.ext X fun k hk => (HO.out.lt k hk).1⟩
        show World.ownsRow _ _ _ _ _ _ _
        rw [d3.out, List.map_append, flatQ_app]
        show World.ownsRow _ _ _ _ _ _ (_ ++ [Value.int .i64 (x : Int), Value.string (bys l)])
        rw [HSB.out]
        exact hown
      case measure => simp [intOf]; omega
    · have hie : i = AN.length := by omega
      subst hie
      rw [List.take_length] at HO
      obtain ⟨wl, rfl⟩ : ∃ wl : World, wl = wr := ⟨_, rfl⟩
      clear HAC
      go_wp2_with fail
      refine (HS.out _).mono ?_
      rintro e w3 ⟨u3, rfl, hS3, X3⟩
      have r2 := X3.cell q2
      have HO3 := Lib.hid (own_ext HO.out X3)
      have HRX : Hid (RowX (Value.ownBlock u5) w3 u3 (BN.map encB)) := by
        refine ⟨own_row hS3 (by omega), ?_⟩
        by_cases h0 : BN = []
        · exact .inl (by rw [h0]; rfl)
        · obtain ⟨g3, cap3, hg3, hg4, _⟩ := own_open hS3 (List.length_pos_iff.2 h0)
          refine .inr fun e => ?_
          rw [hg3] at e
          have h9 := (HO.out.lt _ e.symm).2
          exact absurd h9 (by show ¬ g3 < _; omega)
      obtain ⟨bo, bc, hu3⟩ := own_shape' hS3
      subst hu3
      have HX3 := Lib.hid (HX1.out.trans (HX2.out.trans (X.trans X3)))
      have HB3 : w2.heap.size ≤ w3.heap.size := (X.trans X3).size
      have X4 : Ext w2 w3 := X.trans X3
      clear hS3 X3 q1 q2 q3 z1 z3 HO X
      go_wp2_with fail
      go_loopw [5, 34] (fun u5 iv wr => ∃ (i : Nat), i ≤ BN.length ∧ iv = .int .i64 i ∧ Hid (wr.ownsRow w2.heap.size 37 2 u5 (AN.length + i) (flatQ ((AN.map fun a => (a, l)) ++ (BN.take i).map fun b => (n, b)))) ∧ Hid (RowX (Value.ownBlock u5) wr (.slice bo BN.length bc) (BN.map encB)) ∧ Ext w2 wr) (fun _ iv _ => BN.length - (intOf iv).toNat)
      case atStart => exact ⟨0, Nat.zero_le _, rfl, by show World.ownsRow _ _ _ _ _ _ _; rw [List.take_zero, List.map_nil, List.append_nil]; exact HO3.out, HRX.out, X4⟩
      case round =>
        clear HO3 HRX r2 X4
        obtain ⟨i, hi, rfl, HO, HRX, X⟩ := hrel
        have q2 := X.cell z2
        by_cases hlt2 : i < BN.length
        · obtain ⟨x, d1, d2, d3⟩ := get_lt hlt2
          obtain ⟨b, off, rfl, hc0⟩ := Row.at HRX.out.1 (j := i) (p := encB x) (by show _ = _; rw [List.getElem?_map, d1.out]; rfl)
          have hcell : wr.cell? ⟨b, off + i, none⟩ = some (.string (bys x)) := hc0
          have hii : (i : Int) < (BN.length : Int) := by omega
          have e1 : AN.length + i + 1 ≤ 17592186044416 := by omega
          have e2 : (AN.length + i + 1) * 24 ≤ 140737488355328 := by omega
          have hbk : w2.heap.size ≤ wr.heap.size := X.size
          clear hc0
          go_wp2_with (first | (at_builtin; go_must (refine wp_appQ rfl rfl ei_q HO.out rfl rfl (by simp) rfl rfl e1 e2 (by simpa using hbk) ?_); intro v' w' hown hgrew))
          go_roundw
          case rel =>
            refine ⟨i + 1, by omega, by go_num, ?_, hgrew.row HRX.out, hgrew.ext X fun k hk => (HO.out.lt k hk).1⟩
            show World.ownsRow _ _ _ _ _ _ _
            rw [d3.out, List.map_append, ← List.append_assoc, flatQ_app, ← Nat.add_assoc]
            exact hown
          case measure => simp [intOf]; omega
        · have hie : i = BN.length := by omega
          subst hie
          have hpn : PN = (AN.map fun a => (a, l)) ++ (BN.map fun b => (n, b)) := HP.out
          have hpl : PN.length = AN.length + BN.length := by rw [hpn, List.length_append, List.length_map, List.length_map]
          have HOF : Hid (QO wr w2.heap.size u5 PN) := by
            show World.ownsRow _ _ _ _ _ _ _
            rw [hpl, hpn]
            have := HO.out
            rw [List.take_length] at this
            exact this
          have HPL := Lib.hid hpl
          clear hpn hpl
          go_wp2_with fail
          go_ret
          exact ⟨_, rfl, HOF.out.toIn (by rw [HPL.out]; omega), HX1.out.trans (HX2.out.trans X)⟩
end Go.Proofs.Ytnmcljjfepngeaa
