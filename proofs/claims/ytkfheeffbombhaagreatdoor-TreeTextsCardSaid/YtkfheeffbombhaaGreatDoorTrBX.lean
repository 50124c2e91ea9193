/- texts merged: TrBA TrBB TrBC TrBD -/
import Derived.Test.YtkfheeffbombhaaGreatDoorTrQX
import Derived.Test.YtkfheeffbombhaaGreatDoorRtK
import Derived.Test.YtkfheeffbombhaaGreatDoorTrYX
import Derived.Test.YtkfheeffbombhaaGreatDoorNatI
import Derived.Test.YtkfheeffbombhaaGreatDoorRatAL
import Derived.BigQuiet
/- walks of the laws: mild; of the reference: Chance -/
namespace Go.Proofs.YtkfheeffbombhaaGreatDoor
open Go.RowKit
set_option linter.unusedVariables false

/-! ### mild -/
set_option maxRecDepth 100000 in
theorem mildClo_any (s : ByteArray) (w : World) (hs : s.size ≤ 9223372036854775806) :
    Calls Tryz.prog 57 #[.string s] w fun e w' => e = .returned (.bool (decide (12 < s.size))) ∧ Ext w w' := by
  obtain ⟨n, hn⟩ : ∃ n, s.size = n := ⟨_, rfl⟩
  by_cases h : 12 < n
  · have hd : decide (12 < s.size) = true := by rw [hn]; exact decide_eq_true h
    have hb : (12 : Int) < (n : Int) := by omega
    rw [hd]
    clear hd
    go_enter Tryz.func57, Tryz.ntmps57
    go_wp2_with fail
    go_ret
    exact ⟨rfl, Ext.refl _⟩
  · have hd : decide (12 < s.size) = false := by rw [hn]; exact decide_eq_false h
    have hb : ¬ (12 : Int) < (n : Int) := by omega
    rw [hd]
    clear hd
    go_enter Tryz.func57, Tryz.ntmps57
    go_wp2_with fail
    go_ret
    exact ⟨rfl, Ext.refl _⟩
def bulkB (l : List ByteArray) : Bool := l.any fun s => decide (12 < s.size)
def smallB (x : Nd) : Bool := !(decide (12 < x.pay.size)) && !(bulkB x.odds)
def mildB (T : List Nd) : Bool := T.all smallB && decide (T.length ≤ 40)

set_option maxHeartbeats 3200000 in
set_option maxRecDepth 100000 in
theorem mild_any (v : Value) (T : List Nd) (w : World) (hv : TreeIn w v T) (hz : TreeSz T) :
    Calls Tryz.prog 17 #[v] w fun e w' => e = .returned (.bool (mildB T)) ∧ Ext w w' := by
  obtain ⟨wo, rfl⟩ : ∃ wo : World, wo = w := ⟨_, rfl⟩
  obtain ⟨ao, c, rfl, hlen, hn⟩ := hv.open
  have HN := Lib.hid hn
  have HZ := Lib.hid hz
  obtain ⟨Q, hQ⟩ : ∃ Q, mildB T = Q := ⟨_, rfl⟩
  have HQ := Lib.hid hQ
  rw [hQ]
  clear hn hv hQ hz
  go_enter Tryz.func17, Tryz.ntmps17
  go_wp2_with fail
  go_loopw [7] (fun iv wr => ∃ (i : Nat), i ≤ T.length ∧ iv = .int .i64 i ∧ Hid (((T.drop i).all smallB && decide (T.length ≤ 40)) = Q) ∧ Ext wo wr) (fun iv _ => T.length - (intOf iv).toNat)
  case atStart => exact ⟨0, Nat.zero_le _, rfl, HQ.out, Ext.refl _⟩
  case round =>
    obtain ⟨i, hi, rfl, HE, X⟩ := hrel
    by_cases hlt : i < T.length
    · obtain ⟨x, d1, d2, d3⟩ := get_lt hlt
      obtain ⟨b, off, no, nc, oo, oc, rfl, c0, c1, c2, c3, c4, c5, _, ho, _⟩ := HN.out.at d1
      have c0 := X.cell c0
      have c1 := X.cell c1
      have c2 := X.cell c2
      have c3 := X.cell c3
      have c4 := X.cell c4
      have c5 := X.cell c5
      have hii : (i : Int) < (T.length : Int) := by omega
      have hE := HE.out
      rw [d2.out, List.all_cons] at hE
      obtain ⟨hz1, hz2⟩ := HZ.out x (List.mem_of_getElem? d1.out)
      have HZ2 := Lib.hid hz2
      have HOS := Lib.hid ho
      obtain ⟨kx, hkx⟩ : ∃ kx, x.kind = kx := ⟨_, rfl⟩
      obtain ⟨px, hpx⟩ : ∃ px, x.player = px := ⟨_, rfl⟩
      obtain ⟨qx, hqx⟩ : ∃ qx, x.info = qx := ⟨_, rfl⟩
      obtain ⟨nx, hnx⟩ : ∃ nx, x.next.length = nx := ⟨_, rfl⟩
      obtain ⟨ox, hox⟩ : ∃ ox, x.odds.length = ox := ⟨_, rfl⟩
      obtain ⟨yx, hyx⟩ : ∃ yx, x.pay = yx := ⟨_, rfl⟩
      obtain ⟨os, hos⟩ : ∃ os, x.odds = os := ⟨_, rfl⟩
      unfold smallB at hE
      rw [hkx] at c0
      rw [hpx] at c1
      rw [hqx] at c2
      rw [hnx] at c3
      rw [hox] at c4 HOS
      rw [hyx] at c5 hE hz1
      rw [hos] at HOS HZ2 hE
      obtain ⟨T7, hT7⟩ : ∃ T7, wr.heap.size = T7 := ⟨_, rfl⟩
      obtain ⟨W1, hW1⟩ : ∃ W1, wr.alloc (.cells #[.int .i64 kx, .int .i64 px, .int .i64 qx, .slice no nx nc, .slice oo ox oc, .string yx] 38) = W1 := ⟨_, rfl⟩
      have X1 : Ext wr W1 := by rw [← hW1]; exact (Ext.refl wr).alloc _
      have y0 : W1.cell? ⟨T7, 4, none⟩ = some (.slice oo ox oc) := by rw [← hW1, ← hT7]; simp [go_sem]
      have y1 : W1.cell? ⟨T7, 5, none⟩ = some (.string yx) := by rw [← hW1, ← hT7]; simp [go_sem]
      have HX1 := Lib.hid (X.trans X1)
      have HCF := Lib.hid (fun W (hX : Ext wo W) => containsFunc_rats (.slice oo ox oc) (os.map Value.string) (os.map fun s => decide (12 < s.size)) 57 #[] W (HOS.out.ext hX) (by rw [List.length_map, List.length_map]) (fun _ _ => by kernel_rfl)
        (fun j u q W2 hu hq h2 => by
          rw [List.getElem?_map] at hu hq
          cases hy : os[j]? with
          | none => rw [hy] at hu; cases hu
          | some y =>
            rw [hy] at hu hq
            simp only [Option.map_some, Option.some.injEq] at hu hq
            subst hu; subst hq
            exact mildClo_any y W2 (HZ2.out y (List.mem_of_getElem? hy)))
        (bulkB os) (by show _ = _; rw [List.any_map]; rfl))
      obtain ⟨py, hpy⟩ : ∃ py, yx.size = py := ⟨_, rfl⟩
      obtain ⟨B, hB⟩ : ∃ B, bulkB os = B := ⟨_, rfl⟩
      rw [hpy] at hE hz1
      rw [hB] at hE HCF
      clear d1 d2 d3 hkx hpx hqx hnx hox hyx hos X1 HE hB HZ2 HOS ho hz2
      by_cases a1 : 12 < py
      · have hq : Q = false := by rw [← hE, decide_eq_true a1]; rfl
        subst hq
        have hb : (12 : Int) < (py : Int) := by omega
        clear hE a1 hlt HCF
        go_wp2_with fail
        go_ret
        exact ⟨rfl, HX1.out⟩
      · have hb : ¬ (12 : Int) < (py : Int) := by omega
        rw [decide_eq_false a1] at hE
        cases B with
        | true =>
          have hq : Q = false := by rw [← hE]; rfl
          subst hq
          clear hE a1 hlt
          go_wp2_with fail
          refine (HCF.out _ HX1.out).mono ?_
          rintro e w5 ⟨rfl, X5⟩
          go_wp2_with fail
          go_ret
          exact ⟨rfl, HX1.out.trans X5⟩
        | false =>
          have HE := Lib.hid hE
          clear hE a1 hlt
          go_wp2_with fail
          refine (HCF.out _ HX1.out).mono ?_
          rintro e w5 ⟨rfl, X5⟩
          go_wp2_with fail
          go_roundw
          case rel => exact ⟨i + 1, by omega, by go_num, by show _ = _; rw [← HE.out]; rfl, HX1.out.trans X5⟩
          case measure => simp [intOf]; omega
    · have hie : i = T.length := by omega
      subst hie
      have hE := HE.out
      rw [List.drop_length, List.all_nil, Bool.true_and] at hE
      have hge : ¬ (T.length : Int) < (T.length : Int) := by omega
      subst hE
      clear HE HQ hlt
      go_wp2_with fail
      go_ret
      exact ⟨ret_bool (by simp only [decide_eq_decide]; omega), X⟩
end Go.Proofs.YtkfheeffbombhaaGreatDoor/- walk of the reference: Chance -/
namespace Go.Proofs.YtkfheeffbombhaaGreatDoor
open Go.RowKit
set_option linter.unusedVariables false

/-! ### plain: strategies that fit a game; bounds of chances -/
structure FitS (T : List Nd) (p : Int) (S : List Ch) : Prop where
  nd : (S.map (·.1)).Nodup
  ok : ∀ c ∈ S, ∀ s ∈ c.2, RatOk s
  wide : ∀ c ∈ S, ∀ x ∈ T, x.kind = 2 → x.player = p → x.info = c.1 → x.next.length ≤ c.2.length
theorem FitS.take {T : List Nd} {p : Int} {S : List Ch} (h : FitS T p S) (j : Nat) : FitS T p (S.take j) :=
  ⟨by rw [List.map_take]; exact h.nd.sublist (List.take_sublist _ _), fun c hc => h.ok c (List.mem_of_mem_take hc), fun c hc => h.wide c (List.mem_of_mem_take hc)⟩
theorem pick_none {q : Int} {c : Nat} : ∀ {S : List Ch} {a : Rat}, (∀ s ∈ S, s.1 ≠ q) → pickP S q c a = a
  | [], _, _ => rfl
  | s :: t, a, h => by
    show pickP t q c (if s.1 = q then _ else a) = a
    rw [if_neg (h s (List.mem_cons_self ..))]
    exact pick_none fun x hx => h x (List.mem_cons_of_mem _ hx)
theorem odd_RB {os : List ByteArray} (h : ∀ s ∈ os, RatOk s) (c : Nat) : RB 2000 (((os[c]?).map ratOf).getD 1) := by
  cases hc : os[c]? with
  | none => exact RB_1.mono (by omega)
  | some s => exact ratOf_RB2k (h s (List.mem_of_getElem? hc))
theorem pick_RB {q : Int} {c m : Nat} : ∀ {S : List Ch} {a : Rat}, (S.map (·.1)).Nodup → (∀ c ∈ S, ∀ s ∈ c.2, RatOk s) → RB m a → RB (m + 2000) (pickP S q c a)
  | [], a, _, _, ha => ha.mono (by omega)
  | s :: t, a, hn, ho, ha => by
    rw [List.map_cons, List.nodup_cons] at hn
    show RB _ (pickP t q c (if s.1 = q then _ else a))
    by_cases h : s.1 = q
    · rw [if_pos h, pick_none fun x hx e => hn.1 (by rw [h, ← e]; exact List.mem_map_of_mem hx)]
      exact RB_mul ha (odd_RB (ho s (List.mem_cons_self ..)) c)
    · rw [if_neg h]
      exact pick_RB hn.2 (fun x hx => ho x (List.mem_cons_of_mem _ hx)) ha
theorem pick_step {q : Int} {c j : Nat} {S : List Ch} {s : Ch} (hs : S[j]? = some s) (a : Rat) : pickP (S.take (j + 1)) q c a = if s.1 = q then pickP (S.take j) q c a * ((s.2[c]?).map ratOf).getD 1 else pickP (S.take j) q c a := by
  obtain ⟨h1, h2⟩ := List.getElem?_eq_some_iff.1 hs
  unfold pickP
  rw [List.take_succ_eq_append_getElem h1, h2, List.foldl_append]; rfl
def givG (g0 g1 : Bool) (S0 S1 : List Ch) (p : Int) : Option (List Ch) := if p = 0 then (if g0 = true then some S0 else none) else if p = 1 then (if g1 = true then some S1 else none) else none
theorem facP_RB {T : List Nd} (hT : Valid T) {G : Int → Option (List Ch)} (hG : ∀ p S, G p = some S → FitS T p S) {m : Nat} {a : Rat} (ha : RB m a) (s : Nat × Nat) : RB (m + 2000) (facP T G a s) := by
  unfold facP
  cases hx : T[s.1]? with
  | none => exact ha.mono (by omega)
  | some x =>
    dsimp only
    by_cases k1 : x.kind = 1
    · rw [if_pos k1]
      exact RB_mul ha (odd_RB (odds_ok hT hx) s.2)
    · rw [if_neg k1]
      by_cases k2 : x.kind = 2
      · rw [if_pos k2]
        cases hg : G x.player with
        | none => exact ha.mono (by omega)
        | some S => exact pick_RB (hG _ S hg).nd (hG _ S hg).ok ha
      · rw [if_neg k2]; exact ha.mono (by omega)
theorem fold_RB {T : List Nd} (hT : Valid T) {G : Int → Option (List Ch)} (hG : ∀ p S, G p = some S → FitS T p S) : ∀ (l : List (Nat × Nat)) (m : Nat) (a : Rat), RB m a → RB (m + 2000 * l.length) (l.foldl (facP T G) a)
  | [], m, a, ha => ha
  | s :: t, m, a, ha => by
    rw [List.foldl_cons, List.length_cons]
    exact (fold_RB hT hG t _ _ (facP_RB hT hG ha s)).mono (by omega)
theorem givG_fit {T : List Nd} {g0 g1 : Bool} {S0 S1 : List Ch} (h0 : g0 = true → FitS T 0 S0) (h1 : g1 = true → FitS T 1 S1) : ∀ p S, givG g0 g1 S0 S1 p = some S → FitS T p S := fun p S h => by
  unfold givG at h
  by_cases hp : p = 0
  · rw [if_pos hp] at h
    by_cases hg : g0 = true
    · rw [if_pos hg] at h
      rw [hp, ← Option.some.inj h]; exact h0 hg
    · rw [if_neg hg] at h; cases h
  · rw [if_neg hp] at h
    by_cases hp1 : p = 1
    · rw [if_pos hp1] at h
      by_cases hg : g1 = true
      · rw [if_pos hg] at h
        rw [hp1, ← Option.some.inj h]; exact h1 hg
      · rw [if_neg hg] at h; cases h
    · rw [if_neg hp1] at h; cases h

set_option maxHeartbeats 6400000 in
set_option maxRecDepth 100000 in
theorem rChance_any (v a b : Value) (g0 g1 : Bool) (T : List Nd) (S0 S1 : List Ch) (k : Nat) (w : World) (hv : TreeIn w v T) (hT : Valid T) (hk : k < T.length) (ha : StrIn w a S0) (hb : StrIn w b S1)
    (h0 : g0 = true → FitS T 0 S0) (h1 : g1 = true → FitS T 1 S1) :
    Calls Tryz.prog 18 #[v, .int .i64 (k : Int), .agg #[a, b], .agg #[.bool g0, .bool g1]] w fun e w' => e = .returned (.string (ratT (chanceT T (givG g0 g1 S0 S1) k))) ∧ Ext w w' := by
  obtain ⟨wo, rfl⟩ : ∃ wo : World, wo = w := ⟨_, rfl⟩
  have HPA := Lib.hid (fun W (hx : Ext wo W) => rPath_any v T k W (hv.ext hx) hT hk)
  have HPM := Lib.hid (path_mem hT k k (Nat.le_refl _) hk)
  have HPL := path_len hT k k (Nat.le_refl _) hk
  have hl := hT.len
  obtain ⟨ao, c, rfl, hlen, hn⟩ := hv.open
  have HN := Lib.hid hn
  obtain ⟨s0o, s0c, rfl, hsl0, hs0⟩ := ha.open
  obtain ⟨s1o, s1c, rfl, hsl1, hs1⟩ := hb.open
  obtain ⟨T3, hT3⟩ : ∃ T3, wo.heap.size = T3 := ⟨_, rfl⟩
  obtain ⟨W3, hW3⟩ : ∃ W3, wo.alloc (.cells #[.slice s0o S0.length s0c, .slice s1o S1.length s1c] 41) = W3 := ⟨_, rfl⟩
  have X3 : Ext wo W3 := by rw [← hW3]; exact (Ext.refl wo).alloc _
  have a0 : W3.cell? ⟨T3, 0, none⟩ = some (.slice s0o S0.length s0c) := by rw [← hW3, ← hT3]; simp [go_sem]
  have a1 : W3.cell? ⟨T3, 1, none⟩ = some (.slice s1o S1.length s1c) := by rw [← hW3, ← hT3]; simp [go_sem]
  obtain ⟨T4, hT4⟩ : ∃ T4, W3.heap.size = T4 := ⟨_, rfl⟩
  obtain ⟨W4, hW4⟩ : ∃ W4, W3.alloc (.cells #[.bool g0, .bool g1] 42) = W4 := ⟨_, rfl⟩
  have X4 : Ext W3 W4 := by rw [← hW4]; exact (Ext.refl W3).alloc _
  have b0 : W4.cell? ⟨T4, 0, none⟩ = some (.bool g0) := by rw [← hW4, ← hT4]; simp [go_sem]
  have b1 : W4.cell? ⟨T4, 1, none⟩ = some (.bool g1) := by rw [← hW4, ← hT4]; simp [go_sem]
  have a0 := X4.cell a0
  have a1 := X4.cell a1
  have HPLY : Hid (∀ p : Int, p = 0 ∨ p = 1 → ∃ (pn : Nat) (gp : Bool) (S : List Ch) (so : Option Addr) (sc : Nat), p = (pn : Int) ∧ pn < 2 ∧ W4.cell? ⟨T4, pn, none⟩ = some (.bool gp) ∧ W4.cell? ⟨T3, pn, none⟩ = some (.slice so S.length sc) ∧ ChsOf wo so S ∧ S.length ≤ 17592186044416 ∧ givG g0 g1 S0 S1 p = (if gp = true then some S else none) ∧ (gp = true → FitS T p S)) := by
    intro p hp
    rcases hp with rfl | rfl
    · exact ⟨0, g0, S0, s0o, s0c, rfl, by omega, b0, a0, hs0, hsl0, rfl, h0⟩
    · exact ⟨1, g1, S1, s1o, s1c, rfl, by omega, b1, a1, hs1, hsl1, rfl, h1⟩
  have HX4 := Lib.hid (X3.trans X4)
  have HFB := Lib.hid (fun (l : List (Nat × Nat)) => fold_RB hT (givG_fit h0 h1) l 1 1 RB_1)
  have HOK := Lib.hid (fun (i : Nat) (x : Nd) (hx : T[i]? = some x) => odds_ok hT hx)
  have HND := Lib.hid hT.node
  obtain ⟨G, hG⟩ : ∃ G, givG g0 g1 S0 S1 = G := ⟨_, rfl⟩
  rw [hG] at HPLY HFB ⊢
  unfold chanceT
  unfold pathI at HPA
  obtain ⟨l, hll⟩ : ∃ l, path T k = l := ⟨_, rfl⟩
  rw [hll] at HPA HPM HPL ⊢
  have hl9 : l.length ≤ 120 := by omega
  have HR0 : Hid (∀ Q : Rat, (l.take 0).foldl (facP T G) 1 = 1) := fun _ => rfl
  clear hv hT hn hll hk ha hb h0 h1 hs0 hs1 hsl0 hsl1 X3 X4 hG a0 a1 b0 b1 HPL
  go_enter Tryz.func18, Tryz.ntmps18
  go_wp2_with fail
  refine (HPA.out _ HX4.out).mono ?_
  rintro e w1 ⟨u, rfl, hu, X1⟩
  obtain ⟨po, pc, rfl, _, hu2⟩ := hu.open
  have HU := Lib.hid hu2
  have HX1 := Lib.hid X1
  have hml : (l.map nI).length = l.length := List.length_map ..
  rw [hml]
  clear hu hu2 hml X1 HPA hW3 hT3 hW4 hT4
  go_wp2_with fail
  go_loopw [9, 19] (fun qv iv wr => ∃ (i : Nat) (q : Rat), i ≤ l.length ∧ iv = .int .i64 i ∧ qv = .string (ratT q) ∧ Hid (q = (l.take i).foldl (facP T G) 1) ∧ Ext w1 wr) (fun _ iv _ => l.length - (intOf iv).toNat)
  case atStart => exact ⟨0, 1, Nat.zero_le _, rfl, by rw [show ratT 1 = ⟨#[49]⟩ from by decide +kernel], rfl, Ext.refl _⟩
  case round =>
    obtain ⟨i, q, hi, rfl, rfl, HQ, Z⟩ := hrel
    by_cases hlt : i < l.length
    · obtain ⟨s, d1, d2, d3⟩ := get_lt hlt
      obtain ⟨pb, poff, rfl, f0, f1⟩ := (HU.out.ext Z).at (i := i) (p := nI s) (by show _ = _; rw [List.getElem?_map, d1.out]; rfl)
      obtain ⟨x, hx, hsx, hsk⟩ := HPM.out s (List.mem_of_getElem? d1.out)
      have ZZ := HX1.out.trans Z
      obtain ⟨b2, off2, no, nc, oo, oc, rfl, c0, c1, c2, c3, c4, c5, _, hod, _⟩ := (HN.out.ext (HX4.out.trans ZZ)).at (show Hid (T[s.1]? = some x) from hx)
      have hii : (i : Int) < (l.length : Int) := by omega
      have hnode := HND.out s.1 x hx
      have hxT := Valid.lt hx
      have hok := HOK.out _ _ hx
      have HXM := Lib.hid (List.mem_of_getElem? hx)
      -- the next product
      have HQ1 : Hid ((l.take (i + 1)).foldl (facP T G) 1 = facP T G q s) := by
        show _ = _
        rw [d3.out, List.foldl_append, HQ.out]; rfl
      have HFAC : Hid (facP T G q s = if x.kind = 1 then q * ((x.odds[s.2]?).map ratOf).getD 1 else if x.kind = 2 then (match G x.player with | none => q | some S => pickP S x.info s.2 q) else q) := by
        show facP T G q s = _
        unfold facP
        rw [hx]
        dsimp only
        rfl
      have HRB : Hid (RB 240001 q) := by
        show RB _ _
        rw [HQ.out]
        refine (HFB.out (l.take i)).mono ?_
        rw [List.length_take]
        omega
      obtain ⟨sa, sb⟩ := s
      unfold nI at f0 f1
      dsimp only at f0 f1 c0 c1 c2 c3 c4 c5 hsx hxT HFAC
      obtain ⟨T7, hT7⟩ : ∃ T7, wr.heap.size = T7 := ⟨_, rfl⟩
      obtain ⟨W5, hW5⟩ : ∃ W5, wr.alloc (.cells #[.int .i64 (sa : Int), .int .i64 (sb : Int)] 72) = W5 := ⟨_, rfl⟩
      have X5 : Ext wr W5 := by rw [← hW5]; exact (Ext.refl wr).alloc _
      have p0 : W5.cell? ⟨T7, 0, none⟩ = some (.int .i64 (sa : Int)) := by rw [← hW5, ← hT7]; simp [go_sem]
      have p1 : W5.cell? ⟨T7, 1, none⟩ = some (.int .i64 (sb : Int)) := by rw [← hW5, ← hT7]; simp [go_sem]
      have c0 := X5.cell c0
      have c1 := X5.cell c1
      have c2 := X5.cell c2
      have c3 := X5.cell c3
      have c4 := X5.cell c4
      have c5 := X5.cell c5
      have hsa : (sa : Int) < (T.length : Int) := by omega
      have hNX : x.next.length ≤ 6 := by
        rcases hnode with ⟨_, _, _, hN, _⟩ | ⟨_, _, _, _, _, _, hNE⟩ | ⟨_, _, _, _, _, _, hNE⟩
        · rw [hN]; exact Nat.zero_le _
        · exact (nextE_zero hNE).2.1
        · exact (nextE_zero hNE).2.1
      obtain ⟨T8, hT8⟩ : ∃ T8, W5.heap.size = T8 := ⟨_, rfl⟩
      rcases hnode with ⟨k0, _, _, hN, hO, _⟩ | ⟨k0, _, _, _, hOL, _, hNE⟩ | ⟨k0, hON, _, hpl, hi1, hi2, hNE⟩
      · -- an end has no child
        rw [hN] at hsx
        exact absurd hsx (by simp)
      · -- chance
        rw [k0] at HFAC c0
        rw [if_pos rfl] at HFAC
        obtain ⟨o, o1, _, _⟩ := get_lt (xs := x.odds) (k := sb) (by rw [hOL]; exact hsx)
        have HOO := Lib.hid (hok o (List.mem_of_getElem? o1.out))
        obtain ⟨oo2, oc2, e2, _, hoc⟩ := (hod.ext X5).open
        simp only [Value.slice.injEq] at e2
        obtain ⟨rfl, _, rfl⟩ := e2
        obtain ⟨ob, ooff, rfl, ho0⟩ := hoc.at o1
        rw [o1.out] at HFAC
        have HFC : Hid (facP T G q (sa, sb) = q * ratOf o) := HFAC.out
        clear HFAC
        have hos : (sb : Int) < (x.odds.length : Int) := by omega
        have ht : o = ratT (ratOf o) := text_ratT HOO.out
        have hrb : RB 2000 (ratOf o) := ratOf_RB2k HOO.out
        generalize ratOf o = r at *
        subst ht
        have HRM := Lib.hid (fun W => rMul_any (k := 240001) (m := 2000) (by omega) HRB.out hrb W)
        obtain ⟨px, hpx⟩ : ∃ px, x.player = px := ⟨_, rfl⟩
        obtain ⟨qx, hqx⟩ : ∃ qx, x.info = qx := ⟨_, rfl⟩
        obtain ⟨nx, hnx⟩ : ∃ nx, x.next.length = nx := ⟨_, rfl⟩
        obtain ⟨ox, hox⟩ : ∃ ox, x.odds.length = ox := ⟨_, rfl⟩
        obtain ⟨yx, hyx⟩ : ∃ yx, x.pay = yx := ⟨_, rfl⟩
        rw [hpx] at c1
        rw [hqx] at c2
        rw [hnx] at c3
        rw [hox] at c4 hos
        rw [hyx] at c5
        obtain ⟨W6, hW6⟩ : ∃ W6, W5.alloc (.cells #[.int .i64 1, .int .i64 px, .int .i64 qx, .slice no nx nc, .slice (some ⟨ob, ooff, none⟩) ox oc, .string yx] 38) = W6 := ⟨_, rfl⟩
        have X6 : Ext W5 W6 := by rw [← hW6]; exact (Ext.refl W5).alloc _
        have y0 : W6.cell? ⟨T8, 0, none⟩ = some (.int .i64 1) := by rw [← hW6, ← hT8]; simp [go_sem]
        have y1 : W6.cell? ⟨T8, 4, none⟩ = some (.slice (some ⟨ob, ooff, none⟩) ox oc) := by rw [← hW6, ← hT8]; simp [go_sem]
        have y2 := X6.cell p1
        have y3 := X6.cell ho0
        have HZ6 := Lib.hid (Z.trans (X5.trans X6))
        clear d1 d2 d3 hx hsx hsk hlt hpx hqx hnx hox hyx hok HOO hoc hod hOL hNE hrb HRB HXM o1 ZZ Z X5 X6 HQ ho0 hxT hNX
        go_wp2_with fail
        clear c0 c1 c2 c3 c4 c5 f0 f1 p0 p1
        refine (HRM.out _).mono ?_
        rintro e w7 ⟨rfl, X7⟩
        have y0 := X7.cell y0
        go_wp2_with fail
        go_roundw
        case rel => exact ⟨i + 1, q * r, by omega, by go_num, rfl, by show _ = _; rw [HQ1.out, HFC.out], HZ6.out.trans X7⟩
        case measure => simp [intOf]; omega
      · -- a move
        obtain ⟨pn, gp, S, so, sc, hpn, hp2, hgc, hsc, hS, hSl, hgv, hfit⟩ := HPLY.out x.player hpl
        rw [k0] at HFAC c0
        rw [if_neg (by decide), if_pos rfl, hgv] at HFAC
        rw [hpn] at c1
        have HFT := Lib.hid hfit
        have hSX := hS.ext (HX4.out.trans ZZ)
        have HS := Lib.hid hSX
        have hgc := (ZZ.trans X5).cell hgc
        have hsc := (ZZ.trans X5).cell hsc
        obtain ⟨qx, hqx⟩ : ∃ qx, x.info = qx := ⟨_, rfl⟩
        obtain ⟨nx, hnx⟩ : ∃ nx, x.next.length = nx := ⟨_, rfl⟩
        obtain ⟨ox, hox⟩ : ∃ ox, x.odds.length = ox := ⟨_, rfl⟩
        obtain ⟨yx, hyx⟩ : ∃ yx, x.pay = yx := ⟨_, rfl⟩
        have HNL := Lib.hid hnx
        have HQI := Lib.hid hqx
        have HSX : Hid (sb < nx) := by show _ < _; omega
        rw [hqx] at c2 HFAC
        rw [hnx] at c3
        rw [hox] at c4
        rw [hyx] at c5
        obtain ⟨W6, hW6⟩ : ∃ W6, W5.alloc (.cells #[.int .i64 2, .int .i64 (pn : Int), .int .i64 qx, .slice no nx nc, .slice oo ox oc, .string yx] 38) = W6 := ⟨_, rfl⟩
        have X6 : Ext W5 W6 := by rw [← hW6]; exact (Ext.refl W5).alloc _
        have y0 : W6.cell? ⟨T8, 0, none⟩ = some (.int .i64 2) := by rw [← hW6, ← hT8]; simp [go_sem]
        have y1 : W6.cell? ⟨T8, 1, none⟩ = some (.int .i64 (pn : Int)) := by rw [← hW6, ← hT8]; simp [go_sem]
        have y4 : W6.cell? ⟨T8, 2, none⟩ = some (.int .i64 qx) := by rw [← hW6, ← hT8]; simp [go_sem]
        have y2 := X6.cell p1
        have y3 := X6.cell hgc
        have y5 := X6.cell hsc
        have hpn2 : (pn : Int) < 2 := by omega
        have HZ6 := Lib.hid (Z.trans (X5.trans X6))
        have HW6 := Lib.hid (X5.trans X6)
        have hsl := hSl
        clear d1 d2 d3 hx hsx hsk hlt hnx hox hyx hok hod hNE ZZ Z X5 X6 HQ hxT hON hpl hi1 hi2 hgv hfit hSX hS hgc hsc hNX
        cases gp with
        | false =>
          have HFC : Hid (facP T G q (sa, sb) = q) := HFAC.out
          clear HFAC
          clear HFT HS HXM HRB hpn hqx
          go_wp2_with fail
          go_roundw
          case rel => exact ⟨i + 1, q, by omega, by go_num, rfl, by show _ = _; rw [HQ1.out, HFC.out], HZ6.out⟩
          case measure => simp [intOf]; omega
        | true =>
          have hfit := HFT.out rfl
          have HFC : Hid (facP T G q (sa, sb) = pickP S qx sb q) := HFAC.out
          clear HFAC
          have HPR := Lib.hid (fun (j : Nat) => pick_RB (q := qx) (c := sb) (hfit.take j).nd (hfit.take j).ok HRB.out)
          have HSOK := Lib.hid hfit.ok
          have HSW := Lib.hid (fun (ch : Ch) (hc : ch ∈ S) (h : qx = ch.1) => (by
            have := hfit.wide ch hc x HXM.out k0 rfl (by rw [hqx]; exact h)
            have := HSX.out
            have := HNL.out
            omega : sb < ch.2.length))
          clear HFT hfit HXM HRB hpn hqx k0
          go_wp2_with fail
          clear c0 c1 c2 c3 c4 c5 f0 f1 p0 p1 y1 y3 y5 y0
          obtain ⟨wq, rfl⟩ : ∃ wq : World, wq = wr := ⟨_, rfl⟩
          have HY4 := Lib.hid y4
          have HY2 := Lib.hid y2
          clear y4 y2 hW5 hW6 hT7 hT8
          go_loopw [9, 53] (fun qv jv wr => ∃ (j : Nat) (r : Rat), j ≤ S.length ∧ jv = .int .i64 j ∧ qv = .string (ratT r) ∧ Hid (r = pickP (S.take j) qx sb q) ∧ Ext W6 wr) (fun _ jv _ => S.length - (intOf jv).toNat)
          case atStart => exact ⟨0, q, Nat.zero_le _, rfl, rfl, rfl, Ext.refl _⟩
          case round =>
            obtain ⟨j, r, hj, rfl, rfl, HR, X⟩ := hrel
            by_cases hlj : j < S.length
            · obtain ⟨ch, e1, _, _⟩ := get_lt hlj
              obtain ⟨sb2, soff, co, cc, rfl, g0', g1', hco⟩ := (HS.out.ext (HW6.out.trans X)).at e1
              have hjj : (j : Int) < (S.length : Int) := by omega
              have HPS := Lib.hid (pick_step (q := qx) (c := sb) e1.out q)
              have HCM := Lib.hid (List.mem_of_getElem? e1.out)
              have HOKC := Lib.hid (HSOK.out ch HCM.out)
              have HWC := Lib.hid (HSW.out ch HCM.out)
              have hrb : RB 242001 r := by rw [HR.out]; exact HPR.out j
              obtain ⟨ci, os⟩ := ch
              dsimp only at g0' g1' hco HPS HOKC HWC
              rw [← HR.out] at HPS
              have y4 := X.cell HY4.out
              have y2 := X.cell HY2.out
              obtain ⟨T9, hT9⟩ : ∃ T9, wr.heap.size = T9 := ⟨_, rfl⟩
              obtain ⟨W9, hW9⟩ : ∃ W9, wr.alloc (.cells #[.int .i64 ci, .slice co os.length cc] 74) = W9 := ⟨_, rfl⟩
              have X9 : Ext wr W9 := by rw [← hW9]; exact (Ext.refl wr).alloc _
              have z0 : W9.cell? ⟨T9, 0, none⟩ = some (.int .i64 ci) := by rw [← hW9, ← hT9]; simp [go_sem]
              have z1 : W9.cell? ⟨T9, 1, none⟩ = some (.slice co os.length cc) := by rw [← hW9, ← hT9]; simp [go_sem]
              have y4 := X9.cell y4
              have y2 := X9.cell y2
              have HX9 := Lib.hid (X.trans X9)
              by_cases hci : ci = qx
              · have HPQ : Hid (pickP (S.take (j + 1)) qx sb q = r * ((os[sb]?).map ratOf).getD 1) := by show _ = _; rw [HPS.out, if_pos hci]
                obtain ⟨o, o1, _, _⟩ := get_lt (xs := os) (k := sb) (HWC.out hci.symm)
                have HOO := Lib.hid (HOKC.out o (List.mem_of_getElem? o1.out))
                have hsl9 : (sb : Int) < (os.length : Int) := by have := HWC.out hci.symm; omega
                obtain ⟨co2, cc2, e2, _, hoc⟩ := (hco.ext X9).open
                simp only [Value.slice.injEq] at e2
                obtain ⟨rfl, _, rfl⟩ := e2
                obtain ⟨ob, ooff, rfl, ho0⟩ := hoc.at o1
                have HPF : Hid (pickP (S.take (j + 1)) qx sb q = r * ratOf o) := by show _ = _; rw [HPQ.out, o1.out]; rfl
                have ht : o = ratT (ratOf o) := text_ratT HOO.out
                have hro : RB 2000 (ratOf o) := ratOf_RB2k HOO.out
                clear HPQ HOO o1 HPS HOKC HWC HCM hoc hco e1 hlj
                generalize ratOf o = r2 at *
                subst ht
                have HRM := Lib.hid (fun W => rMul_any (k := 242001) (m := 2000) (by omega) hrb hro W)
                subst hci
                clear hrb hro HR X X9
                go_wp2_with fail
                refine (HRM.out _).mono ?_
                rintro e w10 ⟨rfl, X10⟩
                go_wp2_with fail
                go_roundw
                case rel => exact ⟨j + 1, r * r2, by omega, by go_num, rfl, by show _ = _; rw [HPF.out], HX9.out.trans X10⟩
                case measure => simp [intOf]; omega
              · have HPF : Hid (pickP (S.take (j + 1)) qx sb q = r) := by show _ = _; rw [HPS.out, if_neg hci]
                have hb1 : (ci == qx) = false := by rw [beq_eq_false_iff_ne]; exact hci
                clear hrb HR X X9 HPS HOKC HWC HCM hco e1 hlj hci
                go_wp2_with fail
                go_roundw
                case rel => exact ⟨j + 1, r, by omega, by go_num, rfl, by show _ = _; rw [HPF.out], HX9.out⟩
                case measure => simp [intOf]; omega
            · have hje : j = S.length := by omega
              subst hje
              have HRE : Hid (r = pickP S qx sb q) := by have h := HR.out; rwa [List.take_of_length_le (Nat.le_refl _)] at h
              have hge : ¬ (S.length : Int) < (S.length : Int) := by omega
              clear hlj HR
              go_wp2_with fail
              go_roundw
              case rel => exact ⟨i + 1, r, by omega, by go_num, rfl, by show _ = _; rw [HQ1.out, HFC.out, HRE.out], HZ6.out.trans X⟩
              case measure => simp [intOf]; omega
    · have hil : l.length = i := by omega
      have hq := HQ.out
      rw [List.take_of_length_le (by omega)] at hq
      have hge : ¬ (i : Int) < (l.length : Int) := by omega
      clear hlt
      go_wp2_with fail
      go_ret
      exact ⟨rfl, HX4.out.trans (HX1.out.trans Z)⟩
end Go.Proofs.YtkfheeffbombhaaGreatDoor/- walks: the reference's TreeText; the law TreeTexts -/
namespace Go.Proofs.YtkfheeffbombhaaGreatDoor
open Go.RowKit
set_option linter.unusedVariables false

set_option maxRecDepth 100000 in
theorem dec_any (n : Nat) (w : World) (hn : n ≤ 1000) : Calls Tryz.prog 63 #[.int .i64 (n : Int)] w fun e w' => e = .returned (.string (decT n)) ∧ w' = w := by
  have H := Lib.hid (ratInt_any n w (by omega))
  clear hn
  go_enter Tryz.func63, Tryz.ntmps63
  go_wp2_with fail
  refine H.out.mono ?_
  rintro e w1 ⟨rfl, rfl⟩
  go_wp2_with fail
  go_ret
  exact ⟨rfl, rfl⟩

/-- the text of the first i nodes -/
def textA (T : List Nd) (i : Nat) : ByteArray := ⟨(textB T i).toArray⟩
theorem textA_succ {T : List Nd} {i : Nat} {x : Nd} (hx : T[i]? = some x) : (textA T i ++ lineT x) ++ ⟨#[10]⟩ = textA T (i + 1) := by
  apply ByteArray.ext
  rw [ByteArray.data_append, ByteArray.data_append]
  unfold textA
  rw [textB_succ hx]
  unfold rowB
  apply Array.ext'
  simp
theorem textA_size {T : List Nd} (hT : Valid T) (hsm : TreeSm T) {i : Nat} (hi : i ≤ T.length) : (textA T i).size ≤ 720024120 := by
  have h1 := textB_len hT hsm i hi
  have h2 := hT.len
  have h3 : (textA T i).size = (textB T i).length := by unfold textA; exact List.size_toArray
  have h4 : i * 6000201 ≤ 120 * 6000201 := Nat.mul_le_mul_right _ (by omega)
  omega

set_option maxHeartbeats 6400000 in
set_option maxRecDepth 100000 in
theorem rTreeText_any (v : Value) (T : List Nd) (w : World) (hv : TreeIn w v T) (hT : Valid T) (hsm : TreeSm T) :
    Calls Tryz.prog 24 #[v] w fun e w' => e = .returned (.string (treeT T)) ∧ Ext w w' := by
  obtain ⟨wo, rfl⟩ : ∃ wo : World, wo = w := ⟨_, rfl⟩
  obtain ⟨ao, c, rfl, hlen, hn⟩ := hv.open
  have HN := Lib.hid hn
  have HT0 : Hid (treeT T = textA T T.length) := rfl
  have HTS := Lib.hid (fun (i : Nat) (hi : i ≤ T.length) => textA_size hT hsm hi)
  have HTA := Lib.hid (fun (i : Nat) (x : Nd) (hx : T[i]? = some x) => textA_succ hx)
  have HND := Lib.hid hT.node
  have HSM := Lib.hid hsm
  have HLC : Hid (∀ x c, lineC x (c + 1) = lineC x c ++ (((spT ++ decT (x.next.getD c 0).toNat) ++ colT) ++ x.odds.getD c ⟨#[]⟩)) := fun _ _ => rfl
  have HLM : Hid (∀ x c, lineM x (c + 1) = lineM x c ++ (spT ++ decT (x.next.getD c 0).toNat)) := fun _ _ => rfl
  have hT2 := hT.len
  have HCH : Hid (∀ (i : Nat) (x : Nd), nextE T.length i x.next = 0 → x.next.length ≤ 6 ∧ (∀ c, (x.next.getD c 0).toNat ≤ 1000) ∧ ∀ (c : Nat) (k : Int), x.next[c]? = some k → ∃ m : Nat, k = (m : Int) ∧ m ≤ 1000 ∧ (x.next.getD c 0).toNat = m) := fun i x hne => by
    obtain ⟨_, h2, h3⟩ := nextE_zero hne
    refine ⟨h2, fun c => ?_, fun c k hk => ?_⟩
    · rw [List.getD_eq_getElem?_getD]
      cases hc : x.next[c]? with
      | none => exact Nat.zero_le _
      | some k => have := h3 k (List.mem_of_getElem? hc); show k.toNat ≤ _; omega
    obtain ⟨h4, h5⟩ := h3 k (List.mem_of_getElem? hk)
    obtain ⟨m, rfl⟩ : ∃ m : Nat, k = (m : Int) := ⟨k.toNat, by omega⟩
    exact ⟨m, rfl, by omega, by rw [List.getD_eq_getElem?_getD, hk]; rfl⟩
  rw [HT0.out]
  clear hn hv hT hsm
  go_enter Tryz.func24, Tryz.ntmps24
  go_wp2_with fail
  go_loopw [3, 12] (fun sv iv wr => ∃ (i : Nat) (L : ByteArray), i ≤ T.length ∧ iv = .int .i64 i ∧ sv = .string L ∧ Hid (L = textA T i) ∧ Ext wo wr) (fun _ iv _ => T.length - (intOf iv).toNat)
  case atStart => exact ⟨0, _, Nat.zero_le _, rfl, rfl, rfl, Ext.refl _⟩
  case round =>
    obtain ⟨i, L, hi, rfl, rfl, HL, X⟩ := hrel
    by_cases hlt : i < T.length
    · obtain ⟨x, d1, d2, d3⟩ := get_lt hlt
      obtain ⟨b, off, no, nc, oo, oc, rfl, c0, c1, c2, c3, c4, c5, hnc, hod, _⟩ := (HN.out.ext X).at d1
      have hii : (i : Int) < (T.length : Int) := by omega
      have hLs : L.size ≤ 720024120 := by rw [HL.out]; exact HTS.out _ hi
      have HA : Hid ((L ++ lineT x) ++ ⟨#[10]⟩ = textA T (i + 1)) := by show _ = _; rw [HL.out]; exact HTA.out _ _ d1.out
      have hnode := HND.out i x d1.out
      obtain ⟨hsp, hso⟩ := HSM.out x (List.mem_of_getElem? d1.out)
      unfold lineT at HA
      have hti := hlen
      obtain ⟨T7, hT7⟩ : ∃ T7, wr.heap.size = T7 := ⟨_, rfl⟩
      rcases hnode with ⟨k0, _, _, hN, hO, _⟩ | ⟨k0, _, _, _, hOL, _, hNE⟩ | ⟨k0, hON, _, hpl, hi1, hi2, hNE⟩
      · rw [k0] at c0 HA
        rw [if_pos rfl] at HA
        obtain ⟨px, hpx⟩ : ∃ px, x.player = px := ⟨_, rfl⟩
        obtain ⟨qx, hqx⟩ : ∃ qx, x.info = qx := ⟨_, rfl⟩
        obtain ⟨nx, hnx⟩ : ∃ nx, x.next.length = nx := ⟨_, rfl⟩
        obtain ⟨ox, hox⟩ : ∃ ox, x.odds.length = ox := ⟨_, rfl⟩
        obtain ⟨yx, hyx⟩ : ∃ yx, x.pay = yx := ⟨_, rfl⟩
        rw [hpx] at c1
        rw [hqx] at c2
        rw [hnx] at c3
        rw [hox] at c4
        rw [hyx] at c5 hsp HA
        have HA : Hid ((L ++ (({ data := #[101, 110, 100, 32] } : ByteArray) ++ yx)) ++ { data := #[10] } = textA T (i + 1)) := HA.out
        have s1 : (({ data := #[101, 110, 100, 32] } : ByteArray) ++ yx).size = 4 + yx.size := ByteArray.size_append
        have s2 : (L ++ (({ data := #[101, 110, 100, 32] } : ByteArray) ++ yx)).size = L.size + (4 + yx.size) := by rw [ByteArray.size_append, s1]
        have f1 : ¬ 9223372036854775807 < 4 + yx.size := by omega
        have f2 : ¬ 9223372036854775807 < L.size + (({ data := #[101, 110, 100, 32] } : ByteArray) ++ yx).size := by omega
        have g2 : ¬ 9223372036854775807 < L.size + (4 + yx.size) := by omega
        have f3 : ¬ 9223372036854775807 < (L ++ (({ data := #[101, 110, 100, 32] } : ByteArray) ++ yx)).size + 1 := by omega
        have g3 : ¬ 9223372036854775807 < L.size + (4 + yx.size) + 1 := by omega
        clear s1 s2 hsp hso hpx hqx hnx hox hyx hN hO k0 d1 d2 d3 hlt hnc hod hLs HL hT7
        go_wp2_with fail
        go_roundw
        case rel => exact ⟨i + 1, _, by omega, by go_num, rfl, HA.out, X.trans (by repeat' (first | with_reducible exact Ext.refl _ | with_reducible apply Ext.alloc))⟩
        case measure => simp [intOf]; omega
      · obtain ⟨hx6, hng, hch⟩ := HCH.out i x hNE
        have HLS := Lib.hid (lineC_size hso hng)
        have HSO := Lib.hid hso
        rw [k0] at c0 HA
        rw [if_neg (by decide), if_pos rfl] at HA
        have HC := Lib.hid hch
        have HOG := Lib.hid (fun c (o : ByteArray) (h : x.odds[c]? = some o) => (by rw [List.getD_eq_getElem?_getD, h]; rfl : x.odds.getD c ⟨#[]⟩ = o))
        obtain ⟨oo2, oc2, e2, _, hoc⟩ := hod.open
        simp only [Value.slice.injEq] at e2
        obtain ⟨rfl, _, rfl⟩ := e2
        have HOC := Lib.hid hoc
        have HNC := Lib.hid hnc
        obtain ⟨px, hpx⟩ : ∃ px, x.player = px := ⟨_, rfl⟩
        obtain ⟨qx, hqx⟩ : ∃ qx, x.info = qx := ⟨_, rfl⟩
        obtain ⟨nx, hnx⟩ : ∃ nx, x.next.length = nx := ⟨_, rfl⟩
        obtain ⟨yx, hyx⟩ : ∃ yx, x.pay = yx := ⟨_, rfl⟩
        rw [hnx] at hx6 hOL c3 HA
        rw [hOL] at c4
        rw [hpx] at c1
        rw [hqx] at c2
        rw [hyx] at c5
        have HNL := Lib.hid hnx
        have HOL := Lib.hid hOL
        obtain ⟨W1, hW1⟩ : ∃ W1, wr.alloc (.cells #[.int .i64 1, .int .i64 px, .int .i64 qx, .slice no nx nc, .slice oo nx oc, .string yx] 38) = W1 := ⟨_, rfl⟩
        have X1 : Ext wr W1 := by rw [← hW1]; exact (Ext.refl wr).alloc _
        have y0 : W1.cell? ⟨T7, 0, none⟩ = some (.int .i64 1) := by rw [← hW1, ← hT7]; simp [go_sem]
        have y3 : W1.cell? ⟨T7, 3, none⟩ = some (.slice no nx nc) := by rw [← hW1, ← hT7]; simp [go_sem]
        have y4 : W1.cell? ⟨T7, 4, none⟩ = some (.slice oo nx oc) := by rw [← hW1, ← hT7]; simp [go_sem]
        have HX1 := Lib.hid X1
        have HXO := Lib.hid X
        have HY4 := Lib.hid y4
        have HLL := Lib.hid hLs
        have f0 : ¬ 9223372036854775807 < L.size + 6 := by omega
        clear hpx hqx hnx hyx k0 hOL hNE hch X1 X hsp hso hng d1 d2 d3 hlt hnc hod hoc hLs HL
        go_wp2_with fail
        clear y0 y3 y4 hT7 hW1 c0 c1 c2 c3 c4 c5 f0
        go_loopw [3, 56] (fun sv jv wr => ∃ (c : Nat) (M : ByteArray), c ≤ nx ∧ jv = .int .i64 c ∧ sv = .string M ∧ Hid (M = L ++ lineC x c) ∧ Ext W1 wr) (fun _ jv _ => nx - (intOf jv).toNat)
        case atStart => exact ⟨0, _, Nat.zero_le _, rfl, rfl, rfl, Ext.refl _⟩
        case round =>
          obtain ⟨c, M, hc, rfl, rfl, HM, X⟩ := hrel
          have hL0 := HLS.out c
          have hc6 : c * 1000030 ≤ 6 * 1000030 := Nat.mul_le_mul_right _ (by omega)
          have hMs : M.size ≤ 726024400 := by rw [HM.out, ByteArray.size_append]; have := HLL.out; omega
          by_cases hlc : c < nx
          · obtain ⟨k, k1, _, _⟩ := get_lt (xs := x.next) (k := c) (by rw [HNL.out]; exact hlc)
            obtain ⟨o, o1, _, _⟩ := get_lt (xs := x.odds) (k := c) (by rw [HOL.out]; exact hlc)
            obtain ⟨m, rfl, hm1, hm2⟩ := HC.out c k k1.out
            obtain ⟨nb, noff, rfl, hk0⟩ := (HNC.out.ext (HX1.out.trans X)).at k1
            have hk0 : wr.cell? ⟨nb, noff + c, none⟩ = some (.int .i64 (m : Int)) := hk0
            obtain ⟨ob, ooff, rfl, ho0⟩ := (HOC.out.ext (HX1.out.trans X)).at o1
            have ho0 : wr.cell? ⟨ob, ooff + c, none⟩ = some (.string o) := ho0
            have y4 := X.cell HY4.out
            have HS : Hid (M ++ ((({ data := #[32] } : ByteArray) ++ decT m) ++ { data := #[58] } ++ o) = L ++ lineC x (c + 1)) := by
              show _ = _
              rw [HLC.out x c, hm2, HOG.out c o o1.out, HM.out, ByteArray.append_assoc]; rfl
            have hci : (c : Int) < (nx : Int) := by omega
            have hcx : (nx : Int) ≤ 6 := by omega
            have HX := Lib.hid X
            have HD := Lib.hid (fun W => dec_any m W hm1)
            have ho9 := HSO.out o (List.mem_of_getElem? o1.out)
            have hd9 := decT_sm hm1
            have s1 : (({ data := #[32] } : ByteArray) ++ decT m).size = 1 + (decT m).size := ByteArray.size_append
            have s2 : ((({ data := #[32] } : ByteArray) ++ decT m) ++ { data := #[58] }).size = 1 + (decT m).size + 1 := by rw [ByteArray.size_append, s1]; rfl
            have s3 : (((({ data := #[32] } : ByteArray) ++ decT m) ++ { data := #[58] }) ++ o).size = 1 + (decT m).size + 1 + o.size := by rw [ByteArray.size_append, s2]
            have f1 : ¬ 9223372036854775807 < 1 + (decT m).size := by omega
            have f2 : ¬ 9223372036854775807 < (({ data := #[32] } : ByteArray) ++ decT m).size + 1 := by omega
            have f3 : ¬ 9223372036854775807 < ((({ data := #[32] } : ByteArray) ++ decT m) ++ { data := #[58] }).size + o.size := by omega
            have f4 : ¬ 9223372036854775807 < M.size + (((({ data := #[32] } : ByteArray) ++ decT m) ++ { data := #[58] }) ++ o).size := by omega
            have g2 : ¬ 9223372036854775807 < 1 + (decT m).size + 1 := by omega
            have g3 : ¬ 9223372036854775807 < 1 + (decT m).size + 1 + o.size := by omega
            have g4 : ¬ 9223372036854775807 < M.size + (1 + (decT m).size + 1 + o.size) := by omega
            clear s1 s2 s3
            clear hlc hm2 X k1 o1 hL0 ho9 hd9 hMs HM hc6
            go_wp2_with fail
            clear hk0
            go_quiet ((go_at_call 63; exact Calls.quiet_of_same (HD.out _)))
            go_wp2_with fail
            go_roundw
            case rel => exact ⟨c + 1, _, by omega, by go_num, rfl, HS.out, HX.out.drewN _⟩
            case measure => simp [intOf]; omega
          · have hce : c = nx := by omega
            subst hce
            have HM2 := Lib.hid (HM.out ▸ HA.out : M ++ { data := #[10] } = textA T (i + 1))
            have f9 : ¬ 9223372036854775807 < M.size + 1 := by omega
            have hge : ¬ (c : Int) < (c : Int) := by omega
            clear hlc HM hL0 hMs hc6
            go_wp2_with fail
            go_roundw
            case rel => exact ⟨i + 1, _, by omega, by go_num, rfl, HM2.out, HXO.out.trans (HX1.out.trans X)⟩
            case measure => simp [intOf]; omega
      · obtain ⟨hx6, hng, hch⟩ := HCH.out i x hNE
        rw [k0] at c0 HA
        rw [if_neg (by decide), if_neg (by decide)] at HA
        obtain ⟨p', hp'⟩ : ∃ p' : Nat, x.player = (p' : Int) := ⟨x.player.toNat, by omega⟩
        obtain ⟨q', hq'⟩ : ∃ q' : Nat, x.info = (q' : Int) := ⟨x.info.toNat, by omega⟩
        have hp1 : p' ≤ 1000 := by omega
        have hq1 : q' ≤ 1000 := by omega
        have HLS := Lib.hid (lineM_size (x := x) (by omega) (by omega) hng)
        have HZ : Hid (lineM x 0 = ((({ data := #[109, 111, 118, 101, 32] } : ByteArray) ++ decT p') ++ { data := #[32] }) ++ decT q') := by show _ = _; rw [lineM, hp', hq']; rfl
        have HC := Lib.hid hch
        have HNC := Lib.hid hnc
        have s1 : (({ data := #[109, 111, 118, 101, 32] } : ByteArray) ++ decT p').size = 5 + (decT p').size := ByteArray.size_append
        have s2 : ((({ data := #[109, 111, 118, 101, 32] } : ByteArray) ++ decT p') ++ { data := #[32] }).size = 5 + (decT p').size + 1 := by rw [ByteArray.size_append, s1]; rfl
        have s3 : (((({ data := #[109, 111, 118, 101, 32] } : ByteArray) ++ decT p') ++ { data := #[32] }) ++ decT q').size = 5 + (decT p').size + 1 + (decT q').size := by rw [ByteArray.size_append, s2]
        have hd1 := decT_sm hp1
        have hd2 := decT_sm hq1
        have f1 : ¬ 9223372036854775807 < 5 + (decT p').size := by omega
        have f2 : ¬ 9223372036854775807 < (({ data := #[109, 111, 118, 101, 32] } : ByteArray) ++ decT p').size + 1 := by omega
        have f3 : ¬ 9223372036854775807 < ((({ data := #[109, 111, 118, 101, 32] } : ByteArray) ++ decT p') ++ { data := #[32] }).size + (decT q').size := by omega
        have f4 : ¬ 9223372036854775807 < L.size + (((({ data := #[109, 111, 118, 101, 32] } : ByteArray) ++ decT p') ++ { data := #[32] }) ++ decT q').size := by omega
        have g2 : ¬ 9223372036854775807 < 5 + (decT p').size + 1 := by omega
        have g3 : ¬ 9223372036854775807 < 5 + (decT p').size + 1 + (decT q').size := by omega
        have g4 : ¬ 9223372036854775807 < L.size + (5 + (decT p').size + 1 + (decT q').size) := by omega
        obtain ⟨nx, hnx⟩ : ∃ nx, x.next.length = nx := ⟨_, rfl⟩
        obtain ⟨ox, hox⟩ : ∃ ox, x.odds.length = ox := ⟨_, rfl⟩
        obtain ⟨yx, hyx⟩ : ∃ yx, x.pay = yx := ⟨_, rfl⟩
        rw [hnx] at hx6 c3 HA
        rw [hox] at c4
        rw [hyx] at c5
        rw [hp'] at c1
        rw [hq'] at c2
        have HNL := Lib.hid hnx
        obtain ⟨W1, hW1⟩ : ∃ W1, wr.alloc (.cells #[.int .i64 2, .int .i64 (p' : Int), .int .i64 (q' : Int), .slice no nx nc, .slice oo ox oc, .string yx] 38) = W1 := ⟨_, rfl⟩
        have X1 : Ext wr W1 := by rw [← hW1]; exact (Ext.refl wr).alloc _
        have y0 : W1.cell? ⟨T7, 0, none⟩ = some (.int .i64 2) := by rw [← hW1, ← hT7]; simp [go_sem]
        have y1 : W1.cell? ⟨T7, 1, none⟩ = some (.int .i64 (p' : Int)) := by rw [← hW1, ← hT7]; simp [go_sem]
        have y2 : W1.cell? ⟨T7, 2, none⟩ = some (.int .i64 (q' : Int)) := by rw [← hW1, ← hT7]; simp [go_sem]
        have y3 : W1.cell? ⟨T7, 3, none⟩ = some (.slice no nx nc) := by rw [← hW1, ← hT7]; simp [go_sem]
        have HX1 := Lib.hid X1
        have HXO := Lib.hid X
        have HLL := Lib.hid hLs
        have HD := Lib.hid (fun (m : Nat) (hm : m ≤ 1000) W => dec_any m W hm)
        clear hnx hox hyx k0 hON hNE hch hng X1 X hsp hso d1 d2 d3 hlt hnc hod hLs HL s1 s2 s3 hd1 hd2 hp' hq' hpl hi1 hi2
        go_wp2_with fail
        go_quiet ((go_at_call 63; exact Calls.quiet_of_same (HD.out _ (by assumption) _)))
        have y3 : (W1.drewN 12).cell? ⟨T7, 3, none⟩ = some (.slice no nx nc) := y3
        go_wp2_with fail
        clear y0 y1 y2 hT7 hW1 c0 c1 c2 c3 c4 c5 f1 f2 f3 f4 g2 g3 g4
        go_loopw [3, 32] (fun sv jv wr => ∃ (c : Nat) (M : ByteArray), c ≤ nx ∧ jv = .int .i64 c ∧ sv = .string M ∧ Hid (M = L ++ lineM x c) ∧ Ext W1 wr) (fun _ jv _ => nx - (intOf jv).toNat)
        case atStart => exact ⟨0, _, Nat.zero_le _, rfl, rfl, by rw [HZ.out]; rfl, (Ext.refl _).drewN _⟩
        case round =>
          obtain ⟨c, M, hc, rfl, rfl, HM, X⟩ := hrel
          have hL0 := HLS.out c
          have hc6 : c * 30 ≤ 6 * 30 := Nat.mul_le_mul_right _ (by omega)
          have hMs : M.size ≤ 726024400 := by rw [HM.out, ByteArray.size_append]; have := HLL.out; omega
          by_cases hlc : c < nx
          · obtain ⟨k, k1, _, _⟩ := get_lt (xs := x.next) (k := c) (by rw [HNL.out]; exact hlc)
            obtain ⟨m, rfl, hm1, hm2⟩ := HC.out c k k1.out
            obtain ⟨nb, noff, rfl, hk0⟩ := (HNC.out.ext (HX1.out.trans X)).at k1
            have hk0 : wr.cell? ⟨nb, noff + c, none⟩ = some (.int .i64 (m : Int)) := hk0
            have HS : Hid (M ++ (({ data := #[32] } : ByteArray) ++ decT m) = L ++ lineM x (c + 1)) := by
              show _ = _
              rw [HLM.out x c, hm2, HM.out, ByteArray.append_assoc]; rfl
            have hci : (c : Int) < (nx : Int) := by omega
            have hcx : (nx : Int) ≤ 6 := by omega
            have HX := Lib.hid X
            have HDM := Lib.hid (HD.out m hm1 wr)
            have hd9 := decT_sm hm1
            have s1 : (({ data := #[32] } : ByteArray) ++ decT m).size = 1 + (decT m).size := ByteArray.size_append
            have f1 : ¬ 9223372036854775807 < 1 + (decT m).size := by omega
            have f4 : ¬ 9223372036854775807 < M.size + (({ data := #[32] } : ByteArray) ++ decT m).size := by omega
            have g4 : ¬ 9223372036854775807 < M.size + (1 + (decT m).size) := by omega
            clear s1 hlc hm2 X k1 hL0 hd9 hMs HM hc6
            go_wp2_with fail
            refine HDM.out.mono ?_
            rintro e w6 ⟨rfl, rfl⟩
            go_wp2_with fail
            go_roundw
            case rel => exact ⟨c + 1, _, by omega, by go_num, rfl, HS.out, HX.out⟩
            case measure => simp [intOf]; omega
          · have hce : c = nx := by omega
            subst hce
            have HM2 := Lib.hid (HM.out ▸ HA.out : M ++ { data := #[10] } = textA T (i + 1))
            have f9 : ¬ 9223372036854775807 < M.size + 1 := by omega
            have hge : ¬ (c : Int) < (c : Int) := by omega
            clear hlc HM hL0 hMs hc6
            go_wp2_with fail
            go_roundw
            case rel => exact ⟨i + 1, _, by omega, by go_num, rfl, HM2.out, HXO.out.trans (HX1.out.trans X)⟩
            case measure => simp [intOf]; omega
    · have hie : i = T.length := by omega
      subst hie
      have hge : ¬ (T.length : Int) < (T.length : Int) := by omega
      have hLe := HL.out
      clear hlt
      go_wp2_with fail
      go_ret
      exact ⟨rfl, X⟩

/-! ### the law -/
theorem textB_treeT (T : List Nd) : (treeT T).size = (textB T T.length).length := by unfold treeT; exact List.size_toArray
theorem ratOk_size {s : ByteArray} (h : RatOk s) : s.size ≤ 1000000 := by
  have h1 := ratT_size (ratOf_RB2k h)
  rw [← text_ratT h] at h1
  omega
theorem valid_sm {T : List Nd} (hT : Valid T) : TreeSm T := fun x hx => by
  obtain ⟨i, hi⟩ := List.mem_iff_getElem?.1 hx
  refine ⟨?_, fun s hs => ratOk_size (odds_ok hT hi s hs)⟩
  rcases hT.node i x hi with ⟨_, _, _, _, _, hp⟩ | ⟨_, _, _, hp, _⟩ | ⟨_, _, hp, _⟩
  · exact ratOk_size (ratErr_ok hp)
  · rw [hp]; exact Nat.zero_le _
  · rw [hp]; exact Nat.zero_le _

set_option maxHeartbeats 1600000 in
set_option maxRecDepth 100000 in
theorem print_err (v : Value) (T : List Nd) (w : World) (htab : TabPow w) (hv : TreeIn w v T) (hz : TreeSz T) (h : treeE T ≠ 0) :
    Calls Tryz.prog 23 #[v] w fun e w' => e = .returned (.tuple #[.string ⟨#[]⟩, .int .i64 (treeE T)]) ∧ Ext w w' := by
  have HC := Lib.hid (treeCheck_any v T w htab hv hz)
  obtain ⟨E, hE⟩ : ∃ E, treeE T = E := ⟨_, rfl⟩
  rw [hE] at HC h ⊢
  obtain ⟨ao, c, rfl, _, _⟩ := hv.open
  have hb : (E != 0) = true := by rw [bne_iff_ne]; exact h
  clear hE hv hz htab h
  go_enter Tryz.func23, Tryz.ntmps23
  go_wp2_with fail
  refine HC.out.mono ?_
  rintro e w1 ⟨rfl, X1⟩
  go_wp2_with fail
  go_ret2
  exact ⟨rfl, X1⟩

set_option maxHeartbeats 3200000 in
set_option maxRecDepth 100000 in
theorem treeTexts_walk (v : Value) (T : List Nd) (w : World) (hv : TreeIn w v T) (hz : TreeSz T) (htab : TabPow w) (hm : MaxIs w) :
    Calls Tryz.prog 5 #[v] w fun e w' => e = .returned (.bool true) ∧ Ext w w' := by
  obtain ⟨wo, rfl⟩ : ∃ wo : World, wo = w := ⟨_, rfl⟩
  have HF := Lib.hid (treeFact_any wo htab hm)
  have HW := Lib.hid (fun W (hX : Ext wo W) => treeWeight_any v T W (hv.ext hX))
  have H1 := Lib.hid (fun (hT : Valid T) W (hX : Ext wo W) => print_any v T W (tabPow_ext htab hX) (hv.ext hX) (valid_sm hT))
  have H1e := Lib.hid (fun (hE : treeE T ≠ 0) W (hX : Ext wo W) => print_err v T W (tabPow_ext htab hX) (hv.ext hX) hz hE)
  have H2 := Lib.hid (fun W (hX : Ext wo W) => rTreeError_any v T W (hv.ext hX) hz)
  have H3 := Lib.hid (fun (hT : Valid T) W (hX : Ext wo W) => rTreeText_any v T W (hv.ext hX) hT (valid_sm hT))
  obtain ⟨E, hE⟩ : ∃ E, treeE T = E := ⟨_, rfl⟩
  have HE := Lib.hid hE
  unfold printF at H1
  rw [hE] at H1 H2 H1e
  clear hE hv hz htab hm
  go_enter Tryz.func5, Tryz.ntmps5
  go_wp2_with fail
  refine HF.out.mono ?_
  rintro e w1 ⟨rfl, X1⟩
  go_wp2_with fail
  refine (HW.out _ X1).mono ?_
  rintro e w2 ⟨n, rfl, X2⟩
  have Y2 := X1.trans X2
  clear X1 X2
  by_cases hw : 6000 < n
  · go_wp2_with fail
    go_ret
    exact ⟨rfl, Y2⟩
  · by_cases h0 : E = 0
    · subst h0
      rw [if_neg (by simp)] at H1
      have hT := valid_of HE.out
      have HVT := Lib.hid hT
      have HTL := Lib.hid (textB_treeT T)
      obtain ⟨tt, htt⟩ : ∃ tt, treeT T = tt := ⟨_, rfl⟩
      rw [htt] at H1 H3 HTL
      obtain ⟨sz, hsz⟩ : ∃ sz, (textB T T.length).length = sz := ⟨_, rfl⟩
      rw [hsz] at H1 HTL
      have hts := HTL.out
      clear hT htt hsz H1e
      by_cases hbig : 8192 < sz
      · rw [if_pos hbig] at H1
        have hb2 : (8192 : Int) < (sz : Int) := by omega
        go_wp2_with fail
        refine (H1.out HVT.out _ Y2).mono ?_
        rintro e w3 ⟨rfl, X3⟩
        have Y3 := Y2.trans X3
        clear X3
        go_wp2_with fail
        refine (H2.out _ Y3).mono ?_
        rintro e w4 ⟨rfl, X4⟩
        have Y4 := Y3.trans X4
        clear X4
        go_wp2_with fail
        refine (H3.out HVT.out _ Y4).mono ?_
        rintro e w5 ⟨rfl, X5⟩
        have Y5 := Y4.trans X5
        clear X5
        go_wp2_with fail
        go_ret
        exact ⟨rfl, Y5⟩
      · rw [if_neg hbig] at H1
        have hb2 : ¬ (8192 : Int) < (sz : Int) := by omega
        go_wp2_with fail
        refine (H1.out HVT.out _ Y2).mono ?_
        rintro e w3 ⟨rfl, X3⟩
        have Y3 := Y2.trans X3
        clear X3
        go_wp2_with fail
        refine (H2.out _ Y3).mono ?_
        rintro e w4 ⟨rfl, X4⟩
        have Y4 := Y3.trans X4
        clear X4
        go_wp2_with fail
        refine (H3.out HVT.out _ Y4).mono ?_
        rintro e w5 ⟨rfl, X5⟩
        have Y5 := Y4.trans X5
        clear X5
        go_wp2_with fail
        go_ret
        exact ⟨ret_bool (by simp), Y5⟩
    · have H1f := Lib.hid (H1e.out h0)
      have hb2 : (E == 0) = false := by rw [beq_eq_false_iff_ne]; exact h0
      go_wp2_with fail
      refine (H1f.out _ Y2).mono ?_
      rintro e w3 ⟨rfl, X3⟩
      have Y3 := Y2.trans X3
      clear X3
      go_wp2_with fail
      refine (H2.out _ Y3).mono ?_
      rintro e w4 ⟨rfl, X4⟩
      have Y4 := Y3.trans X4
      clear X4
      go_wp2_with fail
      go_ret
      exact ⟨rfl, Y4⟩
end Go.Proofs.YtkfheeffbombhaaGreatDoor/- the walk of TreeInfos -/
namespace Go.Proofs.YtkfheeffbombhaaGreatDoor
open Go.RowKit
set_option linter.unusedVariables false

/-! ### plain -/
theorem givG_none : givG false false [] [] = fun _ => none := by
  funext p
  unfold givG
  simp
theorem mild_small {T : List Nd} (h : mildB T = true) : T.length ≤ 40 ∧ ∀ x ∈ T, x.pay.size ≤ 12 ∧ ∀ s ∈ x.odds, s.size ≤ 12 := by
  unfold mildB at h
  rw [Bool.and_eq_true, decide_eq_true_eq, List.all_eq_true] at h
  refine ⟨h.2, fun x hx => ?_⟩
  have h1 := h.1 x hx
  unfold smallB bulkB at h1
  simp only [Bool.and_eq_true, Bool.not_eq_true', decide_eq_false_iff_not, List.any_eq_false, decide_eq_true_eq] at h1
  exact ⟨by omega, fun s hs => by have := h1.2 s hs; omega⟩
theorem chn_RBm {T : List Nd} (hT : Valid T) (hm : ∀ x ∈ T, ∀ s ∈ x.odds, s.size ≤ 12) : ∀ (n k : Nat), k ≤ n → k < T.length → RB (1 + 12 * n) (chn T k)
  | n, 0, _, _ => RB_1.mono (by omega)
  | 0, k + 1, h, _ => absurd h (by omega)
  | n + 1, k + 1, h, hk => by
    obtain ⟨i, c, x, h1, h2, h3⟩ := from_parent hT hk (by omega)
    rw [chn_step hT h1 h2]
    have ih := chn_RBm hT hm n i (by omega) (by omega)
    have hid : RB (1 + 12 * (n + 1)) (chn T i * 1) := by rw [Rat.mul_one]; exact ih.mono (by omega)
    unfold oddsL
    rw [h1]
    dsimp only
    by_cases k1 : x.kind = 1
    · rw [if_pos k1]
      show RB _ (chn T i * ((x.odds.map ratOf)[c]?).getD 1)
      cases hc : x.odds[c]? with
      | none => rw [List.getElem?_map, hc]; exact hid
      | some s =>
        rw [List.getElem?_map, hc]
        exact (RB_mul ih (ratOf_RB (odds_ok hT h1 s (List.mem_of_getElem? hc)) (hm x (List.mem_of_getElem? h1) s (List.mem_of_getElem? hc)) (by omega))).mono (by omega)
    · rw [if_neg k1]
      by_cases k2 : x.kind = 2
      · rw [if_pos k2]; exact hid
      · rw [if_neg k2]; exact hid
theorem ends_outs {T : List Nd} (hT : Valid T) (hm : mildB T = true) : outsG (endsQ T) = some ((endsQ T).map ratT) := by
  obtain ⟨h1, h2⟩ := mild_small hm
  refine outsG_RB (k := 481) (by omega) _ fun q hq => ?_
  obtain ⟨k, hk, rfl⟩ := List.mem_map.1 hq
  have := endsL_lt hk
  exact (chn_RBm hT (fun x hx => (h2 x hx).2) k k (Nat.le_refl _) this).mono (by omega)
theorem setsP_snd {T : List Nd} (hv : Valid T) (p : Int) : (setsP T p).map (·.2) = (infosT T p).map fun q => (widthT T p q : Int) := by
  rw [← setsP_valid hv p]
  unfold setsP
  rw [List.map_map, List.map_map, List.map_map]
  rfl
theorem playerE_of {T : List Nd} (h : treeE T = 0) (p : Int) : playerE T p = if p ≠ 0 ∧ p ≠ 1 then 4 else 0 := by unfold playerE; rw [if_neg (by simpa using h)]
theorem playerE_ne {T : List Nd} (h : treeE T ≠ 0) (p : Int) : playerE T p = treeE T := by unfold playerE; rw [if_pos h]
/-- the texts of the chances of the first ends -/
def oddT (T : List Nd) (i : Nat) : List ByteArray := (endsK T i).map fun k => ratT (chn T k)
theorem oddT_all (T : List Nd) : oddT T T.length = (endsQ T).map ratT := by
  unfold oddT endsQ endsL
  rw [List.map_map]; rfl

set_option maxHeartbeats 6400000 in
set_option maxRecDepth 100000 in
theorem treeInfos_walk (v : Value) (T : List Nd) (p : Int) (w : World) (hv : TreeIn w v T) (hz : TreeSz T) (htab : TabPow w) (hm : MaxIs w) :
    Calls Tryz.prog 4 #[v, .int .i64 p] w fun e w' => e = .returned (.bool true) ∧ Ext w w' := by
  obtain ⟨wo, rfl⟩ : ∃ wo : World, wo = w := ⟨_, rfl⟩
  have HF := Lib.hid (treeFact_any wo htab hm)
  have HW := Lib.hid (fun W (hX : Ext wo W) => treeWeight_any v T W (hv.ext hX))
  have H1 := Lib.hid (fun W (hX : Ext wo W) => treeInfos_any v T p W (tabPow_ext htab hX) (hv.ext hX) hz)
  have H2 := Lib.hid (fun W (hX : Ext wo W) => ends_any v T W (tabPow_ext htab hX) (hv.ext hX) hz)
  have H3 := Lib.hid (fun W (hX : Ext wo W) => rTreeError_any v T W (hv.ext hX) hz)
  have H4 := Lib.hid (fun W (hX : Ext wo W) => mild_any v T W (hv.ext hX) hz)
  have H5 := Lib.hid (fun W (hX : Ext wo W) => rInfos_any v T p W (hv.ext hX))
  have H6 := Lib.hid (fun (q : Int) W (hX : Ext wo W) => rWidth_any v T p q W (hv.ext hX))
  have H7 := Lib.hid (fun (k : Nat) (hT : Valid T) (hk : k < T.length) W (hX : Ext wo W) => rChance_any v (.slice none 0 0) (.slice none 0 0) false false T [] [] k W (hv.ext hX) hT hk ⟨none, 0, rfl, Nat.le_refl _, fun _ => rfl, by simp, fun i x hx => by simp at hx⟩ ⟨none, 0, rfl, Nat.le_refl _, fun _ => rfl, by simp, fun i x hx => by simp at hx⟩ (fun h => by cases h) (fun h => by cases h))
  rw [givG_none] at H7
  obtain ⟨ao, c, rfl, hlen, hn⟩ := hv.open
  have HN := Lib.hid hn
  obtain ⟨E, hE⟩ : ∃ E, treeE T = E := ⟨_, rfl⟩
  rw [hE] at H3
  have HE := Lib.hid hE
  clear hE hv hz htab hm hn
  go_enter Tryz.func4, Tryz.ntmps4
  go_wp2_with fail
  refine HF.out.mono ?_
  rintro e w1 ⟨rfl, X1⟩
  go_wp2_with fail
  refine (HW.out _ X1).mono ?_
  rintro e w2 ⟨n, rfl, X2⟩
  have Y2 := X1.trans X2
  clear X1 X2
  by_cases hn : 6000 < n
  · go_wp2_with fail
    go_ret
    exact ⟨rfl, Y2⟩
  · go_wp2_with fail
    refine (H1.out _ Y2).mono ?_
    rintro e w3 ⟨u3, rfl, X3, h3⟩
    have Y3 := Lib.hid (Y2.trans X3)
    have HI3 : Hid (∃ a b c, u3 = .tuple #[a, b, .int .i64 c] ∧ ((playerE T p ≠ 0 ∧ a = .slice none 0 0 ∧ b = .slice none 0 0 ∧ c = playerE T p) ∨ (playerE T p = 0 ∧ c = 0 ∧ Ints w3 a ((setsP T p).map (·.1)) ∧ Ints w3 b ((setsP T p).map (·.2))))) := by
      rcases h3 with ⟨q1, q2⟩ | ⟨q1, a, b, q2, q3, q4⟩
      · exact ⟨_, _, _, q2, .inl ⟨q1, rfl, rfl, rfl⟩⟩
      · exact ⟨_, _, _, q2, .inr ⟨q1, rfl, q3, q4⟩⟩
    clear h3
    obtain ⟨a3, b3, c3, rfl, g3⟩ := HI3.out
    have HJ3 := Lib.hid g3
    clear X3 g3 Y2 HI3
    go_wp2_with fail
    refine (H2.out _ Y3.out).mono ?_
    rintro e w4 ⟨u4, rfl, X4, h4⟩
    have Y4 := Lib.hid (Y3.out.trans X4)
    have HX4 := Lib.hid X4
    have HI4 : Hid (∃ a b c, u4 = .tuple #[a, b, .int .i64 c] ∧ ((treeE T ≠ 0 ∧ a = .slice none 0 0 ∧ b = .slice none 0 0 ∧ c = treeE T) ∨ (treeE T = 0 ∧ (mildB T = true → c = 0 ∧ Ints w4 a (intsN (endsL T)) ∧ Strs w4 b (oddT T T.length))))) := by
      rcases h4 with ⟨q1, q2⟩ | ⟨q1, ⟨q2, q3⟩ | ⟨os, a, b, q2, q3, q4, q5⟩⟩
      · exact ⟨_, _, _, q2, .inl ⟨q1, rfl, rfl, rfl⟩⟩
      · refine ⟨_, _, _, q3, .inr ⟨q1, fun hm => ?_⟩⟩
        rw [ends_outs (valid_of q1) hm] at q2; cases q2
      · refine ⟨_, _, _, q3, .inr ⟨q1, fun hm => ⟨rfl, q4, ?_⟩⟩⟩
        rw [ends_outs (valid_of q1) hm] at q2
        rw [oddT_all, Option.some.inj q2]; exact q5
    clear h4
    obtain ⟨a4, b4, c4, rfl, g4⟩ := HI4.out
    have HJ4 := Lib.hid g4
    clear X4 g4 Y3 HI4
    go_wp2_with fail
    refine (H3.out _ Y4.out).mono ?_
    rintro e w5 ⟨rfl, X5⟩
    have Y5 := Lib.hid (Y4.out.trans X5)
    have HX5 := Lib.hid X5
    clear X5
    by_cases h0 : E = 0
    · subst h0
      have hT := valid_of HE.out
      have HVT := Lib.hid hT
      have hT2 := hT.len
      obtain ⟨M, hM⟩ : ∃ M, mildB T = M := ⟨_, rfl⟩
      rw [hM] at H4
      go_wp2_with fail
      refine (H4.out _ Y5.out).mono ?_
      rintro e w6 ⟨rfl, X6⟩
      have Y6 := Lib.hid (Y5.out.trans X6)
      have HX6 := Lib.hid (HX5.out.trans X6)
      clear X6
      cases M with
      | false =>
        go_wp2_with fail
        go_ret
        exact ⟨rfl, Y6.out⟩
      | true =>
        rcases HJ4.out with ⟨q1, _⟩ | ⟨_, q2⟩
        · exact absurd HE.out q1
        have q9 := q2 hM
        obtain ⟨rfl, q3, q4⟩ := q9
        have HA4 := Lib.hid (q3.ext HX6.out)
        have HB4 := Lib.hid (q4.ext HX6.out)
        clear q3 q4 HJ4 hM hT H4 HX5
        go_wp2_with fail
        go_loopw [12, 13, 68] (fun lv rv iv wr => ∃ (i : Nat), i ≤ T.length ∧ iv = .int .i64 i ∧ Hid (LI w6.heap.size 3 36 wr lv rv (endsK T i).length (endsK T i).length ((intsN (endsK T i)).map (Value.int .i64)) ((oddT T i).map Value.string)) ∧ Ext w6 wr) (fun _ _ iv _ => T.length - (intOf iv).toNat)
        case atStart => exact ⟨0, Nat.zero_le _, rfl, LI.start _ _ _ _, Ext.refl _⟩
        case round =>
          obtain ⟨i, hi, rfl, HL, X⟩ := hrel
          by_cases hlt : i < T.length
          · obtain ⟨x, d1, d2, d3⟩ := get_lt hlt
            obtain ⟨b, off, no, nc, oo, oc, rfl, c0, c1, c2, c3', c4, c5, _, _, _⟩ := (HN.out.ext (Y6.out.trans X)).at d1
            have hii : (i : Int) < (T.length : Int) := by omega
            have HES := Lib.hid (endsK_succ d1.out)
            have hle := endsK_le T i
            have HCH := Lib.hid (H7.out i HVT.out hlt)
            obtain ⟨kx, hkx⟩ : ∃ kx, x.kind = kx := ⟨_, rfl⟩
            obtain ⟨px, hpx⟩ : ∃ px, x.player = px := ⟨_, rfl⟩
            obtain ⟨qx, hqx⟩ : ∃ qx, x.info = qx := ⟨_, rfl⟩
            obtain ⟨nx, hnx⟩ : ∃ nx, x.next.length = nx := ⟨_, rfl⟩
            obtain ⟨ox, hox⟩ : ∃ ox, x.odds.length = ox := ⟨_, rfl⟩
            obtain ⟨yx, hyx⟩ : ∃ yx, x.pay = yx := ⟨_, rfl⟩
            rw [hkx] at c0 HES
            rw [hpx] at c1
            rw [hqx] at c2
            rw [hnx] at c3'
            rw [hox] at c4
            rw [hyx] at c5
            obtain ⟨T7, hT7⟩ : ∃ T7, wr.heap.size = T7 := ⟨_, rfl⟩
            obtain ⟨W1, hW1⟩ : ∃ W1, wr.alloc (.cells #[.int .i64 kx, .int .i64 px, .int .i64 qx, .slice no nx nc, .slice oo ox oc, .string yx] 38) = W1 := ⟨_, rfl⟩
            have XA : Ext wr W1 := by rw [← hW1]; exact (Ext.refl wr).alloc _
            have y0 : W1.cell? ⟨T7, 0, none⟩ = some (.int .i64 kx) := by rw [← hW1, ← hT7]; simp [go_sem]
            have HX1 := Lib.hid (X.trans XA)
            have HL1 := Lib.hid (HL.out.ext XA)
            have HOT : Hid (∀ l, endsK T (i + 1) = endsK T i ++ l → oddT T (i + 1) = oddT T i ++ l.map fun k => ratT (chn T k)) := fun l h => by unfold oddT; rw [h, List.map_append]
            obtain ⟨tx, htx⟩ : ∃ tx, ratT (chn T i) = tx := ⟨_, rfl⟩
            have HTX := Lib.hid htx
            have HCH : Hid (∀ W, Ext wo W → Calls Tryz.prog 18 #[.slice (some ⟨b, off, none⟩) T.length c, .int .i64 (i : Int), .agg #[.slice none 0 0, .slice none 0 0], .agg #[.bool false, .bool false]] W fun e w' => e = .returned (.string tx) ∧ Ext W w') := fun W hX => by rw [← HTX.out]; exact HCH.out W hX
            clear hkx hpx hqx hnx hox hyx XA d1 d2 d3 hlt htx HL
            by_cases a1 : kx = 0
            · subst a1
              rw [if_pos rfl] at HES
              have HOT := Lib.hid (HOT.out _ HES.out)
              obtain ⟨Ek, hEk⟩ : ∃ Ek, endsK T i = Ek := ⟨_, rfl⟩
              obtain ⟨Ok, hOk⟩ : ∃ Ok, oddT T i = Ok := ⟨_, rfl⟩
              rw [hEk] at HL1 hle HES
              rw [hOk] at HL1 HOT
              obtain ⟨K, hK⟩ : ∃ K, Ek.length = K := ⟨_, rfl⟩
              rw [hK] at HL1 hle
              have HK := Lib.hid hK
              have hl1 : K + 1 ≤ 17592186044416 := by omega
              have hl2 : (K + 1) * 8 ≤ 140737488355328 := by omega
              have hl3 : (K + 1) * 16 ≤ 140737488355328 := by omega
              have hbk : w6.heap.size ≤ W1.heap.size := HX1.out.size
              clear hEk hOk hK
              go_wp2_with (at_builtin; go_must (refine wp_app1 rfl rfl ei_ints HL1.out.lo rfl rfl (by simp) rfl hl1 hl2 (by simpa using hbk) ?_); intro v7 w7 hown hgrew)
              have HL7 := Lib.hid (LI.stepL HL1.out hown hgrew)
              have HX7 := Lib.hid (hgrew.extNew HX1.out HL1.out.lo (Nat.le_refl _))
              clear hown hgrew HL1
              refine (HCH.out _ (Y6.out.trans HX7.out)).mono ?_
              rintro e w8 ⟨rfl, X8⟩
              have HL8 := Lib.hid (HL7.out.ext X8)
              have HX8 := Lib.hid (HX7.out.trans X8)
              have hbk8 : w6.heap.size ≤ w8.heap.size := HX8.out.size
              clear X8 HL7 HX7
              go_wp2_with (at_builtin; go_must (refine wp_app1 rfl rfl ei_rats HL8.out.ro rfl rfl (by simp) rfl hl1 hl3 (by simpa using hbk8) ?_); intro v9 w9 hown hgrew)
              have HL9 := Lib.hid (LI.stepR HL8.out hown hgrew)
              have HX9 := Lib.hid (hgrew.extNew HX8.out HL8.out.ro (Nat.le_refl _))
              clear hown hgrew HL8
              go_roundw
              case rel =>
                refine ⟨i + 1, by omega, by go_num, ?_, HX9.out⟩
                rw [HES.out, HOT.out]
                show LI _ _ _ _ _ _ _ _ _ _
                unfold intsN
                simp only [List.map_append, List.length_append, List.map_cons, List.map_nil, List.length_cons, List.length_nil, HK.out, HTX.out]
                exact HL9.out
              case measure => simp [intOf]; omega
            · rw [if_neg a1] at HES
              have HOT := Lib.hid (HOT.out _ HES.out)
              have hb1 : (kx == 0) = false := by rw [beq_eq_false_iff_ne]; exact a1
              go_wp2_with fail
              go_roundw
              case rel =>
                refine ⟨i + 1, by omega, by go_num, ?_, HX1.out⟩
                rw [HES.out, HOT.out]
                simp only [List.map_nil, List.append_nil]
                exact HL1.out
              case measure => simp [intOf]; omega
          · have hie : i = T.length := by omega
            subst hie
            have hle := endsK_le T T.length
            have HRI := Lib.hid (own_rowOf (xs := intsN (endsL T)) HL.out.lo (by omega))
            have HRO := Lib.hid (own_rowOf (xs := oddT T T.length) HL.out.ro (by omega))
            have HXR := Lib.hid X
            have HA := Lib.hid (HA4.out.ext X)
            have HB := Lib.hid (HB4.out.ext X)
            have hge : ¬ (T.length : Int) < (T.length : Int) := by omega
            clear hlt HL hle X
            go_wp2_with fail
            refine (equal_ints _ _ _ _ _ HA.out HRI.out true (by show _ = _; simp)).mono ?_
            rintro e w7 ⟨rfl, X7⟩
            have HX7 := Lib.hid (HXR.out.trans X7)
            have HB := Lib.hid (HB.out.ext X7)
            have HRO := Lib.hid (HRO.out.ext X7)
            clear X7 HXR HA HRI
            go_wp2_with fail
            refine (equal_rats _ _ _ _ HB.out HRO.out).mono ?_
            rintro e w8 ⟨rfl, X8⟩
            have HX8 := Lib.hid (Y6.out.trans (HX7.out.trans X8))
            have HX8b := Lib.hid (HX6.out.trans (HX7.out.trans X8))
            clear X8 HX7 HB HRO HA4 HB4 Y6
            have hpe := playerE_of HE.out p
            by_cases hp : p ≠ 0 ∧ p ≠ 1
            · rw [if_pos hp] at hpe
              rcases HJ3.out with ⟨_, rfl, rfl, r1⟩ | ⟨r1, _⟩
              · rw [hpe] at r1
                subst r1
                have hb1 : (p != 0) = true := by rw [bne_iff_ne]; exact hp.1
                have hb2 : (p != 1) = true := by rw [bne_iff_ne]; exact hp.2
                clear hp hpe HJ3
                go_wp2_with fail
                go_ret
                exact ⟨rfl, HX8.out⟩
              · rw [hpe] at r1; cases r1
            · rw [if_neg hp] at hpe
              rcases HJ3.out with ⟨r1, _⟩ | ⟨_, rfl, r2, r3⟩
              · exact absurd hpe r1
              · rw [setsP_valid HVT.out] at r2
                rw [setsP_snd HVT.out] at r3
                have HA := Lib.hid ((r2.ext HX4.out).ext HX8b.out)
                have HB := Lib.hid ((r3.ext HX4.out).ext HX8b.out)
                have H5b := Lib.hid (H5.out w8 HX8.out)
                have HI10 : Hid ((infosT T p).length ≤ 10) := by
                  show _ ≤ _
                  unfold infosT
                  have := List.length_filter_le (fun q => decide (0 < widthT T p q)) ((List.range 10).map Int.ofNat)
                  simpa using this
                have hpp : p = 0 ∨ p = 1 := by omega
                have hb1 : (p != 0 && p != 1) = false := by rcases hpp with rfl | rfl <;> rfl
                obtain ⟨wn, hwn⟩ : ∃ wn, (fun q => (widthT T p q : Int)) = wn := ⟨_, rfl⟩
                have HWN := Lib.hid (fun q => congrFun hwn q)
                rw [hwn] at HB
                obtain ⟨wd, hwd⟩ : ∃ wd, widthT T p = wd := ⟨_, rfl⟩
                rw [hwd] at HWN H6
                clear hwn hwd r2 r3 hpe hp
                obtain ⟨I, hI⟩ : ∃ I, infosT T p = I := ⟨_, rfl⟩
                rw [hI] at HA HB H5 H5b HI10
                clear hI HJ3
                rcases hpp with rfl | rfl
                all_goals
                  go_wp2_with fail
                  refine H5b.out.mono ?_
                  rintro e w9 ⟨u9, rfl, h9, X9⟩
                  obtain ⟨io, ic, rfl, _, hic⟩ := h9.open
                  have HIC := Lib.hid hic
                  have HX9 := Lib.hid (HX8.out.trans X9)
                  have HA := Lib.hid (HA.out.ext X9)
                  have HB := Lib.hid (HB.out.ext X9)
                  clear X9 h9 hic H5b HX8
                  go_wp2_with fail
                  go_loopw [16, 123] (fun ov jv wr => ∃ (j : Nat), j ≤ I.length ∧ jv = .int .i64 j ∧ Hid (wr.ownsRow w9.heap.size 3 1 ov j (((I.take j).map wn).map (Value.int .i64))) ∧ Ext w9 wr) (fun _ jv _ => I.length - (intOf jv).toNat)
                  case atStart => exact ⟨0, Nat.zero_le _, rfl, World.ownsRow_nil _ _ _ _, Ext.refl _⟩
                  case round =>
                    obtain ⟨j, hj, rfl, HO, X⟩ := hrel
                    have hi10 := HI10.out
                    by_cases hlt : j < I.length
                    · obtain ⟨q, d1, d2, d3⟩ := get_lt hlt
                      obtain ⟨qb, qoff, rfl, hq0⟩ := (HIC.out.ext X).at d1
                      have hq0 : wr.cell? ⟨qb, qoff + j, none⟩ = some (.int .i64 q) := hq0
                      have hjj : (j : Int) < (I.length : Int) := by omega
                      have HQ := Lib.hid (H6.out q wr (HX9.out.trans X))
                      have HWQ := Lib.hid (HWN.out q)
                      obtain ⟨m, hm⟩ : ∃ m, wd q = m := ⟨_, rfl⟩
                      rw [hm] at HQ HWQ
                      have HXR := Lib.hid X
                      have hl1 : j + 1 ≤ 17592186044416 := by omega
                      have hl2 : (j + 1) * 8 ≤ 140737488355328 := by omega
                      clear hm d1 d2 hlt X
                      go_wp2_with fail
                      refine HQ.out.mono ?_
                      rintro e w10 ⟨rfl, X10⟩
                      have HO2 := Lib.hid (own_ext HO.out X10)
                      have HX10 := Lib.hid (HXR.out.trans X10)
                      have hbk : w9.heap.size ≤ w10.heap.size := HX10.out.size
                      clear X10
                      go_wp2_with (at_builtin; go_must (refine wp_app1 rfl rfl ei_ints HO2.out rfl rfl (by simp) rfl hl1 hl2 (by simpa using hbk) ?_); intro v' w' hown hgrew)
                      go_roundw
                      case rel =>
                        refine ⟨j + 1, by omega, by go_num, ?_, hgrew.extNew HX10.out HO2.out (Nat.le_refl _)⟩
                        show World.ownsRow _ _ _ _ _ _ _
                        rw [d3.out, List.map_append, List.map_append]
                        simp only [List.map_cons, List.map_nil]
                        rw [← HWQ.out]
                        exact hown
                      case measure => simp [intOf]; omega
                    · have hje : j = I.length := by omega
                      subst hje
                      have HWD : Hid (Ints wr u16 (I.map wn)) := by
                        have h := HO.out
                        rw [List.take_of_length_le (Nat.le_refl _)] at h
                        exact own_rowOf h (by omega)
                      have HA := Lib.hid (HA.out.ext X)
                      have HB := Lib.hid (HB.out.ext X)
                      have H5c := Lib.hid (H5.out wr (HX9.out.trans X))
                      have HXR := Lib.hid (HX9.out.trans X)
                      have hge : ¬ (I.length : Int) < (I.length : Int) := by omega
                      clear hlt HO X hi10
                      go_wp2_with fail
                      refine H5c.out.mono ?_
                      rintro e w10 ⟨u10, rfl, h10, X10⟩
                      have HA := Lib.hid (HA.out.ext X10)
                      have HB := Lib.hid (HB.out.ext X10)
                      have HWD := Lib.hid (HWD.out.ext X10)
                      have HR10 := Lib.hid h10
                      have HXR := Lib.hid (HXR.out.trans X10)
                      clear h10 X10 H5c
                      go_wp2_with fail
                      refine (equal_ints _ _ _ _ _ HA.out HR10.out true (by show _ = _; simp)).mono ?_
                      rintro e w11 ⟨rfl, X11⟩
                      have HB := Lib.hid (HB.out.ext X11)
                      have HWD := Lib.hid (HWD.out.ext X11)
                      have HXR := Lib.hid (HXR.out.trans X11)
                      clear X11 HA HR10
                      go_wp2_with fail
                      refine (equal_ints _ _ _ _ _ HB.out HWD.out true (by show _ = _; simp)).mono ?_
                      rintro e w12 ⟨rfl, X12⟩
                      go_wp2_with fail
                      go_ret
                      exact ⟨rfl, HXR.out.trans X12⟩
    · have hb0 : (E != 0) = true := by rw [bne_iff_ne]; exact h0
      rcases HJ4.out with ⟨_, rfl, rfl, r1⟩ | ⟨r1, _⟩
      · rw [HE.out] at r1
        rcases HJ3.out with ⟨_, rfl, rfl, r2⟩ | ⟨r2, _⟩
        · rw [playerE_ne (by rw [HE.out]; exact h0), HE.out] at r2
          subst r1
          subst r2
          clear h0 HJ3 HJ4
          go_wp2_with fail
          go_ret
          exact ⟨rfl, Y5.out⟩
        · rw [playerE_ne (by rw [HE.out]; exact h0), HE.out] at r2
          exact absurd r2 h0
      · exact absurd (HE.out.symm.trans r1) h0
end Go.Proofs.YtkfheeffbombhaaGreatDoor