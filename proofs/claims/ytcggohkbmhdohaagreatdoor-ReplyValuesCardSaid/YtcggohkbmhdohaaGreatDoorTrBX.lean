/- texts merged: TrBA TrBB TrBC TrBD -/
import Derived.Test.YtcggohkbmhdohaaGreatDoorTrQX
import Derived.Test.YtcggohkbmhdohaaGreatDoorRtK
import Derived.Test.YtcggohkbmhdohaaGreatDoorTrYX
import Derived.Test.YtcggohkbmhdohaaGreatDoorNatI
import Derived.Test.YtcggohkbmhdohaaGreatDoorRatAL
import Derived.BigQuiet
namespace Go.Proofs.YtcggohkbmhdohaaGreatDoor
open Go.RowKit
set_option linter.unusedVariables false
set_option maxRecDepth 100000 in
theorem mildClo_any (s : ByteArray) (w : World) (hs : s.size ≤ 9223372036854775806) :
 Calls Tryz.prog 47 #[.string s] w fun e w' => e = .returned (.bool (decide (12 < s.size))) ∧ Ext w w' := by
 obtain ⟨n, hn⟩ : ∃ n, s.size = n := ⟨_, rfl⟩
 by_cases h : 12 < n
 · have hd : decide (12 < s.size) = true := by rw [hn]; exact decide_eq_true h
   have hb : (12 : Int) < (n : Int) := by omega
   rw [hd]
   clear hd
   go_enter Tryz.func47, Tryz.ntmps47
   go_wp2_with fail
   go_ret
   exact ⟨rfl, Ext.refl _⟩
 · have hd : decide (12 < s.size) = false := by rw [hn]; exact decide_eq_false h
   have hb : ¬ (12 : Int) < (n : Int) := by omega
   rw [hd]
   clear hd
   go_enter Tryz.func47, Tryz.ntmps47
   go_wp2_with fail
   go_ret
   exact ⟨rfl, Ext.refl _⟩
def bulkB (l : List ByteArray) : Bool := l.any fun s => decide (12 < s.size)
def smallB (x : Nd) : Bool := !(decide (12 < x.pay.size)) && !(bulkB x.odds)
def mildB (T : List Nd) : Bool := T.all smallB && decide (T.length ≤ 40)
set_option maxHeartbeats 3200000 in
set_option maxRecDepth 100000 in
theorem mild_any (v : Value) (T : List Nd) (w : World) (hv : TreeIn w v T) (hz : TreeSz T) :
 Calls Tryz.prog 10 #[v] w fun e w' => e = .returned (.bool (mildB T)) ∧ Ext w w' := by
 obtain ⟨wo, rfl⟩ : ∃ wo : World, wo = w := ⟨_, rfl⟩
 obtain ⟨ao, c, rfl, hlen, hn⟩ := hv.open
 have HN := Lib.hid hn
 have HZ := Lib.hid hz
 obtain ⟨Q, hQ⟩ : ∃ Q, mildB T = Q := ⟨_, rfl⟩
 have HQ := Lib.hid hQ
 rw [hQ]
 clear hn hv hQ hz
 go_enter Tryz.func10, Tryz.ntmps10
 go_wp2_with fail
 go_loopw [7] (fun iv wr => ∃ (i : Nat), i ≤ T.length ∧ iv = .int .i64 i ∧ Hid (((T.drop i).all smallB && decide (T.length ≤ 40)) = Q) ∧ Ext wo wr) (fun iv _ => T.length - (intOf iv).toNat)
 case atStart => exact ⟨0, Nat.zero_le _, rfl, HQ.out, Ext.refl _⟩
 case round =>
  obtain ⟨i, hi, rfl, HE, X⟩ := hrel
  by_cases hlt : i < T.length
  · obtain ⟨x, d1, d2, d3⟩ := get_lt hlt
    obtain ⟨b, off, no, nc, oo, oc, rfl, c0, c1, c2, c3, c4, c5, _, ho, _⟩ := HN.out.at d1
    have c0 := X.cell c0
    have c1 := X.cell c1
    have c2 := X.cell c2
    have c3 := X.cell c3
    have c4 := X.cell c4
    have c5 := X.cell c5
    have hii : (i : Int) < (T.length : Int) := by omega
    have hE := HE.out
    rw [d2.out, List.all_cons] at hE
    obtain ⟨hz1, hz2⟩ := HZ.out x (List.mem_of_getElem? d1.out)
    have HZ2 := Lib.hid hz2
    have HOS := Lib.hid ho
    obtain ⟨kx, hkx⟩ : ∃ kx, x.kind = kx := ⟨_, rfl⟩
    obtain ⟨px, hpx⟩ : ∃ px, x.player = px := ⟨_, rfl⟩
    obtain ⟨qx, hqx⟩ : ∃ qx, x.info = qx := ⟨_, rfl⟩
    obtain ⟨nx, hnx⟩ : ∃ nx, x.next.length = nx := ⟨_, rfl⟩
    obtain ⟨ox, hox⟩ : ∃ ox, x.odds.length = ox := ⟨_, rfl⟩
    obtain ⟨yx, hyx⟩ : ∃ yx, x.pay = yx := ⟨_, rfl⟩
    obtain ⟨os, hos⟩ : ∃ os, x.odds = os := ⟨_, rfl⟩
    unfold smallB at hE
    rw [hkx] at c0
    rw [hpx] at c1
    rw [hqx] at c2
    rw [hnx] at c3
    rw [hox] at c4 HOS
    rw [hyx] at c5 hE hz1
    rw [hos] at HOS HZ2 hE
    obtain ⟨T7, hT7⟩ : ∃ T7, wr.heap.size = T7 := ⟨_, rfl⟩
    obtain ⟨W1, hW1⟩ : ∃ W1, wr.alloc (.cells #[.int .i64 kx, .int .i64 px, .int .i64 qx, .slice no nx nc, .slice oo ox oc, .string yx] 79) = W1 := ⟨_, rfl⟩
    have X1 : Ext wr W1 := by rw [← hW1]; exact (Ext.refl wr).alloc _
    have y0 : W1.cell? ⟨T7, 4, none⟩ = some (.slice oo ox oc) := by rw [← hW1, ← hT7]; simp [go_sem]
    have y1 : W1.cell? ⟨T7, 5, none⟩ = some (.string yx) := by rw [← hW1, ← hT7]; simp [go_sem]
    have HX1 := Lib.hid (X.trans X1)
    have HCF := Lib.hid (fun W (hX : Ext wo W) => containsFunc_rats (.slice oo ox oc) (os.map Value.string) (os.map fun s => decide (12 < s.size)) 47 #[] W (HOS.out.ext hX) (by rw [List.length_map, List.length_map]) (fun _ _ => by kernel_rfl)
     (fun j u q W2 hu hq h2 => by
       rw [List.getElem?_map] at hu hq
       cases hy : os[j]? with
       | none => rw [hy] at hu; cases hu
       | some y =>
         rw [hy] at hu hq
         simp only [Option.map_some, Option.some.injEq] at hu hq
         subst hu; subst hq
         exact mildClo_any y W2 (HZ2.out y (List.mem_of_getElem? hy)))
     (bulkB os) (by show _ = _; rw [List.any_map]; rfl))
    obtain ⟨py, hpy⟩ : ∃ py, yx.size = py := ⟨_, rfl⟩
    obtain ⟨B, hB⟩ : ∃ B, bulkB os = B := ⟨_, rfl⟩
    rw [hpy] at hE hz1
    rw [hB] at hE HCF
    clear d1 d2 d3 hkx hpx hqx hnx hox hyx hos X1 HE hB HZ2 HOS ho hz2
    by_cases a1 : 12 < py
    · have hq : Q = false := by rw [← hE, decide_eq_true a1]; rfl
      subst hq
      have hb : (12 : Int) < (py : Int) := by omega
      clear hE a1 hlt HCF
      go_wp2_with fail
      go_ret
      exact ⟨rfl, HX1.out⟩
    · have hb : ¬ (12 : Int) < (py : Int) := by omega
      rw [decide_eq_false a1] at hE
      cases B with
      | true =>
        have hq : Q = false := by rw [← hE]; rfl
        subst hq
        clear hE a1 hlt
        go_wp2_with fail
        refine (HCF.out _ HX1.out).mono ?_
        rintro e w5 ⟨rfl, X5⟩
        go_wp2_with fail
        go_ret
        exact ⟨rfl, HX1.out.trans X5⟩
      | false =>
        have HE := Lib.hid hE
        clear hE a1 hlt
        go_wp2_with fail
        refine (HCF.out _ HX1.out).mono ?_
        rintro e w5 ⟨rfl, X5⟩
        go_wp2_with fail
        go_roundw
        case rel => exact ⟨i + 1, by omega, by go_num, by show _ = _; rw [← HE.out]; rfl, HX1.out.trans X5⟩
        case measure => simp [intOf]; omega
  · have hie : i = T.length := by omega
    subst hie
    have hE := HE.out
    rw [List.drop_length, List.all_nil, Bool.true_and] at hE
    have hge : ¬ (T.length : Int) < (T.length : Int) := by omega
    subst hE
    clear HE HQ hlt
    go_wp2_with fail
    go_ret
    exact ⟨ret_bool (by simp only [decide_eq_decide]; omega), X⟩
structure FitS (T : List Nd) (p : Int) (S : List Ch) : Prop where
 nd : (S.map (·.1)).Nodup
 ok : ∀ c ∈ S, ∀ s ∈ c.2, RatOk s
 wide : ∀ c ∈ S, ∀ x ∈ T, x.kind = 2 → x.player = p → x.info = c.1 → x.next.length ≤ c.2.length
theorem strF_zero {W : Int → Nat} : ∀ {I : List Int} {S : List Ch}, strF W I S = 0 → I.length = S.length → S.map (·.1) = I ∧ ∀ c ∈ S, c.2.length = W c.1 ∧ oddsE c.2 = 0
 | [], [], _, _ => ⟨rfl, fun c h => by cases h⟩
 | [], _ :: _, _, h => by cases h
 | _ :: _, [], _, h => by cases h
 | q :: I, c :: S, h, hl => by
   rw [strF] at h
   by_cases h1 : c.1 ≠ q ∨ c.2.length ≠ W q
   · rw [if_pos h1] at h; cases h
   rw [if_neg h1] at h
   simp only [not_or, Classical.not_not] at h1
   by_cases h2 : oddsE c.2 = 0
   · rw [if_neg (by simpa using h2)] at h
     obtain ⟨g1, g2⟩ := strF_zero h (by simpa using hl)
     refine ⟨by rw [List.map_cons, g1, h1.1], fun d hd => ?_⟩
     rcases List.mem_cons.1 hd with rfl | hd
     · exact ⟨by rw [h1.2, h1.1], h2⟩
     · exact g2 d hd
   · rw [if_pos h2] at h; exact absurd h h2
theorem infosT_nodup (T : List Nd) (p : Int) : (infosT T p).Nodup := by
 unfold infosT
 refine List.Nodup.sublist List.filter_sublist ?_
 show List.Pairwise _ _
 rw [List.pairwise_map]
 refine List.nodup_range.imp fun {a b} hab e => hab ?_
 exact Int.ofNat.inj e
theorem strE_zero {T : List Nd} {p : Int} {S : List Ch} (h : strategyE T p S = 0) : S.map (·.1) = infosT T p ∧ ∀ c ∈ S, c.2.length = widthT T p c.1 ∧ oddsE c.2 = 0 := by
 unfold strategyE at h
 by_cases hl : (infosT T p).length = S.length
 · rw [if_neg (by simpa using hl)] at h
   exact strF_zero h hl
 · rw [if_pos hl] at h; cases h
theorem widthT_of {T : List Nd} (hT : Valid T) {x : Nd} (hx : x ∈ T) {p q : Int} (hm : isMove x p q = true) : widthT T p q = x.next.length := by
 unfold widthT
 cases hf : T.find? (fun x => isMove x p q) with
 | none => exact absurd hm (by simpa using List.find?_eq_none.1 hf x hx)
 | some y =>
   dsimp only
   have hy := List.find?_some hf
   have hym := List.mem_of_find?_eq_some hf
   obtain ⟨a1, a2, a3⟩ := isMove_iff.1 hm
   obtain ⟨b1, b2, b3⟩ := isMove_iff.1 (show isMove y p q = true from hy)
   exact hT.wide y hym x hx b1 a1 (b2.trans a2.symm) (b3.trans a3.symm)
theorem fit_of {T : List Nd} (hT : Valid T) {p : Int} {S : List Ch} (h : strategyE T p S = 0) : FitS T p S := by
 obtain ⟨h1, h2⟩ := strE_zero h
 refine ⟨by rw [h1]; exact infosT_nodup T p, fun c hc => oddsE_ok (h2 c hc).2, fun c hc x hx k1 k2 k3 => ?_⟩
 rw [(h2 c hc).1, widthT_of hT hx (isMove_iff.2 ⟨k1, k2, k3⟩)]
 exact Nat.le_refl _
theorem FitS.take {T : List Nd} {p : Int} {S : List Ch} (h : FitS T p S) (j : Nat) : FitS T p (S.take j) :=
 ⟨by rw [List.map_take]; exact h.nd.sublist (List.take_sublist _ _), fun c hc => h.ok c (List.mem_of_mem_take hc), fun c hc => h.wide c (List.mem_of_mem_take hc)⟩
theorem pick_none {q : Int} {c : Nat} : ∀ {S : List Ch} {a : Rat}, (∀ s ∈ S, s.1 ≠ q) → pickP S q c a = a
 | [], _, _ => rfl
 | s :: t, a, h => by
   show pickP t q c (if s.1 = q then _ else a) = a
   rw [if_neg (h s (List.mem_cons_self ..))]
   exact pick_none fun x hx => h x (List.mem_cons_of_mem _ hx)
theorem odd_RB {os : List ByteArray} (h : ∀ s ∈ os, RatOk s) (c : Nat) : RB 2000 (((os[c]?).map ratOf).getD 1) := by
 cases hc : os[c]? with
 | none => exact RB_1.mono (by omega)
 | some s => exact ratOf_RB2k (h s (List.mem_of_getElem? hc))
theorem pick_RB {q : Int} {c m : Nat} : ∀ {S : List Ch} {a : Rat}, (S.map (·.1)).Nodup → (∀ c ∈ S, ∀ s ∈ c.2, RatOk s) → RB m a → RB (m + 2000) (pickP S q c a)
 | [], a, _, _, ha => ha.mono (by omega)
 | s :: t, a, hn, ho, ha => by
   rw [List.map_cons, List.nodup_cons] at hn
   show RB _ (pickP t q c (if s.1 = q then _ else a))
   by_cases h : s.1 = q
   · rw [if_pos h, pick_none fun x hx e => hn.1 (by rw [h, ← e]; exact List.mem_map_of_mem hx)]
     exact RB_mul ha (odd_RB (ho s (List.mem_cons_self ..)) c)
   · rw [if_neg h]
     exact pick_RB hn.2 (fun x hx => ho x (List.mem_cons_of_mem _ hx)) ha
theorem pick_step {q : Int} {c j : Nat} {S : List Ch} {s : Ch} (hs : S[j]? = some s) (a : Rat) : pickP (S.take (j + 1)) q c a = if s.1 = q then pickP (S.take j) q c a * ((s.2[c]?).map ratOf).getD 1 else pickP (S.take j) q c a := by
 obtain ⟨h1, h2⟩ := List.getElem?_eq_some_iff.1 hs
 unfold pickP
 rw [List.take_succ_eq_append_getElem h1, h2, List.foldl_append]; rfl
def givG (g0 g1 : Bool) (S0 S1 : List Ch) (p : Int) : Option (List Ch) := if p = 0 then (if g0 = true then some S0 else none) else if p = 1 then (if g1 = true then some S1 else none) else none
theorem facP_RB {T : List Nd} (hT : Valid T) {G : Int → Option (List Ch)} (hG : ∀ p S, G p = some S → FitS T p S) {m : Nat} {a : Rat} (ha : RB m a) (s : Nat × Nat) : RB (m + 2000) (facP T G a s) := by
 unfold facP
 cases hx : T[s.1]? with
 | none => exact ha.mono (by omega)
 | some x =>
   dsimp only
   by_cases k1 : x.kind = 1
   · rw [if_pos k1]
     exact RB_mul ha (odd_RB (odds_ok hT hx) s.2)
   · rw [if_neg k1]
     by_cases k2 : x.kind = 2
     · rw [if_pos k2]
       cases hg : G x.player with
       | none => exact ha.mono (by omega)
       | some S => exact pick_RB (hG _ S hg).nd (hG _ S hg).ok ha
     · rw [if_neg k2]; exact ha.mono (by omega)
theorem fold_RB {T : List Nd} (hT : Valid T) {G : Int → Option (List Ch)} (hG : ∀ p S, G p = some S → FitS T p S) : ∀ (l : List (Nat × Nat)) (m : Nat) (a : Rat), RB m a → RB (m + 2000 * l.length) (l.foldl (facP T G) a)
 | [], m, a, ha => ha
 | s :: t, m, a, ha => by
   rw [List.foldl_cons, List.length_cons]
   exact (fold_RB hT hG t _ _ (facP_RB hT hG ha s)).mono (by omega)
theorem chance_RB {T : List Nd} (hT : Valid T) {G : Int → Option (List Ch)} (hG : ∀ p S, G p = some S → FitS T p S) {k : Nat} (hk : k < T.length) : RB 240001 (chanceT T G k) := by
 have h1 := path_len hT k k (Nat.le_refl _) hk
 have h2 := hT.len
 exact (fold_RB hT hG (path T k) 1 1 RB_1).mono (by omega)
theorem givG_fit {T : List Nd} {g0 g1 : Bool} {S0 S1 : List Ch} (h0 : g0 = true → FitS T 0 S0) (h1 : g1 = true → FitS T 1 S1) : ∀ p S, givG g0 g1 S0 S1 p = some S → FitS T p S := fun p S h => by
 unfold givG at h
 by_cases hp : p = 0
 · rw [if_pos hp] at h
   by_cases hg : g0 = true
   · rw [if_pos hg] at h
     rw [hp, ← Option.some.inj h]; exact h0 hg
   · rw [if_neg hg] at h; cases h
 · rw [if_neg hp] at h
   by_cases hp1 : p = 1
   · rw [if_pos hp1] at h
     by_cases hg : g1 = true
     · rw [if_pos hg] at h
       rw [hp1, ← Option.some.inj h]; exact h1 hg
     · rw [if_neg hg] at h; cases h
   · rw [if_neg hp1] at h; cases h
set_option maxHeartbeats 6400000 in
set_option maxRecDepth 100000 in
theorem rChance_any (v a b : Value) (g0 g1 : Bool) (T : List Nd) (S0 S1 : List Ch) (k : Nat) (w : World) (hv : TreeIn w v T) (hT : Valid T) (hk : k < T.length) (ha : StrIn w a S0) (hb : StrIn w b S1)
 (h0 : g0 = true → FitS T 0 S0) (h1 : g1 = true → FitS T 1 S1) :
 Calls Tryz.prog 19 #[v, .int .i64 (k : Int), .agg #[a, b], .agg #[.bool g0, .bool g1]] w fun e w' => e = .returned (.string (ratT (chanceT T (givG g0 g1 S0 S1) k))) ∧ Ext w w' := by
 obtain ⟨wo, rfl⟩ : ∃ wo : World, wo = w := ⟨_, rfl⟩
 have HPA := Lib.hid (fun W (hx : Ext wo W) => rPath_any v T k W (hv.ext hx) hT hk)
 have HPM := Lib.hid (path_mem hT k k (Nat.le_refl _) hk)
 have HPL := path_len hT k k (Nat.le_refl _) hk
 have hl := hT.len
 obtain ⟨ao, c, rfl, hlen, hn⟩ := hv.open
 have HN := Lib.hid hn
 obtain ⟨s0o, s0c, rfl, hsl0, hs0⟩ := ha.open
 obtain ⟨s1o, s1c, rfl, hsl1, hs1⟩ := hb.open
 obtain ⟨T3, hT3⟩ : ∃ T3, wo.heap.size = T3 := ⟨_, rfl⟩
 obtain ⟨W3, hW3⟩ : ∃ W3, wo.alloc (.cells #[.slice s0o S0.length s0c, .slice s1o S1.length s1c] 40) = W3 := ⟨_, rfl⟩
 have X3 : Ext wo W3 := by rw [← hW3]; exact (Ext.refl wo).alloc _
 have a0 : W3.cell? ⟨T3, 0, none⟩ = some (.slice s0o S0.length s0c) := by rw [← hW3, ← hT3]; simp [go_sem]
 have a1 : W3.cell? ⟨T3, 1, none⟩ = some (.slice s1o S1.length s1c) := by rw [← hW3, ← hT3]; simp [go_sem]
 obtain ⟨T4, hT4⟩ : ∃ T4, W3.heap.size = T4 := ⟨_, rfl⟩
 obtain ⟨W4, hW4⟩ : ∃ W4, W3.alloc (.cells #[.bool g0, .bool g1] 43) = W4 := ⟨_, rfl⟩
 have X4 : Ext W3 W4 := by rw [← hW4]; exact (Ext.refl W3).alloc _
 have b0 : W4.cell? ⟨T4, 0, none⟩ = some (.bool g0) := by rw [← hW4, ← hT4]; simp [go_sem]
 have b1 : W4.cell? ⟨T4, 1, none⟩ = some (.bool g1) := by rw [← hW4, ← hT4]; simp [go_sem]
 have a0 := X4.cell a0
 have a1 := X4.cell a1
 have HPLY : Hid (∀ p : Int, p = 0 ∨ p = 1 → ∃ (pn : Nat) (gp : Bool) (S : List Ch) (so : Option Addr) (sc : Nat), p = (pn : Int) ∧ pn < 2 ∧ W4.cell? ⟨T4, pn, none⟩ = some (.bool gp) ∧ W4.cell? ⟨T3, pn, none⟩ = some (.slice so S.length sc) ∧ ChsOf wo so S ∧ S.length ≤ 17592186044416 ∧ givG g0 g1 S0 S1 p = (if gp = true then some S else none) ∧ (gp = true → FitS T p S)) := by
  intro p hp
  rcases hp with rfl | rfl
  · exact ⟨0, g0, S0, s0o, s0c, rfl, by omega, b0, a0, hs0, hsl0, rfl, h0⟩
  · exact ⟨1, g1, S1, s1o, s1c, rfl, by omega, b1, a1, hs1, hsl1, rfl, h1⟩
 have HX4 := Lib.hid (X3.trans X4)
 have HFB := Lib.hid (fun (l : List (Nat × Nat)) => fold_RB hT (givG_fit h0 h1) l 1 1 RB_1)
 have HOK := Lib.hid (fun (i : Nat) (x : Nd) (hx : T[i]? = some x) => odds_ok hT hx)
 have HND := Lib.hid hT.node
 obtain ⟨G, hG⟩ : ∃ G, givG g0 g1 S0 S1 = G := ⟨_, rfl⟩
 rw [hG] at HPLY HFB ⊢
 unfold chanceT
 unfold pathI at HPA
 obtain ⟨l, hll⟩ : ∃ l, path T k = l := ⟨_, rfl⟩
 rw [hll] at HPA HPM HPL ⊢
 have hl9 : l.length ≤ 120 := by omega
 have HR0 : Hid (∀ Q : Rat, (l.take 0).foldl (facP T G) 1 = 1) := fun _ => rfl
 clear hv hT hn hll hk ha hb h0 h1 hs0 hs1 hsl0 hsl1 X3 X4 hG a0 a1 b0 b1 HPL
 go_enter Tryz.func19, Tryz.ntmps19
 go_wp2_with fail
 refine (HPA.out _ HX4.out).mono ?_
 rintro e w1 ⟨u, rfl, hu, X1⟩
 obtain ⟨po, pc, rfl, _, hu2⟩ := hu.open
 have HU := Lib.hid hu2
 have HX1 := Lib.hid X1
 have hml : (l.map nI).length = l.length := List.length_map ..
 rw [hml]
 clear hu hu2 hml X1 HPA hW3 hT3 hW4 hT4
 go_wp2_with fail
 go_loopw [9, 19] (fun qv iv wr => ∃ (i : Nat) (q : Rat), i ≤ l.length ∧ iv = .int .i64 i ∧ qv = .string (ratT q) ∧ Hid (q = (l.take i).foldl (facP T G) 1) ∧ Ext w1 wr) (fun _ iv _ => l.length - (intOf iv).toNat)
 case atStart => exact ⟨0, 1, Nat.zero_le _, rfl, by rw [show ratT 1 = ⟨#[49]⟩ from by decide +kernel], rfl, Ext.refl _⟩
 case round =>
  obtain ⟨i, q, hi, rfl, rfl, HQ, Z⟩ := hrel
  by_cases hlt : i < l.length
  · obtain ⟨s, d1, d2, d3⟩ := get_lt hlt
    obtain ⟨pb, poff, rfl, f0, f1⟩ := (HU.out.ext Z).at (i := i) (p := nI s) (by show _ = _; rw [List.getElem?_map, d1.out]; rfl)
    obtain ⟨x, hx, hsx, hsk⟩ := HPM.out s (List.mem_of_getElem? d1.out)
    have ZZ := HX1.out.trans Z
    obtain ⟨b2, off2, no, nc, oo, oc, rfl, c0, c1, c2, c3, c4, c5, _, hod, _⟩ := (HN.out.ext (HX4.out.trans ZZ)).at (show Hid (T[s.1]? = some x) from hx)
    have hii : (i : Int) < (l.length : Int) := by omega
    have hnode := HND.out s.1 x hx
    have hxT := Valid.lt hx
    have hok := HOK.out _ _ hx
    have HXM := Lib.hid (List.mem_of_getElem? hx)
    have HQ1 : Hid ((l.take (i + 1)).foldl (facP T G) 1 = facP T G q s) := by
     show _ = _
     rw [d3.out, List.foldl_append, HQ.out]; rfl
    have HFAC : Hid (facP T G q s = if x.kind = 1 then q * ((x.odds[s.2]?).map ratOf).getD 1 else if x.kind = 2 then (match G x.player with | none => q | some S => pickP S x.info s.2 q) else q) := by
     show facP T G q s = _
     unfold facP
     rw [hx]
     dsimp only
     rfl
    have HRB : Hid (RB 240001 q) := by
     show RB _ _
     rw [HQ.out]
     refine (HFB.out (l.take i)).mono ?_
     rw [List.length_take]
     omega
    obtain ⟨sa, sb⟩ := s
    unfold nI at f0 f1
    dsimp only at f0 f1 c0 c1 c2 c3 c4 c5 hsx hxT HFAC
    obtain ⟨T7, hT7⟩ : ∃ T7, wr.heap.size = T7 := ⟨_, rfl⟩
    obtain ⟨W5, hW5⟩ : ∃ W5, wr.alloc (.cells #[.int .i64 (sa : Int), .int .i64 (sb : Int)] 101) = W5 := ⟨_, rfl⟩
    have X5 : Ext wr W5 := by rw [← hW5]; exact (Ext.refl wr).alloc _
    have p0 : W5.cell? ⟨T7, 0, none⟩ = some (.int .i64 (sa : Int)) := by rw [← hW5, ← hT7]; simp [go_sem]
    have p1 : W5.cell? ⟨T7, 1, none⟩ = some (.int .i64 (sb : Int)) := by rw [← hW5, ← hT7]; simp [go_sem]
    have c0 := X5.cell c0
    have c1 := X5.cell c1
    have c2 := X5.cell c2
    have c3 := X5.cell c3
    have c4 := X5.cell c4
    have c5 := X5.cell c5
    have hsa : (sa : Int) < (T.length : Int) := by omega
    have hNX : x.next.length ≤ 6 := by
     rcases hnode with ⟨_, _, _, hN, _⟩ | ⟨_, _, _, _, _, _, hNE⟩ | ⟨_, _, _, _, _, _, hNE⟩
     · rw [hN]; exact Nat.zero_le _
     · exact (nextE_zero hNE).2.1
     · exact (nextE_zero hNE).2.1
    obtain ⟨T8, hT8⟩ : ∃ T8, W5.heap.size = T8 := ⟨_, rfl⟩
    rcases hnode with ⟨k0, _, _, hN, hO, _⟩ | ⟨k0, _, _, _, hOL, _, hNE⟩ | ⟨k0, hON, _, hpl, hi1, hi2, hNE⟩
    · -- an end has no child
      rw [hN] at hsx
      exact absurd hsx (by simp)
    · -- chance
      rw [k0] at HFAC c0
      rw [if_pos rfl] at HFAC
      obtain ⟨o, o1, _, _⟩ := get_lt (xs := x.odds) (k := sb) (by rw [hOL]; exact hsx)
      have HOO := Lib.hid (hok o (List.mem_of_getElem? o1.out))
      obtain ⟨oo2, oc2, e2, _, hoc⟩ := (hod.ext X5).open
      simp only [Value.slice.injEq] at e2
      obtain ⟨rfl, _, rfl⟩ := e2
      obtain ⟨ob, ooff, rfl, ho0⟩ := hoc.at o1
      rw [o1.out] at HFAC
      have HFC : Hid (facP T G q (sa, sb) = q * ratOf o) := HFAC.out
      clear HFAC
      have hos : (sb : Int) < (x.odds.length : Int) := by omega
      have ht : o = ratT (ratOf o) := text_ratT HOO.out
      have hrb : RB 2000 (ratOf o) := ratOf_RB2k HOO.out
      generalize ratOf o = r at *
      subst ht
      have HRM := Lib.hid (fun W => rMul_any (k := 240001) (m := 2000) (by omega) HRB.out hrb W)
      obtain ⟨px, hpx⟩ : ∃ px, x.player = px := ⟨_, rfl⟩
      obtain ⟨qx, hqx⟩ : ∃ qx, x.info = qx := ⟨_, rfl⟩
      obtain ⟨nx, hnx⟩ : ∃ nx, x.next.length = nx := ⟨_, rfl⟩
      obtain ⟨ox, hox⟩ : ∃ ox, x.odds.length = ox := ⟨_, rfl⟩
      obtain ⟨yx, hyx⟩ : ∃ yx, x.pay = yx := ⟨_, rfl⟩
      rw [hpx] at c1
      rw [hqx] at c2
      rw [hnx] at c3
      rw [hox] at c4 hos
      rw [hyx] at c5
      obtain ⟨W6, hW6⟩ : ∃ W6, W5.alloc (.cells #[.int .i64 1, .int .i64 px, .int .i64 qx, .slice no nx nc, .slice (some ⟨ob, ooff, none⟩) ox oc, .string yx] 79) = W6 := ⟨_, rfl⟩
      have X6 : Ext W5 W6 := by rw [← hW6]; exact (Ext.refl W5).alloc _
      have y0 : W6.cell? ⟨T8, 0, none⟩ = some (.int .i64 1) := by rw [← hW6, ← hT8]; simp [go_sem]
      have y1 : W6.cell? ⟨T8, 4, none⟩ = some (.slice (some ⟨ob, ooff, none⟩) ox oc) := by rw [← hW6, ← hT8]; simp [go_sem]
      have y2 := X6.cell p1
      have y3 := X6.cell ho0
      have HZ6 := Lib.hid (Z.trans (X5.trans X6))
      clear d1 d2 d3 hx hsx hsk hlt hpx hqx hnx hox hyx hok HOO hoc hod hOL hNE hrb HRB HXM o1 ZZ Z X5 X6 HQ ho0 hxT hNX
      go_wp2_with fail
      clear c0 c1 c2 c3 c4 c5 f0 f1 p0 p1
      refine (HRM.out _).mono ?_
      rintro e w7 ⟨rfl, X7⟩
      have y0 := X7.cell y0
      go_wp2_with fail
      go_roundw
      case rel => exact ⟨i + 1, q * r, by omega, by go_num, rfl, by show _ = _; rw [HQ1.out, HFC.out], HZ6.out.trans X7⟩
      case measure => simp [intOf]; omega
    · -- a move
      obtain ⟨pn, gp, S, so, sc, hpn, hp2, hgc, hsc, hS, hSl, hgv, hfit⟩ := HPLY.out x.player hpl
      rw [k0] at HFAC c0
      rw [if_neg (by decide), if_pos rfl, hgv] at HFAC
      rw [hpn] at c1
      have HFT := Lib.hid hfit
      have hSX := hS.ext (HX4.out.trans ZZ)
      have HS := Lib.hid hSX
      have hgc := (ZZ.trans X5).cell hgc
      have hsc := (ZZ.trans X5).cell hsc
      obtain ⟨qx, hqx⟩ : ∃ qx, x.info = qx := ⟨_, rfl⟩
      obtain ⟨nx, hnx⟩ : ∃ nx, x.next.length = nx := ⟨_, rfl⟩
      obtain ⟨ox, hox⟩ : ∃ ox, x.odds.length = ox := ⟨_, rfl⟩
      obtain ⟨yx, hyx⟩ : ∃ yx, x.pay = yx := ⟨_, rfl⟩
      have HNL := Lib.hid hnx
      have HQI := Lib.hid hqx
      have HSX : Hid (sb < nx) := by show _ < _; omega
      rw [hqx] at c2 HFAC
      rw [hnx] at c3
      rw [hox] at c4
      rw [hyx] at c5
      obtain ⟨W6, hW6⟩ : ∃ W6, W5.alloc (.cells #[.int .i64 2, .int .i64 (pn : Int), .int .i64 qx, .slice no nx nc, .slice oo ox oc, .string yx] 79) = W6 := ⟨_, rfl⟩
      have X6 : Ext W5 W6 := by rw [← hW6]; exact (Ext.refl W5).alloc _
      have y0 : W6.cell? ⟨T8, 0, none⟩ = some (.int .i64 2) := by rw [← hW6, ← hT8]; simp [go_sem]
      have y1 : W6.cell? ⟨T8, 1, none⟩ = some (.int .i64 (pn : Int)) := by rw [← hW6, ← hT8]; simp [go_sem]
      have y4 : W6.cell? ⟨T8, 2, none⟩ = some (.int .i64 qx) := by rw [← hW6, ← hT8]; simp [go_sem]
      have y2 := X6.cell p1
      have y3 := X6.cell hgc
      have y5 := X6.cell hsc
      have hpn2 : (pn : Int) < 2 := by omega
      have HZ6 := Lib.hid (Z.trans (X5.trans X6))
      have HW6 := Lib.hid (X5.trans X6)
      have hsl := hSl
      clear d1 d2 d3 hx hsx hsk hlt hnx hox hyx hok hod hNE ZZ Z X5 X6 HQ hxT hON hpl hi1 hi2 hgv hfit hSX hS hgc hsc hNX
      cases gp with
      | false =>
        have HFC : Hid (facP T G q (sa, sb) = q) := HFAC.out
        clear HFAC
        clear HFT HS HXM HRB hpn hqx
        go_wp2_with fail
        go_roundw
        case rel => exact ⟨i + 1, q, by omega, by go_num, rfl, by show _ = _; rw [HQ1.out, HFC.out], HZ6.out⟩
        case measure => simp [intOf]; omega
      | true =>
        have hfit := HFT.out rfl
        have HFC : Hid (facP T G q (sa, sb) = pickP S qx sb q) := HFAC.out
        clear HFAC
        have HPR := Lib.hid (fun (j : Nat) => pick_RB (q := qx) (c := sb) (hfit.take j).nd (hfit.take j).ok HRB.out)
        have HSOK := Lib.hid hfit.ok
        have HSW := Lib.hid (fun (ch : Ch) (hc : ch ∈ S) (h : qx = ch.1) => (by
         have := hfit.wide ch hc x HXM.out k0 rfl (by rw [hqx]; exact h)
         have := HSX.out
         have := HNL.out
         omega : sb < ch.2.length))
        clear HFT hfit HXM HRB hpn hqx k0
        go_wp2_with fail
        clear c0 c1 c2 c3 c4 c5 f0 f1 p0 p1 y1 y3 y5 y0
        obtain ⟨wq, rfl⟩ : ∃ wq : World, wq = wr := ⟨_, rfl⟩
        have HY4 := Lib.hid y4
        have HY2 := Lib.hid y2
        clear y4 y2 hW5 hW6 hT7 hT8
        go_loopw [9, 53] (fun qv jv wr => ∃ (j : Nat) (r : Rat), j ≤ S.length ∧ jv = .int .i64 j ∧ qv = .string (ratT r) ∧ Hid (r = pickP (S.take j) qx sb q) ∧ Ext W6 wr) (fun _ jv _ => S.length - (intOf jv).toNat)
        case atStart => exact ⟨0, q, Nat.zero_le _, rfl, rfl, rfl, Ext.refl _⟩
        case round =>
         obtain ⟨j, r, hj, rfl, rfl, HR, X⟩ := hrel
         by_cases hlj : j < S.length
         · obtain ⟨ch, e1, _, _⟩ := get_lt hlj
           obtain ⟨sb2, soff, co, cc, rfl, g0', g1', hco⟩ := (HS.out.ext (HW6.out.trans X)).at e1
           have hjj : (j : Int) < (S.length : Int) := by omega
           have HPS := Lib.hid (pick_step (q := qx) (c := sb) e1.out q)
           have HCM := Lib.hid (List.mem_of_getElem? e1.out)
           have HOKC := Lib.hid (HSOK.out ch HCM.out)
           have HWC := Lib.hid (HSW.out ch HCM.out)
           have hrb : RB 242001 r := by rw [HR.out]; exact HPR.out j
           obtain ⟨ci, os⟩ := ch
           dsimp only at g0' g1' hco HPS HOKC HWC
           rw [← HR.out] at HPS
           have y4 := X.cell HY4.out
           have y2 := X.cell HY2.out
           obtain ⟨T9, hT9⟩ : ∃ T9, wr.heap.size = T9 := ⟨_, rfl⟩
           obtain ⟨W9, hW9⟩ : ∃ W9, wr.alloc (.cells #[.int .i64 ci, .slice co os.length cc] 73) = W9 := ⟨_, rfl⟩
           have X9 : Ext wr W9 := by rw [← hW9]; exact (Ext.refl wr).alloc _
           have z0 : W9.cell? ⟨T9, 0, none⟩ = some (.int .i64 ci) := by rw [← hW9, ← hT9]; simp [go_sem]
           have z1 : W9.cell? ⟨T9, 1, none⟩ = some (.slice co os.length cc) := by rw [← hW9, ← hT9]; simp [go_sem]
           have y4 := X9.cell y4
           have y2 := X9.cell y2
           have HX9 := Lib.hid (X.trans X9)
           by_cases hci : ci = qx
           · have HPQ : Hid (pickP (S.take (j + 1)) qx sb q = r * ((os[sb]?).map ratOf).getD 1) := by show _ = _; rw [HPS.out, if_pos hci]
             obtain ⟨o, o1, _, _⟩ := get_lt (xs := os) (k := sb) (HWC.out hci.symm)
             have HOO := Lib.hid (HOKC.out o (List.mem_of_getElem? o1.out))
             have hsl9 : (sb : Int) < (os.length : Int) := by have := HWC.out hci.symm; omega
             obtain ⟨co2, cc2, e2, _, hoc⟩ := (hco.ext X9).open
             simp only [Value.slice.injEq] at e2
             obtain ⟨rfl, _, rfl⟩ := e2
             obtain ⟨ob, ooff, rfl, ho0⟩ := hoc.at o1
             have HPF : Hid (pickP (S.take (j + 1)) qx sb q = r * ratOf o) := by show _ = _; rw [HPQ.out, o1.out]; rfl
             have ht : o = ratT (ratOf o) := text_ratT HOO.out
             have hro : RB 2000 (ratOf o) := ratOf_RB2k HOO.out
             clear HPQ HOO o1 HPS HOKC HWC HCM hoc hco e1 hlj
             generalize ratOf o = r2 at *
             subst ht
             have HRM := Lib.hid (fun W => rMul_any (k := 242001) (m := 2000) (by omega) hrb hro W)
             subst hci
             clear hrb hro HR X X9
             go_wp2_with fail
             refine (HRM.out _).mono ?_
             rintro e w10 ⟨rfl, X10⟩
             go_wp2_with fail
             go_roundw
             case rel => exact ⟨j + 1, r * r2, by omega, by go_num, rfl, by show _ = _; rw [HPF.out], HX9.out.trans X10⟩
             case measure => simp [intOf]; omega
           · have HPF : Hid (pickP (S.take (j + 1)) qx sb q = r) := by show _ = _; rw [HPS.out, if_neg hci]
             have hb1 : (ci == qx) = false := by rw [beq_eq_false_iff_ne]; exact hci
             clear hrb HR X X9 HPS HOKC HWC HCM hco e1 hlj hci
             go_wp2_with fail
             go_roundw
             case rel => exact ⟨j + 1, r, by omega, by go_num, rfl, by show _ = _; rw [HPF.out], HX9.out⟩
             case measure => simp [intOf]; omega
         · have hje : j = S.length := by omega
           subst hje
           have HRE : Hid (r = pickP S qx sb q) := by have h := HR.out; rwa [List.take_of_length_le (Nat.le_refl _)] at h
           have hge : ¬ (S.length : Int) < (S.length : Int) := by omega
           clear hlj HR
           go_wp2_with fail
           go_roundw
           case rel => exact ⟨i + 1, r, by omega, by go_num, rfl, by show _ = _; rw [HQ1.out, HFC.out, HRE.out], HZ6.out.trans X⟩
           case measure => simp [intOf]; omega
  · have hil : l.length = i := by omega
    have hq := HQ.out
    rw [List.take_of_length_le (by omega)] at hq
    have hge : ¬ (i : Int) < (l.length : Int) := by omega
    clear hlt
    go_wp2_with fail
    go_ret
    exact ⟨rfl, HX4.out.trans (HX1.out.trans Z)⟩
theorem mild_small {T : List Nd} (h : mildB T = true) : T.length ≤ 40 ∧ ∀ x ∈ T, x.pay.size ≤ 12 ∧ ∀ s ∈ x.odds, s.size ≤ 12 := by
 unfold mildB at h
 rw [Bool.and_eq_true, decide_eq_true_eq, List.all_eq_true] at h
 refine ⟨h.2, fun x hx => ?_⟩
 have h1 := h.1 x hx
 unfold smallB bulkB at h1
 simp only [Bool.and_eq_true, Bool.not_eq_true', decide_eq_false_iff_not, List.any_eq_false, decide_eq_true_eq] at h1
 exact ⟨by omega, fun s hs => by have := h1.2 s hs; omega⟩
theorem setsP_snd {T : List Nd} (hv : Valid T) (p : Int) : (setsP T p).map (·.2) = (infosT T p).map fun q => (widthT T p q : Int) := by
 rw [← setsP_valid hv p]
 unfold setsP
 rw [List.map_map, List.map_map, List.map_map]
 rfl
end Go.Proofs.YtcggohkbmhdohaaGreatDoor
