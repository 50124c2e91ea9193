/- texts merged: TrY ShelfC TrZ TrAA TrAB TrAC TrAD TrAE TrAF TrAG TrAH TrAI MaxOf -/
import Derived.Test.YtkfheeffbombhaaGreatDoorTrQX
import Derived.Shelf.Strings.Builder1
import Derived.Shelf.LaysM
import Derived.Test.YtkfheeffbombhaaGreatDoorProg
import Derived.Deep.DeepMust
import Derived.OwnWalk
import Derived.Test.YtkfheeffbombhaaGreatDoorRtI
import Derived.Test.YtkfheeffbombhaaGreatDoorShelf
/- walks of package tree: line -/
namespace Go.Proofs.YtkfheeffbombhaaGreatDoor
open Go.RowKit
set_option linter.unusedVariables false

/-! ### the text of a node -/
def spT : ByteArray := ⟨#[32]⟩
def colT : ByteArray := ⟨#[58]⟩
def chanT : ByteArray := ⟨#[99, 104, 97, 110, 99, 101]⟩
def movT : ByteArray := ⟨#[109, 111, 118, 101, 32]⟩
def endT : ByteArray := ⟨#[101, 110, 100, 32]⟩
def lineC (x : Nd) : Nat → ByteArray
  | 0 => chanT
  | c + 1 => lineC x c ++ (((spT ++ decT (x.next.getD c 0).toNat) ++ colT) ++ x.odds.getD c ⟨#[]⟩)
def lineM (x : Nd) : Nat → ByteArray
  | 0 => ((movT ++ decT x.player.toNat) ++ spT) ++ decT x.info.toNat
  | c + 1 => lineM x c ++ (spT ++ decT (x.next.getD c 0).toNat)
def lineT (x : Nd) : ByteArray := if x.kind = 0 then endT ++ x.pay else if x.kind = 1 then lineC x x.next.length else lineM x x.next.length

/-- texts of sizes that are not great -/
def TreeSm (T : List Nd) : Prop := ∀ x ∈ T, x.pay.size ≤ 1000000 ∧ ∀ s ∈ x.odds, s.size ≤ 1000000
theorem decT_sm {n : Nat} (h : n ≤ 1000) : (decT n).size ≤ 21 := by
  rw [decT_size]
  have := Lib.itoa_length_le (n : Int) (by omega) (by omega)
  rwa [Lib.itoa_nonneg] at this
theorem lineC_size {x : Nd} (ho : ∀ s ∈ x.odds, s.size ≤ 1000000) (hn : ∀ c, (x.next.getD c 0).toNat ≤ 1000) : ∀ c, (lineC x c).size ≤ 6 + c * 1000030
  | 0 => Nat.le_refl 6
  | c + 1 => by
    have ih := lineC_size ho hn c
    have h1 := decT_sm (hn c)
    have h2 : (x.odds.getD c ⟨#[]⟩).size ≤ 1000000 := by
      rw [List.getD_eq_getElem?_getD]
      cases hc : x.odds[c]? with
      | none => show (0 : Nat) ≤ _; omega
      | some s => exact ho s (List.mem_of_getElem? hc)
    rw [lineC, ByteArray.size_append, ByteArray.size_append, ByteArray.size_append, ByteArray.size_append]
    have e1 : spT.size = 1 := rfl
    have e2 : colT.size = 1 := rfl
    rw [e1, e2]
    omega
theorem lineM_size {x : Nd} (hp : x.player.toNat ≤ 1000) (hi : x.info.toNat ≤ 1000) (hn : ∀ c, (x.next.getD c 0).toNat ≤ 1000) : ∀ c, (lineM x c).size ≤ 50 + c * 30
  | 0 => by
    have h1 := decT_sm hp
    have h2 := decT_sm hi
    rw [lineM, ByteArray.size_append, ByteArray.size_append, ByteArray.size_append]
    have e1 : spT.size = 1 := rfl
    have e2 : movT.size = 5 := rfl
    rw [e1, e2]
    omega
  | c + 1 => by
    have ih := lineM_size hp hi hn c
    have h1 := decT_sm (hn c)
    rw [lineM, ByteArray.size_append, ByteArray.size_append]
    have e1 : spT.size = 1 := rfl
    rw [e1]
    omega

set_option maxHeartbeats 6400000 in
set_option maxRecDepth 100000 in
theorem line_any (T : List Nd) (hT : Valid T) (hsm : TreeSm T) (i : Nat) (x : Nd) (hx : T[i]? = some x) (no oo : Option Addr) (nc oc : Nat) (w : World) (htab : TabPow w)
    (hn : CellsOf (Value.int .i64) w no x.next) (ho : Strs w (.slice oo x.odds.length oc) x.odds) :
    Calls Tryz.prog 60 #[ndV x no nc oo oc] w fun e w' => e = .returned (.string (lineT x)) ∧ Ext w w' := by
  obtain ⟨wo, rfl⟩ : ∃ wo : World, wo = w := ⟨_, rfl⟩
  unfold ndV lineT
  have HIT := Lib.hid (fun (n : Nat) W (h : n ≤ 1000) (hX : Ext wo W) => itoa_any n (by omega) W (tabPow_ext htab hX))
  have HNC := Lib.hid hn
  have HLC : Hid (∀ c, lineC x (c + 1) = lineC x c ++ (((spT ++ decT (x.next.getD c 0).toNat) ++ colT) ++ x.odds.getD c ⟨#[]⟩)) := fun c => rfl
  have HLM : Hid (∀ c, lineM x (c + 1) = lineM x c ++ (spT ++ decT (x.next.getD c 0).toNat)) := fun c => rfl
  obtain ⟨hsp, hso⟩ := hsm x (List.mem_of_getElem? hx)
  have HSO := Lib.hid hso
  have hT2 := hT.len
  have HCH : Hid (nextE T.length i x.next = 0 ∨ x.next = [] → x.next.length ≤ 6 ∧ (∀ c, (x.next.getD c 0).toNat ≤ 1000) ∧ ∀ (c : Nat) (k : Int), x.next[c]? = some k → ∃ m : Nat, k = (m : Int) ∧ m ≤ 1000 ∧ (x.next.getD c 0).toNat = m) := fun hne => by
    rcases hne with hne | hne
    · obtain ⟨_, h2, h3⟩ := nextE_zero hne
      refine ⟨h2, fun c => ?_, fun c k hk => ?_⟩
      · rw [List.getD_eq_getElem?_getD]
        cases hc : x.next[c]? with
        | none => exact Nat.zero_le _
        | some k => have := h3 k (List.mem_of_getElem? hc); show k.toNat ≤ _; omega
      obtain ⟨h4, h5⟩ := h3 k (List.mem_of_getElem? hk)
      obtain ⟨m, rfl⟩ : ∃ m : Nat, k = (m : Int) := ⟨k.toNat, by omega⟩
      exact ⟨m, rfl, by omega, by rw [List.getD_eq_getElem?_getD, hk]; rfl⟩
    · rw [hne]; exact ⟨by simp, fun c => by simp, fun c k hk => by simp at hk⟩
  obtain ⟨oc', ho'⟩ : ∃ q, Row wo (.slice oo x.odds.length oc) q ∧ q = x.odds.map Value.string := ⟨_, ho, rfl⟩
  obtain ⟨ao2, c2, e2, hol, hoc⟩ := ho.open
  simp only [Value.slice.injEq] at e2
  obtain ⟨rfl, _, rfl⟩ := e2
  have HOC := Lib.hid hoc
  have HNODE := Lib.hid (hT.node i x hx)
  clear ho' hoc hol ho hn htab hT hx hsm hso
  rcases HNODE.out with ⟨k0, _, _, hN, hO, _⟩ | ⟨k0, _, _, _, hOL, _, hNE⟩ | ⟨k0, hON, _, hpl, hi1, hi2, hNE⟩
  · rw [k0, if_pos rfl]
    clear HNODE HCH HIT HLC HLM HNC HOC HSO
    have hps : 4 + x.pay.size ≤ 9223372036854775807 := by omega
    obtain ⟨px, hpx⟩ : ∃ px, x.player = px := ⟨_, rfl⟩
    obtain ⟨qx, hqx⟩ : ∃ qx, x.info = qx := ⟨_, rfl⟩
    obtain ⟨nx, hnx⟩ : ∃ nx, x.next.length = nx := ⟨_, rfl⟩
    obtain ⟨ox, hox⟩ : ∃ ox, x.odds.length = ox := ⟨_, rfl⟩
    obtain ⟨yx, hyx⟩ : ∃ yx, x.pay = yx := ⟨_, rfl⟩
    rw [hpx, hqx, hnx, hox, hyx]
    rw [hyx] at hps
    clear hpx hqx hnx hox hyx k0 hN hO
    go_enter Tryz.func60, Tryz.ntmps60
    go_wp2_with fail
    refine bodyPost_ret (v := .string (endT ++ yx)) (by simp [results, Tryz.results60, go_sem]; rfl) rfl ?_
    exact ⟨rfl, (Ext.refl wo).alloc _⟩
  · obtain ⟨hx6, hng, hch⟩ := HCH.out (.inl hNE)
    have HLS := Lib.hid (lineC_size HSO.out hng)
    clear hng
    rw [k0, if_neg (by decide), if_pos rfl]
    have HC := Lib.hid hch
    have HZ : Hid (lineC x 0 = chanT) := rfl
    have HOG := Lib.hid (fun c (o : ByteArray) (h : x.odds[c]? = some o) => (by rw [List.getD_eq_getElem?_getD, h]; rfl : x.odds.getD c ⟨#[]⟩ = o))
    obtain ⟨px, hpx⟩ : ∃ px, x.player = px := ⟨_, rfl⟩
    obtain ⟨qx, hqx⟩ : ∃ qx, x.info = qx := ⟨_, rfl⟩
    obtain ⟨nx, hnx⟩ : ∃ nx, x.next.length = nx := ⟨_, rfl⟩
    obtain ⟨yx, hyx⟩ : ∃ yx, x.pay = yx := ⟨_, rfl⟩
    rw [hnx] at hx6 hOL
    rw [hpx, hqx, hnx, hyx, hOL]
    have HNL := Lib.hid hnx
    have HOL := Lib.hid hOL
    obtain ⟨T7, hT7⟩ : ∃ T7, wo.heap.size = T7 := ⟨_, rfl⟩
    obtain ⟨W1, hW1⟩ : ∃ W1, wo.alloc (.cells #[.int .i64 1, .int .i64 px, .int .i64 qx, .slice no nx nc, .slice oo nx oc, .string yx] 38) = W1 := ⟨_, rfl⟩
    have X1 : Ext wo W1 := by rw [← hW1]; exact (Ext.refl wo).alloc _
    have y0 : W1.cell? ⟨T7, 0, none⟩ = some (.int .i64 1) := by rw [← hW1, ← hT7]; simp [go_sem]
    have y3 : W1.cell? ⟨T7, 3, none⟩ = some (.slice no nx nc) := by rw [← hW1, ← hT7]; simp [go_sem]
    have y4 : W1.cell? ⟨T7, 4, none⟩ = some (.slice oo nx oc) := by rw [← hW1, ← hT7]; simp [go_sem]
    have HX1 := Lib.hid X1
    have HY4 := Lib.hid y4
    clear hpx hqx hnx hyx k0 hOL hNE hch HNODE HCH X1
    go_enter Tryz.func60, Tryz.ntmps60
    go_wp2_with fail
    clear y0 y3 y4 hT7 hW1
    go_loopw [3, 21] (fun sv iv wr => ∃ (c : Nat), c ≤ nx ∧ iv = .int .i64 c ∧ sv = .string (lineC x c) ∧ Ext W1 wr) (fun _ iv _ => nx - (intOf iv).toNat)
    case atStart => exact ⟨0, Nat.zero_le _, rfl, rfl, Ext.refl _⟩
    case round =>
      obtain ⟨c, hc, rfl, rfl, X⟩ := hrel
      by_cases hlt : c < nx
      · obtain ⟨k, d1, _, _⟩ := get_lt (xs := x.next) (k := c) (by rw [HNL.out]; exact hlt)
        obtain ⟨o, o1, _, _⟩ := get_lt (xs := x.odds) (k := c) (by rw [HOL.out]; exact hlt)
        obtain ⟨m, rfl, hm1, hm2⟩ := HC.out c k d1.out
        obtain ⟨nb, noff, rfl, hk0⟩ := (HNC.out.ext (HX1.out.trans X)).at d1
        have hk0 : wr.cell? ⟨nb, noff + c, none⟩ = some (.int .i64 (m : Int)) := hk0
        obtain ⟨ob, ooff, rfl, ho0⟩ := (HOC.out.ext (HX1.out.trans X)).at o1
        have ho0 : wr.cell? ⟨ob, ooff + c, none⟩ = some (.string o) := ho0
        have y4 := X.cell HY4.out
        have HS : Hid (lineC x (c + 1) = lineC x c ++ (((spT ++ decT m) ++ colT) ++ o)) := by
          show _ = _
          rw [HLC.out c, hm2, HOG.out c o o1.out]
        have hci : (c : Int) < (nx : Int) := by omega
        have hcx : (nx : Int) ≤ 6 := by omega
        have Z := Lib.hid (HX1.out.trans X)
        have HX := Lib.hid X
        obtain ⟨L, hL⟩ : ∃ L, lineC x c = L := ⟨_, rfl⟩
        rw [hL] at HS ⊢
        obtain ⟨wq, rfl⟩ : ∃ wq : World, wq = wr := ⟨_, rfl⟩
        have ZQ := Lib.hid (Ext.refl wq)
        have hL0 := HLS.out c
        rw [hL] at hL0
        have ho9 := HSO.out o (List.mem_of_getElem? o1.out)
        have hd9 := decT_sm hm1
        have s1 : (({ data := #[32] } : ByteArray) ++ decT m).size = 1 + (decT m).size := ByteArray.size_append
        have s2 : ((({ data := #[32] } : ByteArray) ++ decT m) ++ { data := #[58] }).size = 1 + (decT m).size + 1 := by rw [ByteArray.size_append, s1]; rfl
        have s3 : (((({ data := #[32] } : ByteArray) ++ decT m) ++ { data := #[58] }) ++ o).size = 1 + (decT m).size + 1 + o.size := by rw [ByteArray.size_append, s2]
        have f1 : ¬ 9223372036854775807 < 1 + (decT m).size := by omega
        have f2 : ¬ 9223372036854775807 < (({ data := #[32] } : ByteArray) ++ decT m).size + 1 := by omega
        have f3 : ¬ 9223372036854775807 < ((({ data := #[32] } : ByteArray) ++ decT m) ++ { data := #[58] }).size + o.size := by omega
        have f4 : ¬ 9223372036854775807 < L.size + (((({ data := #[32] } : ByteArray) ++ decT m) ++ { data := #[58] }) ++ o).size := by omega
        have g2 : ¬ 9223372036854775807 < 1 + (decT m).size + 1 := by omega
        have g3 : ¬ 9223372036854775807 < 1 + (decT m).size + 1 + o.size := by omega
        have g4 : ¬ 9223372036854775807 < L.size + (1 + (decT m).size + 1 + o.size) := by omega
        clear s1 s2 s3
        clear hlt hm2 X d1 o1 hL hL0 ho9 hd9
        go_wp2_with fail
        clear hk0
        go_region_law (first | (go_simp; go_at_call 95; refine (HIT.out m _ hm1 (Z.out.trans (by repeat' (first | with_reducible exact Ext.refl _ | with_reducible apply Ext.alloc | with_reducible apply Ext.drew)))).mono ?_; rintro e w6 ⟨rfl, X6⟩; have y4 := Ext.cell (Ext.trans (by repeat' (first | with_reducible exact Ext.refl _ | with_reducible apply Ext.alloc | with_reducible apply Ext.drew)) X6) y4; have ho0 := Ext.cell (Ext.trans (by repeat' (first | with_reducible exact Ext.refl _ | with_reducible apply Ext.alloc | with_reducible apply Ext.drew)) X6) ho0; have ZQ := Lib.hid (ZQ.out.trans (Ext.trans (by repeat' (first | with_reducible exact Ext.refl _ | with_reducible apply Ext.alloc | with_reducible apply Ext.drew)) X6)); clear X6))
        all_goals
          have HE := Lib.hid (HX.out.trans ZQ.out)
          go_wp2_with fail
          go_roundw
          case rel => exact ⟨c + 1, by omega, by go_num, by rw [HS.out]; rfl, HE.out⟩
          case measure => simp [intOf]; omega
      · have hce : c = nx := by omega
        subst hce
        have hge : ¬ (c : Int) < (c : Int) := by omega
        clear hlt
        go_wp2_with fail
        go_ret
        exact ⟨rfl, HX1.out.trans X⟩
  · obtain ⟨hx6, hng, hch⟩ := HCH.out (.inl hNE)
    rw [k0, if_neg (by decide), if_neg (by decide)]
    obtain ⟨p', hp'⟩ : ∃ p' : Nat, x.player = (p' : Int) := ⟨x.player.toNat, by omega⟩
    obtain ⟨q', hq'⟩ : ∃ q' : Nat, x.info = (q' : Int) := ⟨x.info.toNat, by omega⟩
    have hp1 : p' ≤ 1000 := by omega
    have hq1 : q' ≤ 1000 := by omega
    have HLS := Lib.hid (lineM_size (x := x) (by omega) (by omega) hng)
    have HZ : Hid (lineM x 0 = ((({ data := #[109, 111, 118, 101, 32] } : ByteArray) ++ decT p') ++ { data := #[32] }) ++ decT q') := by show _ = _; rw [lineM, hp', hq']; rfl
    have HC := Lib.hid hch
    have s1 : (({ data := #[109, 111, 118, 101, 32] } : ByteArray) ++ decT p').size = 5 + (decT p').size := ByteArray.size_append
    have s2 : ((({ data := #[109, 111, 118, 101, 32] } : ByteArray) ++ decT p') ++ { data := #[32] }).size = 5 + (decT p').size + 1 := by rw [ByteArray.size_append, s1]; rfl
    have hd1 := decT_sm hp1
    have hd2 := decT_sm hq1
    have f1 : ¬ 9223372036854775807 < 5 + (decT p').size := by omega
    have f2 : ¬ 9223372036854775807 < (({ data := #[109, 111, 118, 101, 32] } : ByteArray) ++ decT p').size + 1 := by omega
    have f3 : ¬ 9223372036854775807 < ((({ data := #[109, 111, 118, 101, 32] } : ByteArray) ++ decT p') ++ { data := #[32] }).size + (decT q').size := by omega
    have g2 : ¬ 9223372036854775807 < 5 + (decT p').size + 1 := by omega
    have g3 : ¬ 9223372036854775807 < 5 + (decT p').size + 1 + (decT q').size := by omega
    obtain ⟨nx, hnx⟩ : ∃ nx, x.next.length = nx := ⟨_, rfl⟩
    obtain ⟨ox, hox⟩ : ∃ ox, x.odds.length = ox := ⟨_, rfl⟩
    obtain ⟨yx, hyx⟩ : ∃ yx, x.pay = yx := ⟨_, rfl⟩
    rw [hnx] at hx6
    rw [hp', hq', hnx, hyx, hox]
    have HNL := Lib.hid hnx
    obtain ⟨T7, hT7⟩ : ∃ T7, wo.heap.size = T7 := ⟨_, rfl⟩
    obtain ⟨W1, hW1⟩ : ∃ W1, wo.alloc (.cells #[.int .i64 2, .int .i64 (p' : Int), .int .i64 (q' : Int), .slice no nx nc, .slice oo ox oc, .string yx] 38) = W1 := ⟨_, rfl⟩
    have X1 : Ext wo W1 := by rw [← hW1]; exact (Ext.refl wo).alloc _
    have y0 : W1.cell? ⟨T7, 0, none⟩ = some (.int .i64 2) := by rw [← hW1, ← hT7]; simp [go_sem]
    have y1 : W1.cell? ⟨T7, 1, none⟩ = some (.int .i64 (p' : Int)) := by rw [← hW1, ← hT7]; simp [go_sem]
    have y2 : W1.cell? ⟨T7, 2, none⟩ = some (.int .i64 (q' : Int)) := by rw [← hW1, ← hT7]; simp [go_sem]
    have y3 : W1.cell? ⟨T7, 3, none⟩ = some (.slice no nx nc) := by rw [← hW1, ← hT7]; simp [go_sem]
    have Z := Lib.hid X1
    clear hnx hox hyx k0 hON hNE hch hng HNODE HCH X1 HLC HOC HSO s1 s2 hd1 hd2 hp' hq' hpl hi1 hi2
    go_enter Tryz.func60, Tryz.ntmps60
    go_wp2_with fail
    clear y0 hT7 hW1
    go_region_law (first | (go_simp; go_at_call 95; refine (HIT.out _ _ (by assumption) (Z.out.trans (by repeat' (first | with_reducible exact Ext.refl _ | with_reducible apply Ext.alloc | with_reducible apply Ext.drew)))).mono ?_; rintro e w6 ⟨rfl, X6⟩; have y1 := Ext.cell (Ext.trans (by repeat' (first | with_reducible exact Ext.refl _ | with_reducible apply Ext.alloc | with_reducible apply Ext.drew)) X6) y1; have y2 := Ext.cell (Ext.trans (by repeat' (first | with_reducible exact Ext.refl _ | with_reducible apply Ext.alloc | with_reducible apply Ext.drew)) X6) y2; have y3 := Ext.cell (Ext.trans (by repeat' (first | with_reducible exact Ext.refl _ | with_reducible apply Ext.alloc | with_reducible apply Ext.drew)) X6) y3; have Z := Lib.hid (Z.out.trans (Ext.trans (by repeat' (first | with_reducible exact Ext.refl _ | with_reducible apply Ext.alloc | with_reducible apply Ext.drew)) X6)); clear X6))
    all_goals
      go_wp2_with fail
      clear y1 y2 y3 f1 f2 f3 g2 g3
      go_loopw [6, 52] (fun sv iv wr => ∃ (c : Nat), c ≤ nx ∧ iv = .int .i64 c ∧ sv = .string (lineM x c) ∧ Ext wo wr) (fun _ iv _ => nx - (intOf iv).toNat)
      case atStart => exact ⟨0, Nat.zero_le _, rfl, by rw [HZ.out], Z.out⟩
      case round =>
        obtain ⟨c, hc, rfl, rfl, X⟩ := hrel
        by_cases hlt : c < nx
        · obtain ⟨k, d1, _, _⟩ := get_lt (xs := x.next) (k := c) (by rw [HNL.out]; exact hlt)
          obtain ⟨m, rfl, hm1, hm2⟩ := HC.out c k d1.out
          obtain ⟨nb, noff, rfl, hk0⟩ := (HNC.out.ext X).at d1
          have hk0 : wr.cell? ⟨nb, noff + c, none⟩ = some (.int .i64 (m : Int)) := hk0
          have HS : Hid (lineM x (c + 1) = lineM x c ++ (({ data := #[32] } : ByteArray) ++ decT m)) := by
            show _ = _
            rw [HLM.out c, hm2]; rfl
          have hci : (c : Int) < (nx : Int) := by omega
          have hcx : (nx : Int) ≤ 6 := by omega
          have HX := Lib.hid X
          obtain ⟨L, hL⟩ : ∃ L, lineM x c = L := ⟨_, rfl⟩
          have hL0 := HLS.out c
          rw [hL] at HS hL0 ⊢
          have hd9 := decT_sm hm1
          have s1 : (({ data := #[32] } : ByteArray) ++ decT m).size = 1 + (decT m).size := ByteArray.size_append
          have f1 : ¬ 9223372036854775807 < 1 + (decT m).size := by omega
          have f4 : ¬ 9223372036854775807 < L.size + (({ data := #[32] } : ByteArray) ++ decT m).size := by omega
          have g4 : ¬ 9223372036854775807 < L.size + (1 + (decT m).size) := by omega
          have HI := Lib.hid (HIT.out m wr hm1 X)
          clear hlt hm2 X d1 hL hL0 hd9 s1
          go_wp2_with fail
          refine HI.out.mono ?_
          rintro e w6 ⟨rfl, X6⟩
          have HE := Lib.hid (HX.out.trans X6)
          clear X6
          go_wp2_with fail
          go_roundw
          case rel => exact ⟨c + 1, by omega, by go_num, by rw [HS.out], HE.out⟩
          case measure => simp [intOf]; omega
        · have hce : c = nx := by omega
          subst hce
          have hge : ¬ (c : Int) < (c : Int) := by omega
          clear hlt
          go_wp2_with fail
          go_ret
          exact ⟨rfl, X⟩
end Go.Proofs.YtkfheeffbombhaaGreatDoor
/- the contract of strings.Builder's WriteString, over the kit's shelf: laid by hand, for the kit's tool does not find the type of 'interface {}' in their bodies -/
namespace Go.Proofs.YtkfheeffbombhaaGreatDoor
open Go.Shelf Go.RowKit

def laysC_ren : Go.Shelf.Ren := ⟨fun | 166 => 59 | 240 => 94 | 276 => 133 | n => n, fun | 70 => 104 | 3 => 3 | 0 => 0 | 4 => 4 | 9 => 9 | 20 => 20 | 72 => 107 | 37 => 105 | 164 => 181 | 5 => 5 | 75 => 109 | 80 => 114 | n => n, fun | n => n⟩
theorem laysC166 : Go.Proofs.Lays.n166 Tryz.prog laysC_ren := {
  mixed := by kernel_rfl
  f166 := Tryz.func59.trans (congrArg some (by kernel_rfl))
  f240 := Tryz.func94.trans (congrArg some (by kernel_rfl))
  f276 := Tryz.func133.trans (congrArg some (by kernel_rfl))
  t0 := Tryz.underlying0
  a0 := Tryz.isAgg0
  z0 := Tryz.sizeOf0
  v0 := Tryz.zeroValue0
  t3 := Tryz.underlying3
  a3 := Tryz.isAgg3
  z3 := Tryz.sizeOf3
  v3 := Tryz.zeroValue3
  t4 := Tryz.underlying4
  a4 := Tryz.isAgg4
  z4 := Tryz.sizeOf4
  v4 := Tryz.zeroValue4
  t9 := Tryz.underlying9
  a9 := Tryz.isAgg9
  z9 := Tryz.sizeOf9
  v9 := Tryz.zeroValue9
  t20 := Tryz.underlying20
  a20 := Tryz.isAgg20
  z20 := Tryz.sizeOf20
  v20 := Tryz.zeroValue20
  t37 := Tryz.underlying105
  a37 := Tryz.isAgg105
  z37 := Tryz.sizeOf105
  v37 := Tryz.zeroValue105
  t70 := Tryz.underlying104
  a70 := Tryz.isAgg104
  z70 := Tryz.sizeOf104
  v70 := Tryz.zeroValue104
  t72 := Tryz.underlying107
  a72 := Tryz.isAgg107
  z72 := Tryz.sizeOf107
  v72 := Tryz.zeroValue107
  t75 := Tryz.underlying109
  a75 := Tryz.isAgg109
  z75 := Tryz.sizeOf109
  v75 := Tryz.zeroValue109
  t164 := Tryz.underlying181
  a164 := Tryz.isAgg181
  z164 := Tryz.sizeOf181
  v164 := Tryz.zeroValue181 }
theorem extraC : Builder.Extra Tryz.prog laysC_ren := {
  sizeBuilder := by kernel_rfl
  liesBuilder := by kernel_rfl
  t5 := Tryz.underlying5
  a5 := Tryz.isAgg5
  z5 := Tryz.sizeOf5
  v5 := Tryz.zeroValue5
  infoByte := by kernel_rfl
  cellsByte := by kernel_rfl
  sizeByte := by kernel_rfl
  neB5 := by decide }
theorem writeStr_any (B b : Nat) (bs : List Value) (s : ByteArray) (w : World) (h : Lib.IsBuilder 107 5 B b bs w) (hlen : bs.length + s.size ≤ 140737488355328) (hBw : B ≤ w.heap.size) :
    Calls Tryz.prog 59 #[.pointer (some ⟨b, 0, none⟩), .string s] w fun e w' => e = .returned (.tuple #[.int .i64 s.size, .nilIface]) ∧ (Lib.BuilderAt 107 5 B b (.pointer (some ⟨b, 0, none⟩)) (bs ++ Lib.strCells s) w' ∧ Below B w w') := Any.Builder_WriteString laysC166 extraC B b bs s w h hlen hBw
end Go.Proofs.YtkfheeffbombhaaGreatDoor
/- walks of package tree: Print -/
namespace Go.Proofs.YtkfheeffbombhaaGreatDoor
open Go.RowKit
set_option linter.unusedVariables false

theorem builderAt_ext' {T e : TypeId} {B b : Nat} {p : Value} {bs : List Value} {w w' : World} (h : Lib.BuilderAt T e B b p bs w) (he : Ext w w') : Lib.BuilderAt T e B b p bs w' := by
  have hlt := h.lt
  obtain ⟨hB, v, hb, hown, hne⟩ := h
  exact ⟨hB, v, by rw [he.block b hlt]; exact hb, own_ext hown he, hne⟩
theorem isBuilder_ext' {T e : TypeId} {B b : Nat} {bs : List Value} {w w' : World} (h : Lib.IsBuilder T e B b bs w) (he : Ext w w') : Lib.IsBuilder T e B b bs w' :=
  h.elim (fun h => .inl (builderAt_ext' h he)) (fun h => .inr (builderAt_ext' h he))

/-! ### the text of a game -/
def rowB (x : Nd) : List UInt8 := (lineT x).data.toList ++ [10]
def textB (T : List Nd) (i : Nat) : List UInt8 := ((T.take i).map rowB).flatten
theorem textB_succ {T : List Nd} {i : Nat} {x : Nd} (hx : T[i]? = some x) : textB T (i + 1) = textB T i ++ rowB x := by
  obtain ⟨h2, h3⟩ := List.getElem?_eq_some_iff.1 hx
  unfold textB
  rw [List.take_succ_eq_append_getElem h2, h3, List.map_append, List.flatten_append]
  simp
theorem lineT_size {T : List Nd} (hT : Valid T) (hsm : TreeSm T) {i : Nat} {x : Nd} (hx : T[i]? = some x) : (lineT x).size ≤ 6000200 := by
  have hx6 : x.next.length ≤ 6 ∧ ∀ c, (x.next.getD c 0).toNat ≤ 1000 := by
    have key : nextE T.length i x.next = 0 → x.next.length ≤ 6 ∧ ∀ c, (x.next.getD c 0).toNat ≤ 1000 := fun hne => by
      obtain ⟨_, h2, h3⟩ := nextE_zero hne
      refine ⟨h2, fun c => ?_⟩
      have := hT.len
      rw [List.getD_eq_getElem?_getD]
      cases hc : x.next[c]? with
      | none => exact Nat.zero_le _
      | some k => have := h3 k (List.mem_of_getElem? hc); show k.toNat ≤ _; omega
    rcases hT.node i x hx with ⟨_, _, _, hN, _, _⟩ | ⟨_, _, _, _, _, _, hNE⟩ | ⟨_, _, _, _, _, _, hNE⟩
    · rw [hN]; exact ⟨by simp, fun c => by simp⟩
    · exact key hNE
    · exact key hNE
  obtain ⟨hsp, hso⟩ := hsm x (List.mem_of_getElem? hx)
  unfold lineT
  by_cases k0 : x.kind = 0
  · rw [if_pos k0, ByteArray.size_append]
    have e : endT.size = 4 := rfl
    omega
  · rw [if_neg k0]
    by_cases k1 : x.kind = 1
    · rw [if_pos k1]
      have := lineC_size hso hx6.2 x.next.length
      have := Nat.mul_le_mul_right 1000030 hx6.1
      omega
    · rw [if_neg k1]
      have hpi : x.player.toNat ≤ 1000 ∧ x.info.toNat ≤ 1000 := by
        rcases hT.node i x hx with ⟨h, _⟩ | ⟨h, _⟩ | ⟨_, _, _, hp, h1, h2, _⟩
        · exact absurd h k0
        · exact absurd h k1
        · omega
      have := lineM_size hpi.1 hpi.2 hx6.2 x.next.length
      have := Nat.mul_le_mul_right 30 hx6.1
      omega
theorem textB_len {T : List Nd} (hT : Valid T) (hsm : TreeSm T) : ∀ i, i ≤ T.length → (textB T i).length ≤ i * 6000201
  | 0, _ => by unfold textB; simp
  | i + 1, hi => by
    have ih := textB_len hT hsm i (by omega)
    have hx : T[i]? = some (T[i]'(by omega)) := List.getElem?_eq_getElem (by omega)
    have h1 := lineT_size hT hsm hx
    rw [textB_succ hx, List.length_append]
    unfold rowB
    rw [List.length_append]
    have e : (lineT (T[i]'(by omega))).data.toList.length = (lineT (T[i]'(by omega))).size := Array.length_toList
    rw [e, List.length_singleton]
    have e3 : (i + 1) * 6000201 = i * 6000201 + 6000201 := Nat.succ_mul _ _
    rw [e3]
    omega
def treeT (T : List Nd) : ByteArray := ⟨(textB T T.length).toArray⟩
/-- what Print answers -/
def printF (T : List Nd) : ByteArray × Int := if treeE T ≠ 0 then (⟨#[]⟩, treeE T) else if 8192 < (textB T T.length).length then (⟨#[]⟩, 2) else (treeT T, 0)

set_option maxHeartbeats 3200000 in
set_option maxRecDepth 100000 in
theorem print_any (v : Value) (T : List Nd) (w : World) (htab : TabPow w) (hv : TreeIn w v T) (hsm : TreeSm T) :
    Calls Tryz.prog 23 #[v] w fun e w' => e = .returned (.tuple #[.string (printF T).1, .int .i64 (printF T).2]) ∧ Ext w w' := by
  obtain ⟨wo, rfl⟩ : ∃ wo : World, wo = w := ⟨_, rfl⟩
  have hz : TreeSz T := fun x hx => ⟨by have := (hsm x hx).1; omega, fun s hs => by have := (hsm x hx).2 s hs; omega⟩
  have HC := Lib.hid (treeCheck_any v T wo htab hv hz)
  obtain ⟨ao, c, rfl, hlen, hn⟩ := hv.open
  have HN := Lib.hid hn
  unfold printF
  obtain ⟨E, hE⟩ : ∃ E, treeE T = E := ⟨_, rfl⟩
  rw [hE] at HC ⊢
  clear hn hv hz
  by_cases h0 : E = 0
  · subst h0
    have hT := valid_of hE
    rw [if_neg (by simp)]
    obtain ⟨PP, hPP⟩ : ∃ PP : ByteArray × Int, (if 8192 < (textB T T.length).length then ((⟨#[]⟩ : ByteArray), (2 : Int)) else (treeT T, 0)) = PP := ⟨_, rfl⟩
    rw [hPP]
    obtain ⟨pt, pe⟩ := PP
    have HPP := Lib.hid hPP
    clear hPP
    have HLI := Lib.hid (fun i x (hx : T[i]? = some x) no oo nc oc W (hX : Ext wo W) h1 h2 => line_any T hT hsm i x hx no oo nc oc W (tabPow_ext htab hX) h1 h2)
    have HLS := Lib.hid (fun i x (hx : T[i]? = some x) => lineT_size hT hsm hx)
    have HTS := Lib.hid (textB_len hT hsm)
    have hT2 := hT.len
    clear hE hT htab hsm
    go_enter Tryz.func23, Tryz.ntmps23
    go_wp2_with fail
    refine HC.out.mono ?_
    rintro e w1 ⟨rfl, X1⟩
    clear HC
    go_wp2_with fail
    have HB0 := Lib.fresh_isBuilder 107 5 w1
    go_loopw [15] (fun iv wr => ∃ (i : Nat), i ≤ T.length ∧ iv = .int .i64 i ∧ Ext w1 wr ∧ Lib.IsBuilder 107 5 w1.heap.size w1.heap.size (Lib.byteCells (textB T i)) wr) (fun iv _ => T.length - (intOf iv).toNat)
    case atStart => exact ⟨0, Nat.zero_le _, rfl, (Ext.refl w1).alloc _, HB0⟩
    case round =>
      obtain ⟨i, hi, rfl, X, HB⟩ := hrel
      by_cases hlt : i < T.length
      · obtain ⟨x, d1, d2, d3⟩ := get_lt hlt
        obtain ⟨b, off, no, nc, oo, oc, rfl, c0, c1, c2, c3, c4, c5, hnx, hox, _⟩ := HN.out.at d1
        have XX := X1.trans X
        have c0 := XX.cell c0
        have c1 := XX.cell c1
        have c2 := XX.cell c2
        have c3 := XX.cell c3
        have c4 := XX.cell c4
        have c5 := XX.cell c5
        have hii : (i : Int) < (T.length : Int) := by omega
        have hls := HLS.out i x d1.out
        have hts := HTS.out i (by omega)
        have HST := Lib.hid (textB_succ d1.out)
        have hcall := fun W (hX : Ext wo W) => HLI.out i x d1.out no oo nc oc W hX (hnx.ext hX) (hox.ext hX)
        unfold ndV at hcall
        have HROW : Hid (rowB x = (lineT x).data.toList ++ [10]) := rfl
        obtain ⟨kx, hkx⟩ : ∃ kx, x.kind = kx := ⟨_, rfl⟩
        obtain ⟨px, hpx⟩ : ∃ px, x.player = px := ⟨_, rfl⟩
        obtain ⟨qx, hqx⟩ : ∃ qx, x.info = qx := ⟨_, rfl⟩
        obtain ⟨nx, hnx'⟩ : ∃ nx, x.next.length = nx := ⟨_, rfl⟩
        obtain ⟨ox, hox'⟩ : ∃ ox, x.odds.length = ox := ⟨_, rfl⟩
        obtain ⟨yx, hyx⟩ : ∃ yx, x.pay = yx := ⟨_, rfl⟩
        rw [hkx, hpx, hqx, hnx', hox', hyx] at hcall
        rw [hkx] at c0
        rw [hpx] at c1
        rw [hqx] at c2
        rw [hnx'] at c3
        rw [hox'] at c4
        rw [hyx] at c5
        have HCALL := Lib.hid hcall
        obtain ⟨L, hL⟩ : ∃ L, lineT x = L := ⟨_, rfl⟩
        rw [hL] at HCALL hls HROW
        obtain ⟨T7, hT7⟩ : ∃ T7, wr.heap.size = T7 := ⟨_, rfl⟩
        obtain ⟨W5, hW5⟩ : ∃ W5, wr.alloc (.cells #[.int .i64 kx, .int .i64 px, .int .i64 qx, .slice no nx nc, .slice oo ox oc, .string yx] 38) = W5 := ⟨_, rfl⟩
        have X5 : Ext wr W5 := by rw [← hW5]; exact (Ext.refl wr).alloc _
        have y0 : W5.cell? ⟨T7, 0, none⟩ = some (.int .i64 kx) := by rw [← hW5, ← hT7]; simp [go_sem]
        have y1 : W5.cell? ⟨T7, 1, none⟩ = some (.int .i64 px) := by rw [← hW5, ← hT7]; simp [go_sem]
        have y2 : W5.cell? ⟨T7, 2, none⟩ = some (.int .i64 qx) := by rw [← hW5, ← hT7]; simp [go_sem]
        have y3 : W5.cell? ⟨T7, 3, none⟩ = some (.slice no nx nc) := by rw [← hW5, ← hT7]; simp [go_sem]
        have y4 : W5.cell? ⟨T7, 4, none⟩ = some (.slice oo ox oc) := by rw [← hW5, ← hT7]; simp [go_sem]
        have y5 : W5.cell? ⟨T7, 5, none⟩ = some (.string yx) := by rw [← hW5, ← hT7]; simp [go_sem]
        have HX5 := Lib.hid (X.trans X5)
        have HXX5 := Lib.hid (XX.trans X5)
        have HB5 := Lib.hid (isBuilder_ext' HB X5)
        have hls1 : L.size + 1 ≤ 9223372036854775807 := by omega
        have hls2 : ¬ 9223372036854775807 < L.size + 1 := by omega
        clear hcall hkx hpx hqx hnx' hox' hyx hL d1 d2 d3 hnx hox hlt HB X XX X5
        go_wp2_with fail
        clear hT7 hW5 c0 c1 c2 c3 c4 c5
        refine (HCALL.out _ HXX5.out).mono ?_
        rintro e w6 ⟨rfl, X6⟩
        have HX6 := Lib.hid (HX5.out.trans X6)
        have HB6 := Lib.hid (isBuilder_ext' HB5.out X6)
        clear y0 y1 y2 y3 y4 y5 X6
        obtain ⟨L1, hL1⟩ : ∃ L1 : ByteArray, L ++ { data := #[10] } = L1 := ⟨_, rfl⟩
        have hz1 : L1.size = L.size + 1 := by rw [← hL1, ByteArray.size_append]; rfl
        have HBY : Hid (Lib.byteCells (textB T i) ++ Lib.strCells L1 = Lib.byteCells (textB T (i + 1))) := by
          show _ = _
          rw [HST.out, HROW.out, ← hL1]
          simp [Lib.byteCells, Lib.strCells]
        go_wp2_with fail
        refine (writeStr_any w1.heap.size w1.heap.size (Lib.byteCells (textB T i)) L1 w6 HB6.out (by rw [Lib.byteCells_length]; omega) HX6.out.size).mono ?_
        rintro e w7 ⟨rfl, HB7, X7⟩
        rw [HBY.out] at HB7
        have HB8 := Lib.hid HB7
        have HX8 := Lib.hid (Below.trans HX6.out X7)
        clear HB7 X7
        go_wp2_with fail
        go_roundw
        case rel => exact ⟨i + 1, by omega, by go_num, HX8.out, .inr HB8.out⟩
        case measure => simp [intOf]; omega
      · have hie : i = T.length := by omega
        subst hie
        have hts := HTS.out T.length (by omega)
        have hge : ¬ (T.length : Int) < (T.length : Int) := by omega
        have HBX := Lib.hid HB
        have HXX := Lib.hid X
        obtain ⟨F, hF⟩ : ∃ F, textB T T.length = F := ⟨_, rfl⟩
        have HT : Hid (treeT T = ⟨F.toArray⟩) := by show _ = _; unfold treeT; rw [hF]
        rw [hF] at HBX hts
        have HF := Lib.hid hF
        clear hlt HB X hF
        go_wp2_with fail
        refine (Tryz.Builder_Len w1.heap.size w1.heap.size (Lib.byteCells F) wr HBX.out).mono ?_
        rintro e w2 ⟨rfl, rfl⟩
        rw [Lib.byteCells_length]
        by_cases h8 : 8192 < F.length
        · have h8i : (8192 : Int) < (F.length : Int) := by omega
          go_wp2_with fail
          go_ret2
          have hq := HPP.out
          rw [HF.out, if_pos h8] at hq
          cases hq
          exact ⟨rfl, X1.trans HXX.out⟩
        · have h8i : ¬ (8192 : Int) < (F.length : Int) := by omega
          go_wp2_with fail
          refine (Tryz.Builder_String_any w1.heap.size w1.heap.size F w2 HBX.out HXX.out.size).mono ?_
          rintro e w3 ⟨rfl, X3⟩
          have HX3 := Lib.hid (Below.trans HXX.out X3)
          clear X3
          go_wp2_with fail
          go_ret2
          have hq := HPP.out
          rw [HF.out, if_neg h8, HT.out] at hq
          cases hq
          exact ⟨rfl, X1.trans HX3.out⟩
  · have hb : (E != 0) = true := by simp [h0]
    rw [if_pos h0]
    clear hE htab
    go_enter Tryz.func23, Tryz.ntmps23
    go_wp2_with fail
    refine HC.out.mono ?_
    rintro e w2 ⟨rfl, X2⟩
    go_wp2_with fail
    go_ret2
    exact ⟨rfl, X2⟩
end Go.Proofs.YtkfheeffbombhaaGreatDoor
/- walks of package tree: number; strings.Clone -/
namespace Go.Proofs.YtkfheeffbombhaaGreatDoor
open Go.RowKit
set_option linter.unusedVariables false

set_option maxHeartbeats 1600000 in
set_option maxRecDepth 100000 in
theorem clone_any (s : ByteArray) (w : World) (hs : s.size ≤ 1000000) : Calls Tryz.prog 119 #[.string s] w fun e w' => e = .returned (.string s) ∧ Ext w w' := by
  have HC := Lib.hid (Tryz.stringslite_Clone s w (by omega))
  go_enter Tryz.func119, Tryz.ntmps119
  go_wp2_with fail
  refine HC.out.mono ?_
  rintro e w' ⟨rfl, X⟩
  go_wp2_with fail
  go_ret
  exact ⟨rfl, X⟩

set_option maxHeartbeats 1600000 in
set_option maxRecDepth 100000 in
/-- number, at the decimal of a natural number -/
theorem number_any (n : Nat) (hn : n ≤ 9223372036854775807) (h : Lib.atoiAll (decT n).data.toList = .ok (n : Int)) (w : World) (htab : TabPow w) :
    Calls Tryz.prog 121 #[.string (decT n)] w fun e w' => e = .returned (.tuple #[.int .i64 (n : Int), .bool true]) ∧ Ext w w' := by
  obtain ⟨S, hS⟩ : ∃ S, decT n = S := ⟨_, rfl⟩
  have hsz : (decT n).size ≤ 21 := by
    rw [decT_size]
    have := Lib.itoa_length_le (n : Int) (by omega) (by omega)
    rwa [Lib.itoa_nonneg] at this
  have HA := Lib.hid (Tryz.strconv_Atoi_ok (decT n) (by omega) (n : Int) h w)
  have HI := Lib.hid (fun W (hX : Ext w W) => itoa_any n hn W (tabPow_ext htab hX))
  rw [hS] at HA HI ⊢
  clear hS hsz h htab
  go_enter Tryz.func121, Tryz.ntmps121
  go_wp2_with fail
  refine HA.out.mono ?_
  rintro e w1 ⟨rfl, hw⟩
  have X1 : Ext w w1 := by
    rcases hw with rfl | ⟨t, rfl⟩
    · exact Ext.refl _
    · exact Lib.bytesWorld_below _ _ _
  clear hw
  go_wp2_with fail
  refine (HI.out _ X1).mono ?_
  rintro e w2 ⟨rfl, X2⟩
  go_wp2_with fail
  go_ret2
  exact ⟨rfl, X1.trans X2⟩
end Go.Proofs.YtkfheeffbombhaaGreatDoor
/- walks of package tree: a result of six cells; read, at ends -/
namespace Go.Proofs.YtkfheeffbombhaaGreatDoor
open Go.RowKit
set_option linter.unusedVariables false

structure Res6 (w : World) (g : Nat) (w2 : World) : Prop where
  f0 : w2.frozen? ⟨g, 0, none⟩ = false
  c0 : w2.cell? ⟨g, 0, none⟩ = some (.int .i64 0)
  f1 : ∀ x0, (w2.setCell ⟨g, 0, none⟩ x0).frozen? ⟨g, 1, none⟩ = false
  c1 : ∀ x0, (w2.setCell ⟨g, 0, none⟩ x0).cell? ⟨g, 1, none⟩ = some (.int .i64 0)
  f2 : ∀ x0 x1, ((w2.setCell ⟨g, 0, none⟩ x0).setCell ⟨g, 1, none⟩ x1).frozen? ⟨g, 2, none⟩ = false
  c2 : ∀ x0 x1, ((w2.setCell ⟨g, 0, none⟩ x0).setCell ⟨g, 1, none⟩ x1).cell? ⟨g, 2, none⟩ = some (.int .i64 0)
  f3 : ∀ x0 x1 x2, (((w2.setCell ⟨g, 0, none⟩ x0).setCell ⟨g, 1, none⟩ x1).setCell ⟨g, 2, none⟩ x2).frozen? ⟨g, 3, none⟩ = false
  c3 : ∀ x0 x1 x2, (((w2.setCell ⟨g, 0, none⟩ x0).setCell ⟨g, 1, none⟩ x1).setCell ⟨g, 2, none⟩ x2).cell? ⟨g, 3, none⟩ = some (.slice none 0 0)
  f4 : ∀ x0 x1 x2 x3, ((((w2.setCell ⟨g, 0, none⟩ x0).setCell ⟨g, 1, none⟩ x1).setCell ⟨g, 2, none⟩ x2).setCell ⟨g, 3, none⟩ x3).frozen? ⟨g, 4, none⟩ = false
  c4 : ∀ x0 x1 x2 x3, ((((w2.setCell ⟨g, 0, none⟩ x0).setCell ⟨g, 1, none⟩ x1).setCell ⟨g, 2, none⟩ x2).setCell ⟨g, 3, none⟩ x3).cell? ⟨g, 4, none⟩ = some (.slice none 0 0)
  f5 : ∀ x0 x1 x2 x3 x4, (((((w2.setCell ⟨g, 0, none⟩ x0).setCell ⟨g, 1, none⟩ x1).setCell ⟨g, 2, none⟩ x2).setCell ⟨g, 3, none⟩ x3).setCell ⟨g, 4, none⟩ x4).frozen? ⟨g, 5, none⟩ = false
  c5 : ∀ x0 x1 x2 x3 x4, (((((w2.setCell ⟨g, 0, none⟩ x0).setCell ⟨g, 1, none⟩ x1).setCell ⟨g, 2, none⟩ x2).setCell ⟨g, 3, none⟩ x3).setCell ⟨g, 4, none⟩ x4).cell? ⟨g, 5, none⟩ = some (.string ⟨#[]⟩)
  d0 : ∀ x0 x1 x2 x3 x4 x5, ((((((w2.setCell ⟨g, 0, none⟩ x0).setCell ⟨g, 1, none⟩ x1).setCell ⟨g, 2, none⟩ x2).setCell ⟨g, 3, none⟩ x3).setCell ⟨g, 4, none⟩ x4).setCell ⟨g, 5, none⟩ x5).cell? ⟨g, 0, none⟩ = some x0
  d1 : ∀ x0 x1 x2 x3 x4 x5, ((((((w2.setCell ⟨g, 0, none⟩ x0).setCell ⟨g, 1, none⟩ x1).setCell ⟨g, 2, none⟩ x2).setCell ⟨g, 3, none⟩ x3).setCell ⟨g, 4, none⟩ x4).setCell ⟨g, 5, none⟩ x5).cell? ⟨g, 1, none⟩ = some x1
  d2 : ∀ x0 x1 x2 x3 x4 x5, ((((((w2.setCell ⟨g, 0, none⟩ x0).setCell ⟨g, 1, none⟩ x1).setCell ⟨g, 2, none⟩ x2).setCell ⟨g, 3, none⟩ x3).setCell ⟨g, 4, none⟩ x4).setCell ⟨g, 5, none⟩ x5).cell? ⟨g, 2, none⟩ = some x2
  d3 : ∀ x0 x1 x2 x3 x4 x5, ((((((w2.setCell ⟨g, 0, none⟩ x0).setCell ⟨g, 1, none⟩ x1).setCell ⟨g, 2, none⟩ x2).setCell ⟨g, 3, none⟩ x3).setCell ⟨g, 4, none⟩ x4).setCell ⟨g, 5, none⟩ x5).cell? ⟨g, 3, none⟩ = some x3
  d4 : ∀ x0 x1 x2 x3 x4 x5, ((((((w2.setCell ⟨g, 0, none⟩ x0).setCell ⟨g, 1, none⟩ x1).setCell ⟨g, 2, none⟩ x2).setCell ⟨g, 3, none⟩ x3).setCell ⟨g, 4, none⟩ x4).setCell ⟨g, 5, none⟩ x5).cell? ⟨g, 4, none⟩ = some x4
  d5 : ∀ x0 x1 x2 x3 x4 x5, ((((((w2.setCell ⟨g, 0, none⟩ x0).setCell ⟨g, 1, none⟩ x1).setCell ⟨g, 2, none⟩ x2).setCell ⟨g, 3, none⟩ x3).setCell ⟨g, 4, none⟩ x4).setCell ⟨g, 5, none⟩ x5).cell? ⟨g, 5, none⟩ = some x5
  ext : ∀ x0 x1 x2 x3 x4 x5, Ext w ((((((w2.setCell ⟨g, 0, none⟩ x0).setCell ⟨g, 1, none⟩ x1).setCell ⟨g, 2, none⟩ x2).setCell ⟨g, 3, none⟩ x3).setCell ⟨g, 4, none⟩ x4).setCell ⟨g, 5, none⟩ x5)
  gr : ∀ x0 x1 x2 x3 x4 x5, w2.grownBy ((((((w2.setCell ⟨g, 0, none⟩ x0).setCell ⟨g, 1, none⟩ x1).setCell ⟨g, 2, none⟩ x2).setCell ⟨g, 3, none⟩ x3).setCell ⟨g, 4, none⟩ x4).setCell ⟨g, 5, none⟩ x5) (some g)
theorem res6 {w w0 w2 : World} {g : Nat} {t : TypeId} (hg : g = w0.heap.size) (h0 : Ext w w0) (X : Ext (w0.alloc (.cells #[.int .i64 0, .int .i64 0, .int .i64 0, .slice none 0 0, .slice none 0 0, .string ⟨#[]⟩] t)) w2) : Res6 w g w2 := by
  subst hg
  have hO := own_ext (World.ownsRow_lit (base := w0.heap.size) (e := t) (size := 1) w0 #[.int .i64 0, .int .i64 0, .int .i64 0, .slice none 0 0, .slice none 0 0, .string ⟨#[]⟩] 6 (Nat.le_refl _) (by unfold maxLen; omega) (by simp)) X
  have hX : Ext w w2 := (h0.alloc _).trans X
  have hs := h0.size
  have s1 := fun x0 => hO.stored 0 x0
  have s2 := fun x0 x1 => (s1 x0).1.stored 1 x1
  have s3 := fun x0 x1 x2 => (s2 x0 x1).1.stored 2 x2
  have s4 := fun x0 x1 x2 x3 => (s3 x0 x1 x2).1.stored 3 x3
  have s5 := fun x0 x1 x2 x3 x4 => (s4 x0 x1 x2 x3).1.stored 4 x4
  have s6 := fun x0 x1 x2 x3 x4 x5 => (s5 x0 x1 x2 x3 x4).1.stored 5 x5
  exact {
    f0 := hO.frozenAt 0
    c0 := own_cell hO (j := 0) (x := .int .i64 0) rfl
    f1 := fun x0 => (s1 x0).1.frozenAt 1
    c1 := fun x0 => own_cell (s1 x0).1 (j := 1) (x := .int .i64 0) rfl
    f2 := fun x0 x1 => (s2 x0 x1).1.frozenAt 2
    c2 := fun x0 x1 => own_cell (s2 x0 x1).1 (j := 2) (x := .int .i64 0) rfl
    f3 := fun x0 x1 x2 => (s3 x0 x1 x2).1.frozenAt 3
    c3 := fun x0 x1 x2 => own_cell (s3 x0 x1 x2).1 (j := 3) (x := .slice none 0 0) rfl
    f4 := fun x0 x1 x2 x3 => (s4 x0 x1 x2 x3).1.frozenAt 4
    c4 := fun x0 x1 x2 x3 => own_cell (s4 x0 x1 x2 x3).1 (j := 4) (x := .slice none 0 0) rfl
    f5 := fun x0 x1 x2 x3 x4 => (s5 x0 x1 x2 x3 x4).1.frozenAt 5
    c5 := fun x0 x1 x2 x3 x4 => own_cell (s5 x0 x1 x2 x3 x4).1 (j := 5) (x := .string ⟨#[]⟩) rfl
    d0 := fun x0 x1 x2 x3 x4 x5 => own_cell (s6 x0 x1 x2 x3 x4 x5).1 (j := 0) (x := x0) rfl
    d1 := fun x0 x1 x2 x3 x4 x5 => own_cell (s6 x0 x1 x2 x3 x4 x5).1 (j := 1) (x := x1) rfl
    d2 := fun x0 x1 x2 x3 x4 x5 => own_cell (s6 x0 x1 x2 x3 x4 x5).1 (j := 2) (x := x2) rfl
    d3 := fun x0 x1 x2 x3 x4 x5 => own_cell (s6 x0 x1 x2 x3 x4 x5).1 (j := 3) (x := x3) rfl
    d4 := fun x0 x1 x2 x3 x4 x5 => own_cell (s6 x0 x1 x2 x3 x4 x5).1 (j := 4) (x := x4) rfl
    d5 := fun x0 x1 x2 x3 x4 x5 => own_cell (s6 x0 x1 x2 x3 x4 x5).1 (j := 5) (x := x5) rfl
    ext := fun x0 x1 x2 x3 x4 x5 => ((((((hX.setCell (p := ⟨w0.heap.size, 0, none⟩) hs x0).setCell (p := ⟨w0.heap.size, 1, none⟩) hs x1).setCell (p := ⟨w0.heap.size, 2, none⟩) hs x2).setCell (p := ⟨w0.heap.size, 3, none⟩) hs x3).setCell (p := ⟨w0.heap.size, 4, none⟩) hs x4).setCell (p := ⟨w0.heap.size, 5, none⟩) hs x5)
    gr := fun x0 x1 x2 x3 x4 x5 => (Lib.grownBy_trans (Lib.grownBy_trans (Lib.grownBy_trans (Lib.grownBy_trans (Lib.grownBy_trans (s1 x0).2 (s2 x0 x1).2) (s3 x0 x1 x2).2) (s4 x0 x1 x2 x3).2) (s5 x0 x1 x2 x3 x4).2) (s6 x0 x1 x2 x3 x4 x5).2) }
/-- the count of bytes that a machine's search takes at most: a variable of the library -/
def MaxIs (w : World) : Prop := ∃ m : Int, w.cell? ⟨0, 0, none⟩ = some (.int .i64 m)
theorem MaxIs.ext {w w' : World} (h : MaxIs w) (hx : Ext w w') : MaxIs w' := by
  obtain ⟨m, hm⟩ := h
  exact ⟨m, hx.cell hm⟩
/-- the words of a text, as Split lays them -/
theorem split_any (s sep : ByteArray) (ws : List ByteArray) (w : World) (hm : MaxIs w) (hs : s.size ≤ 100000) (h1 : 1 ≤ sep.size) (hw : Lib.splitB sep 0 (Lib.countB s sep) s = ws) (hl : ws.length = Lib.countB s sep + 1) :
    Calls Tryz.prog 80 #[.string s, .string sep] w fun e w' => e = .returned (.slice (some ⟨w.heap.size, 0, none⟩) ws.length ws.length) ∧ w' = w.alloc (.cells (ws.map Value.string).toArray 9) := by
  obtain ⟨m, hm⟩ := hm
  have := Tryz.strings_Split s sep m w (by omega) hm h1
  rw [hw, ← hl] at this
  exact this
def nEnd (p : ByteArray) : Nd := ⟨0, 0, 0, [], [], p⟩

set_option maxHeartbeats 3200000 in
set_option maxRecDepth 100000 in
theorem readEnd_any (s p : ByteArray) (w : World) (hm : MaxIs w) (hs : s.size ≤ 100000) (hps : p.size ≤ 1000) (hw : Lib.splitB spT 0 (Lib.countB s spT) s = [(⟨#[101, 110, 100]⟩ : ByteArray), p]) (hc : Lib.countB s spT = 1) (hcon : Lib.containsS [(⟨#[101, 110, 100]⟩ : ByteArray), p] ⟨#[]⟩ = false) :
    Calls Tryz.prog 81 #[.string s] w fun e w' => e = .returned (.tuple #[.agg #[.int .i64 0, .int .i64 0, .int .i64 0, .slice none 0 0, .slice none 0 0, .string p], .bool true]) ∧ Ext w w' := by
  obtain ⟨W1, hW1⟩ : ∃ W1, w.alloc (.cells #[.int .i64 0, .int .i64 0, .int .i64 0, .slice none 0 0, .slice none 0 0, .string ⟨#[]⟩] 38) = W1 := ⟨_, rfl⟩
  have X1 : Ext w W1 := by rw [← hW1]; exact (Ext.refl w).alloc _
  obtain ⟨g, hg⟩ : ∃ g, w.heap.size = g := ⟨_, rfl⟩
  have HSP := Lib.hid (split_any s spT [(⟨#[101, 110, 100]⟩ : ByteArray), p] W1 (hm.ext X1) hs (by decide) hw (by rw [hc]; rfl))
  obtain ⟨k, hk⟩ : ∃ k, W1.heap.size = k := ⟨_, rfl⟩
  obtain ⟨W2, hW2⟩ : ∃ W2, W1.alloc (.cells #[.string ⟨#[101, 110, 100]⟩, .string p] 9) = W2 := ⟨_, rfl⟩
  have X2 : Ext W1 W2 := by rw [← hW2]; exact (Ext.refl W1).alloc _
  have y0 : W2.cell? ⟨k, 0, none⟩ = some (.string ⟨#[101, 110, 100]⟩) := by rw [← hW2, ← hk]; simp [go_sem]
  have y1 : W2.cell? ⟨k, 1, none⟩ = some (.string p) := by rw [← hW2, ← hk]; simp [go_sem]
  have HCO := Lib.hid (Tryz.slices_Contains_string k 0 2 2 [(⟨#[101, 110, 100]⟩ : ByteArray), p] ⟨#[]⟩ W2 (Nat.le_refl 2) (by decide) (fun j hj => by
    match j, hj with
    | 0, _ => exact y0
    | 1, _ => exact y1))
  rw [show ([(⟨#[101, 110, 100]⟩ : ByteArray), p].take 2) = [(⟨#[101, 110, 100]⟩ : ByteArray), p] from rfl, hcon] at HCO
  rw [hk] at HSP
  have HCL := Lib.hid (clone_any p W2 (by omega))
  have HRES := Lib.hid (fun w2 (X : Ext W1 w2) => res6 (w := w) (w0 := w) (w2 := w2) (g := g) (t := 38) hg.symm (Ext.refl w) (by rw [hW1]; exact X))
  have HX2 := Lib.hid X2
  clear hcon hm hs hps hw hc X1 X2
  go_enter Tryz.func81, Tryz.ntmps81
  go_wp2_with fail
  refine HSP.out.mono ?_
  rintro e w2 ⟨rfl, hw2⟩
  have hw3 : w2 = W2 := by rw [hw2, ← hW2]; rfl
  clear hw2
  subst hw3
  go_wp2_with fail
  refine HCO.out.mono ?_
  rintro e w3 ⟨rfl, rfl⟩
  go_wp2_with fail
  refine HCL.out.mono ?_
  rintro e w4 ⟨rfl, X4⟩
  have R := HRES.out w4 (HX2.out.trans X4)
  have f0 := R.f0; have c0 := R.c0; have f1 := R.f1; have c1 := R.c1; have f2 := R.f2; have c2 := R.c2; have f3 := R.f3; have c3 := R.c3; have f4 := R.f4; have c4 := R.c4; have f5 := R.f5; have c5 := R.c5;
  have R := Lib.hid R
  go_wp2_with fail
  refine bodyPost_ret (v := .tuple #[.agg #[.int .i64 0, .int .i64 0, .int .i64 0, .slice none 0 0, .slice none 0 0, .string p], .bool true]) (by simp [results, Tryz.results81, go_sem, R.out.d0, R.out.d1, R.out.d2, R.out.d3, R.out.d4, R.out.d5]) rfl ?_
  exact ⟨rfl, R.out.ext _ _ _ _ _ _⟩
end Go.Proofs.YtkfheeffbombhaaGreatDoor
/- walks of package tree: read, at a chance of two words -/
namespace Go.Proofs.YtkfheeffbombhaaGreatDoor
open Go.RowKit
set_option linter.unusedVariables false

theorem cut_any (s a b : ByteArray) (w : World) (hm : MaxIs w) (hs : s.size ≤ 100000) (h : Lib.cut s.data.toList colT.data.toList = (a.data.toList, b.data.toList, true)) :
    Calls Tryz.prog 120 #[.string s, .string colT] w fun e w' => e = .returned (.tuple #[.string a, .string b, .bool true]) ∧ Ext w w' := by
  obtain ⟨m, hm⟩ := hm
  refine (Tryz.strings_Cut s colT m w (by omega) hm).mono ?_
  rintro e w' ⟨rfl, n, rfl⟩
  rw [h]
  exact ⟨rfl, (Ext.refl w).drewN n⟩
theorem own_isSl {W : World} {B : Nat} {e : TypeId} {s : Nat} {v : Value} {k : Nat} {xs : List Value} (h : W.ownsRow B e s v k xs) : ∃ po pc, v = .slice po k pc := by
  rcases h.2 with ⟨h1, h2⟩ | ⟨g2, cap2, cur, e, _⟩
  · exact ⟨none, 0, by rw [h1, h2]⟩
  · exact ⟨_, _, e⟩
/-- the node under way: its box, and the two slices that grow -/
structure CB (w : World) (b : Nat) (nv ov : Value) (c : Nat) (ns : List Int) (os : List ByteArray) : Prop where
  row : w.ownsRow b 38 1 (.slice (some ⟨b, 0, none⟩) 6 6) 6 [.int .i64 1, .int .i64 0, .int .i64 0, nv, ov, .string ⟨#[]⟩]
  li : LI (b + 1) 3 36 w nv ov c c (ns.map (Value.int .i64)) (os.map Value.string)
theorem CB.ext {w w' : World} {b : Nat} {nv ov : Value} {c : Nat} {ns : List Int} {os : List ByteArray} (h : CB w b nv ov c ns os) (hx : Ext w w') : CB w' b nv ov c ns os := ⟨own_ext h.row hx, h.li.ext hx⟩
theorem CB.put34 {w : World} {b : Nat} {nv ov nv' ov' : Value} {c : Nat} {ns : List Int} {os : List ByteArray} (h : w.ownsRow b 38 1 (.slice (some ⟨b, 0, none⟩) 6 6) 6 [.int .i64 1, .int .i64 0, .int .i64 0, nv, ov, .string ⟨#[]⟩])
    (hl : LI (b + 1) 3 36 w nv' ov' c c (ns.map (Value.int .i64)) (os.map Value.string)) : CB ((w.setCell ⟨b, 3, none⟩ nv').setCell ⟨b, 4, none⟩ ov') b nv' ov' c ns os := by
  have s1 := h.stored 3 nv'
  have s2 := s1.1.stored 4 ov'
  have hg := Lib.grownBy_trans s1.2 s2.2
  refine ⟨s2.1, own_kept hl.lo hg (.inl fun e => ?_), own_kept hl.ro hg (.inl fun e => ?_), hl.dis⟩
  · have := (hl.lo.lt b e).1; omega
  · have := (hl.ro.lt b e).1; omega
theorem CB.put43 {w : World} {b : Nat} {nv ov nv' ov' : Value} {c : Nat} {ns : List Int} {os : List ByteArray} (h : w.ownsRow b 38 1 (.slice (some ⟨b, 0, none⟩) 6 6) 6 [.int .i64 1, .int .i64 0, .int .i64 0, nv, ov, .string ⟨#[]⟩])
    (hl : LI (b + 1) 3 36 w nv' ov' c c (ns.map (Value.int .i64)) (os.map Value.string)) : CB ((w.setCell ⟨b, 4, none⟩ ov').setCell ⟨b, 3, none⟩ nv') b nv' ov' c ns os := by
  have s1 := h.stored 4 ov'
  have s2 := s1.1.stored 3 nv'
  have hg := Lib.grownBy_trans s1.2 s2.2
  refine ⟨s2.1, own_kept hl.lo hg (.inl fun e => ?_), own_kept hl.ro hg (.inl fun e => ?_), hl.dis⟩
  · have := (hl.lo.lt b e).1; omega
  · have := (hl.ro.lt b e).1; omega
theorem CB.extTo {w0 w : World} {b : Nat} {x y : Value} {j k : Nat} (h : Ext w0 w) (hb : w0.heap.size ≤ b) : Ext w0 ((w.setCell ⟨b, j, none⟩ x).setCell ⟨b, k, none⟩ y) := (h.setCell (p := ⟨b, j, none⟩) hb x).setCell (p := ⟨b, k, none⟩) hb y
section
variable {w WS : World} {b j : Nat} {x : Value} {l : List Value}
end
def nsF (n : Nat → Nat) (c : Nat) : List Int := (List.range c).map fun j => ((n j : Nat) : Int)
def osF (o : Nat → ByteArray) (c : Nat) : List ByteArray := (List.range c).map o
theorem nsF_succ (n : Nat → Nat) (c : Nat) : nsF n (c + 1) = nsF n c ++ [((n c : Nat) : Int)] := by unfold nsF; rw [List.range_succ, List.map_append]; rfl
theorem osF_succ (o : Nat → ByteArray) (c : Nat) : osF o (c + 1) = osF o c ++ [o c] := by unfold osF; rw [List.range_succ, List.map_append]; rfl
def nChance (n : Nat → Nat) (o : Nat → ByteArray) : Nd := ⟨1, 0, 0, nsF n 2, osF o 2, ⟨#[]⟩⟩

set_option maxHeartbeats 6400000 in
set_option maxRecDepth 100000 in
theorem readChance_any (s : ByteArray) (V : Nat → ByteArray) (n : Nat → Nat) (o : Nat → ByteArray) (w : World) (htab : TabPow w) (hm : MaxIs w) (hs : s.size ≤ 100000) (hvs : ∀ c, (V c).size ≤ 1000) (hos : ∀ c, (o c).size ≤ 1000) (hns : ∀ c, n c ≤ 1000)
    (hw : Lib.splitB spT 0 (Lib.countB s spT) s = [chanT, V 0, V 1]) (hc : Lib.countB s spT = 2) (hcon : Lib.containsS [chanT, V 0, V 1] ⟨#[]⟩ = false)
    (hcut : ∀ c, c < 2 → Lib.cut (V c).data.toList colT.data.toList = ((decT (n c)).data.toList, (o c).data.toList, true)) (hat : ∀ c, c < 2 → Lib.atoiAll (decT (n c)).data.toList = .ok ((n c : Nat) : Int)) (hoe : ∀ c, c < 2 → (o c).toList ≠ []) :
    Calls Tryz.prog 81 #[.string s] w fun e w' => ∃ no nc oo oc, e = .returned (.tuple #[ndV (nChance n o) no nc oo oc, .bool true]) ∧ Ints w' (.slice no 2 nc) (nsF n 2) ∧ Strs w' (.slice oo 2 oc) (osF o 2) ∧ Ext w w' := by
  obtain ⟨W1, hW1⟩ : ∃ W1, w.alloc (.cells #[.int .i64 0, .int .i64 0, .int .i64 0, .slice none 0 0, .slice none 0 0, .string ⟨#[]⟩] 38) = W1 := ⟨_, rfl⟩
  have X1 : Ext w W1 := by rw [← hW1]; exact (Ext.refl w).alloc _
  obtain ⟨g, hg⟩ : ∃ g, w.heap.size = g := ⟨_, rfl⟩
  have HSP := Lib.hid (split_any s spT [chanT, V 0, V 1] W1 (hm.ext X1) hs (by decide) hw (by rw [hc]; rfl))
  obtain ⟨k, hk⟩ : ∃ k, W1.heap.size = k := ⟨_, rfl⟩
  obtain ⟨W2, hW2⟩ : ∃ W2, W1.alloc (.cells #[.string chanT, .string (V 0), .string (V 1)] 9) = W2 := ⟨_, rfl⟩
  have X2 : Ext W1 W2 := by rw [← hW2]; exact (Ext.refl W1).alloc _
  have y0 : W2.cell? ⟨k, 0, none⟩ = some (.string chanT) := by rw [← hW2, ← hk]; simp [go_sem]
  have y1 : W2.cell? ⟨k, 1, none⟩ = some (.string (V 0)) := by rw [← hW2, ← hk]; simp [go_sem]
  have y2 : W2.cell? ⟨k, 2, none⟩ = some (.string (V 1)) := by rw [← hW2, ← hk]; simp [go_sem]
  have HYV : Hid (∀ c, c < 2 → W2.cell? ⟨k, 1 + c, none⟩ = some (.string (V c))) := fun c hc => by
    match c, hc with
    | 0, _ => exact y1
    | 1, _ => exact y2
  have HCO := Lib.hid (Tryz.slices_Contains_string k 0 3 3 [chanT, V 0, V 1] ⟨#[]⟩ W2 (Nat.le_refl 3) (by decide) (fun j hj => by
    match j, hj with
    | 0, _ => exact y0
    | 1, _ => exact y1
    | 2, _ => exact y2))
  rw [show ([chanT, V 0, V 1].take 3) = [chanT, V 0, V 1] from rfl, hcon] at HCO
  rw [hk] at HSP
  have hm2 := (hm.ext X1).ext X2
  have ht2 := tabPow_ext htab (X1.trans X2)
  have HCUT := Lib.hid (fun c (h : c < 2) W (hX : Ext W2 W) => cut_any (V c) (decT (n c)) (o c) W (hm2.ext hX) (by have := hvs c; omega) (hcut c h))
  have HNUM := Lib.hid (fun c (h : c < 2) W (hX : Ext W2 W) => number_any (n c) (by have := hns c; omega) (hat c h) W (tabPow_ext ht2 hX))
  have HCLA := Lib.hid (fun c W => clone_any (o c) W (by have := hos c; omega))
  have HOE := Lib.hid hoe
  have HRES := Lib.hid (fun w2 (X : Ext W1 w2) => res6 (w := w) (w0 := w) (w2 := w2) (g := g) (t := 38) hg.symm (Ext.refl w) (by rw [hW1]; exact X))
  have HX2 := Lib.hid X2
  obtain ⟨b5, hb5⟩ : ∃ b5, W2.heap.size = b5 := ⟨_, rfl⟩
  have HCB0 : Hid (CB (W2.alloc (.cells #[.int .i64 1, .int .i64 0, .int .i64 0, .slice none 0 0, .slice none 0 0, .string ⟨#[]⟩] 38)) b5 (.slice none 0 0) (.slice none 0 0) 0 (nsF n 0) (osF o 0)) := by
    subst hb5
    exact ⟨World.ownsRow_lit (base := W2.heap.size) (e := 38) (size := 1) W2 #[.int .i64 1, .int .i64 0, .int .i64 0, .slice none 0 0, .slice none 0 0, .string ⟨#[]⟩] 6 (Nat.le_refl _) (by unfold maxLen; omega) (by simp), LI.start _ _ _ _⟩
  have HBK : Hid (W2.heap.size = b5) := hb5
  have HGK : Hid (g < b5) := by
    show _ < _
    rw [← hb5, ← hW2, ← hg, ← hW1]
    simp
    omega
  clear hcon hm hs hw hc X1 X2 hvs hos hns hcut hat hoe hm2 ht2 htab y1 y2
  have e1 : ((chanT : ByteArray) == (⟨#[101, 110, 100]⟩ : ByteArray)) = false := rfl
  unfold chanT at *
  go_enter Tryz.func81, Tryz.ntmps81
  go_wp2_with fail
  refine HSP.out.mono ?_
  rintro e w2 ⟨rfl, hw2⟩
  have hw3 : w2 = W2 := by rw [hw2, ← hW2]; rfl
  clear hw2
  subst hw3
  go_wp2_with fail
  refine HCO.out.mono ?_
  rintro e w3 ⟨rfl, rfl⟩
  go_wp2_with fail
  go_loopw [47] (fun iv wr => ∃ (c : Nat) (nv ov : Value), c ≤ 2 ∧ iv = .int .i64 c ∧ Hid (CB wr b5 nv ov c (nsF n c) (osF o c)) ∧ Ext w3 wr) (fun iv _ => 2 - (intOf iv).toNat)
  case atStart => exact ⟨0, _, _, Nat.zero_le _, rfl, HCB0, (Ext.refl _).alloc _⟩
  case round =>
    clear HCB0
    obtain ⟨c, nv, ov, hc, rfl, HCB, X⟩ := hrel
    by_cases hlt : c < 2
    · have hkc := X.cell (HYV.out c hlt)
      have HCT := Lib.hid (HCUT.out c hlt wr X)
      have HNM := Lib.hid (HNUM.out c hlt)
      have HCLN := Lib.hid (HCLA.out c)
      have hoe := HOE.out c hlt
      have HNS := Lib.hid (nsF_succ n c)
      have HOS := Lib.hid (osF_succ o c)
      have hci : (c : Int) < 2 := by omega
      obtain ⟨m, hm⟩ : ∃ m, n c = m := ⟨_, rfl⟩
      obtain ⟨q, hq⟩ : ∃ q, o c = q := ⟨_, rfl⟩
      obtain ⟨P, hP⟩ : ∃ P, V c = P := ⟨_, rfl⟩
      obtain ⟨D, hD⟩ : ∃ D, decT m = D := ⟨_, rfl⟩
      obtain ⟨A, hA⟩ : ∃ A, nsF n c = A := ⟨_, rfl⟩
      obtain ⟨B, hB⟩ : ∃ B, osF o c = B := ⟨_, rfl⟩
      rw [hm] at HCT HNM HNS
      rw [hD] at HCT HNM
      rw [hq] at HCT HCLN HOS hoe
      have hoe1 : (q.toList == ([] : List UInt8)) = false := by rw [beq_eq_false_iff_ne]; exact hoe
      have hoe2 : q.toList.isEmpty = false := by rw [List.isEmpty_eq_false_iff]; exact hoe
      rw [hP] at hkc HCT
      rw [hA] at HNS HCB
      rw [hB] at HOS HCB
      clear hm hq hP hD hA hB
      have HX := Lib.hid X
      clear X
      go_wp2_with fail
      refine HCT.out.mono ?_
      rintro e w4 ⟨rfl, X4⟩
      have HN4 := Lib.hid (HNM.out w4 (HX.out.trans X4))
      have HX4 := Lib.hid X4
      clear X4
      go_wp2_with fail
      refine HN4.out.mono ?_
      rintro e w5 ⟨rfl, X5⟩
      have HCB5 := HCB.out.ext (HX4.out.trans X5)
      have HLR := Lib.hid HCB5.li
      have HROW := Lib.hid HCB5.row
      have Z := Lib.hid ((HX.out.trans HX4.out).trans X5)
      have hWB : w3.heap.size ≤ b5 + 1 := by have := HBK.out; omega
      have hWE : w3.heap.size ≤ b5 := by have := HBK.out; omega
      have hszw5 : b5 < w5.heap.size := (HROW.out.lt b5 rfl).2
      have hL1 : c + 1 ≤ 17592186044416 := by omega
      have hL2 : (c + 1) * 16 ≤ 140737488355328 := by omega
      have hL3 : (c + 1) * 8 ≤ 140737488355328 := by omega
      have TT := HROW.out; have af3 := TT.frozenAt 3; have ac3 := own_cell TT (j := 3) rfl; have af4 := TT.frozenAt 4; have ac4 := own_cell TT (j := 4) rfl; have ag4 := fun x => (TT.stored 3 x).1.frozenAt 4; have ad4 := fun x => own_cell (TT.stored 3 x).1 (j := 4) rfl; have ag3 := fun x => (TT.stored 4 x).1.frozenAt 3; have ad3 := fun x => own_cell (TT.stored 4 x).1 (j := 3) rfl; clear TT
      clear HCB5 X5
      go_wp2_with fail
      go_region_law (first | (go_simp; go_at_call 119; refine (HCLN.out _).mono ?_; rintro e w6 ⟨rfl, X6⟩; have Z := Lib.hid (Z.out.trans (Ext.trans (by (repeat' (first | with_reducible exact Ext.refl _ | with_reducible apply Ext.alloc | with_reducible apply Ext.drew)); done) X6)); (first | have HQ := Lib.hid (show Box w6 _ _ _ (.int .i64 (m : Int)) from by with_reducible exact (LI.bxA HLR.out X6)) | have HQ := Lib.hid (show Box w6 _ _ _ (.int .i64 (m : Int)) from by with_reducible exact (LI.bxAd HLR.out X6)) | have HQ := Lib.hid (show Box w6 _ _ _ (.int .i64 (m : Int)) from by with_reducible exact (LI.bxB HLR.out X6)) | have HQ := Lib.hid (show Box w6 _ _ _ (.int .i64 (m : Int)) from by with_reducible exact (LI.bxBd HLR.out X6)) | have HQ := Lib.hid (show Box w6 _ _ _ (.int .i64 (m : Int)) from by with_reducible exact (LI.bxC HLR.out X6)) | have HQ := Lib.hid (show Box w6 _ _ _ (.int .i64 (m : Int)) from by with_reducible exact (LI.bxCd HLR.out X6)) | have HQ := Lib.hid (show Box w6 _ _ _ (.int .i64 (m : Int)) from Box.ext HQ.out (Ext.trans (by (repeat' (first | with_reducible exact Ext.refl _ | with_reducible apply Ext.alloc | with_reducible apply Ext.drew)); done) X6)) | skip); have HLR := Lib.hid (HLR.out.ext (Ext.trans (by (repeat' (first | with_reducible exact Ext.refl _ | with_reducible apply Ext.alloc | with_reducible apply Ext.drew)); done) X6)); have HROW := Lib.hid (own_ext HROW.out (Ext.trans (by (repeat' (first | with_reducible exact Ext.refl _ | with_reducible apply Ext.alloc | with_reducible apply Ext.drew)); done) X6)); clear X6; have hszw6 : b5 < w6.heap.size := (HROW.out.lt b5 rfl).2; have TT := HROW.out; have aw6f3 := TT.frozenAt 3; have aw6c3 := own_cell TT (j := 3) rfl; have aw6f4 := TT.frozenAt 4; have aw6c4 := own_cell TT (j := 4) rfl; have aw6g4 := fun x => (TT.stored 3 x).1.frozenAt 4; have aw6d4 := fun x => own_cell (TT.stored 3 x).1 (j := 4) rfl; have aw6g3 := fun x => (TT.stored 4 x).1.frozenAt 3; have aw6d3 := fun x => own_cell (TT.stored 4 x).1 (j := 3) rfl; clear TT) | (refine step_app1 (s := .tmp 70) (x := .tmp 72) rfl rfl ei_ints rfl rfl (y := .int .i64 (m : Int)) rfl (B := b5 + 1) (n := c) (by exact (LI.ext HLR.out (by (repeat' (first | with_reducible exact Ext.refl _ | with_reducible apply Ext.alloc | with_reducible apply Ext.drew)); done)).lo) (by first | exact (Box.ext HQ.out (by (repeat' (first | with_reducible exact Ext.refl _ | with_reducible apply Ext.alloc | with_reducible apply Ext.drew)); done)).cell | ((try simp only [drew_cell]); first | exact cell_new _ _ _ | exact cell_new2 _ _ _ _ | exact cell_old2 _ _ _ _)) hL1 hL3 (by exact Nat.lt_of_lt_of_le (HROW.out.lt _ rfl).2 (Ext.size (by (repeat' (first | with_reducible exact Ext.refl _ | with_reducible apply Ext.alloc | with_reducible apply Ext.drew)); done))) ?_; intro v8 w8 hown hgrew; obtain ⟨pov8, pcv8, rfl⟩ := own_isSl hown; (first | have HP := Lib.hid (show Box w8 _ _ _ (.string q) from by with_reducible exact Box.stepL (LI.bxA HLR.out (Ext.refl _)) hgrew) | have HP := Lib.hid (show Box w8 _ _ _ (.string q) from by with_reducible exact Box.stepL (LI.bxAd HLR.out (Ext.refl _)) hgrew) | have HP := Lib.hid (show Box w8 _ _ _ (.string q) from by with_reducible exact Box.stepL (LI.bxB HLR.out (Ext.refl _)) hgrew) | have HP := Lib.hid (show Box w8 _ _ _ (.string q) from by with_reducible exact Box.stepL (LI.bxBd HLR.out (Ext.refl _)) hgrew) | have HP := Lib.hid (show Box w8 _ _ _ (.string q) from by with_reducible exact Box.stepL (LI.bxC HLR.out (Ext.refl _)) hgrew) | have HP := Lib.hid (show Box w8 _ _ _ (.string q) from by with_reducible exact Box.stepL (LI.bxCd HLR.out (Ext.refl _)) hgrew) | have HP := Lib.hid (show Box w8 _ _ _ (.string q) from Box.stepL (Box.ext HP.out (by (repeat' (first | with_reducible exact Ext.refl _ | with_reducible apply Ext.alloc | with_reducible apply Ext.drew)); done)) hgrew) | skip); have Z := Lib.hid (hgrew.extNew (Z.out.trans (by (repeat' (first | with_reducible exact Ext.refl _ | with_reducible apply Ext.alloc | with_reducible apply Ext.drew)); done)) (LI.ext HLR.out (by (repeat' (first | with_reducible exact Ext.refl _ | with_reducible apply Ext.alloc | with_reducible apply Ext.drew)); done)).lo hWB); have HROW := Lib.hid (own_kept (own_ext HROW.out (by (repeat' (first | with_reducible exact Ext.refl _ | with_reducible apply Ext.alloc | with_reducible apply Ext.drew)); done)) hgrew.by' (.inl (fun e => absurd (show b5 + 1 ≤ b5 from ((LI.ext HLR.out (by (repeat' (first | with_reducible exact Ext.refl _ | with_reducible apply Ext.alloc | with_reducible apply Ext.drew)); done) : LI _ _ _ _ _ _ _ _ _ _).lo.lt b5 e.symm).1) (Nat.not_succ_le_self b5)))); have HLR := Lib.hid (LI.stepL (LI.ext HLR.out (by (repeat' (first | with_reducible exact Ext.refl _ | with_reducible apply Ext.alloc | with_reducible apply Ext.drew)); done)) hown hgrew); clear hown hgrew; have hszw8 : b5 < w8.heap.size := (HROW.out.lt b5 rfl).2; have TT := HROW.out; have aw8f3 := TT.frozenAt 3; have aw8c3 := own_cell TT (j := 3) rfl; have aw8f4 := TT.frozenAt 4; have aw8c4 := own_cell TT (j := 4) rfl; have aw8g4 := fun x => (TT.stored 3 x).1.frozenAt 4; have aw8d4 := fun x => own_cell (TT.stored 3 x).1 (j := 4) rfl; have aw8g3 := fun x => (TT.stored 4 x).1.frozenAt 3; have aw8d3 := fun x => own_cell (TT.stored 4 x).1 (j := 3) rfl; clear TT) | (refine step_app1 (s := .tmp 75) (x := .tmp 78) rfl rfl ei_rats rfl rfl (y := .string q) rfl (B := b5 + 1) (n := c) (by exact (LI.ext HLR.out (by (repeat' (first | with_reducible exact Ext.refl _ | with_reducible apply Ext.alloc | with_reducible apply Ext.drew)); done)).ro) (by first | exact (Box.ext HP.out (by (repeat' (first | with_reducible exact Ext.refl _ | with_reducible apply Ext.alloc | with_reducible apply Ext.drew)); done)).cell | ((try simp only [drew_cell]); first | exact cell_new _ _ _ | exact cell_new2 _ _ _ _ | exact cell_old2 _ _ _ _)) hL1 hL2 (by exact Nat.lt_of_lt_of_le (HROW.out.lt _ rfl).2 (Ext.size (by (repeat' (first | with_reducible exact Ext.refl _ | with_reducible apply Ext.alloc | with_reducible apply Ext.drew)); done))) ?_; intro v9 w9 hown hgrew; obtain ⟨pov9, pcv9, rfl⟩ := own_isSl hown; (first | have HQ := Lib.hid (show Box w9 _ _ _ (.int .i64 (m : Int)) from by with_reducible exact Box.stepR (LI.bxA HLR.out (Ext.refl _)) hgrew) | have HQ := Lib.hid (show Box w9 _ _ _ (.int .i64 (m : Int)) from by with_reducible exact Box.stepR (LI.bxAd HLR.out (Ext.refl _)) hgrew) | have HQ := Lib.hid (show Box w9 _ _ _ (.int .i64 (m : Int)) from by with_reducible exact Box.stepR (LI.bxB HLR.out (Ext.refl _)) hgrew) | have HQ := Lib.hid (show Box w9 _ _ _ (.int .i64 (m : Int)) from by with_reducible exact Box.stepR (LI.bxBd HLR.out (Ext.refl _)) hgrew) | have HQ := Lib.hid (show Box w9 _ _ _ (.int .i64 (m : Int)) from by with_reducible exact Box.stepR (LI.bxC HLR.out (Ext.refl _)) hgrew) | have HQ := Lib.hid (show Box w9 _ _ _ (.int .i64 (m : Int)) from by with_reducible exact Box.stepR (LI.bxCd HLR.out (Ext.refl _)) hgrew) | have HQ := Lib.hid (show Box w9 _ _ _ (.int .i64 (m : Int)) from Box.stepR (Box.ext HQ.out (by (repeat' (first | with_reducible exact Ext.refl _ | with_reducible apply Ext.alloc | with_reducible apply Ext.drew)); done)) hgrew) | skip); have Z := Lib.hid (hgrew.extNew (Z.out.trans (by (repeat' (first | with_reducible exact Ext.refl _ | with_reducible apply Ext.alloc | with_reducible apply Ext.drew)); done)) (LI.ext HLR.out (by (repeat' (first | with_reducible exact Ext.refl _ | with_reducible apply Ext.alloc | with_reducible apply Ext.drew)); done)).ro hWB); have HROW := Lib.hid (own_kept (own_ext HROW.out (by (repeat' (first | with_reducible exact Ext.refl _ | with_reducible apply Ext.alloc | with_reducible apply Ext.drew)); done)) hgrew.by' (.inl (fun e => absurd (show b5 + 1 ≤ b5 from ((LI.ext HLR.out (by (repeat' (first | with_reducible exact Ext.refl _ | with_reducible apply Ext.alloc | with_reducible apply Ext.drew)); done) : LI _ _ _ _ _ _ _ _ _ _).ro.lt b5 e.symm).1) (Nat.not_succ_le_self b5)))); have HLR := Lib.hid (LI.stepR (LI.ext HLR.out (by (repeat' (first | with_reducible exact Ext.refl _ | with_reducible apply Ext.alloc | with_reducible apply Ext.drew)); done)) hown hgrew); clear hown hgrew; have hszw9 : b5 < w9.heap.size := (HROW.out.lt b5 rfl).2; have TT := HROW.out; have aw9f3 := TT.frozenAt 3; have aw9c3 := own_cell TT (j := 3) rfl; have aw9f4 := TT.frozenAt 4; have aw9c4 := own_cell TT (j := 4) rfl; have aw9g4 := fun x => (TT.stored 3 x).1.frozenAt 4; have aw9d4 := fun x => own_cell (TT.stored 3 x).1 (j := 4) rfl; have aw9g3 := fun x => (TT.stored 4 x).1.frozenAt 3; have aw9d3 := fun x => own_cell (TT.stored 4 x).1 (j := 3) rfl; clear TT))
      all_goals
        go_wp2_with fail
        go_roundw
        case rel =>
          refine ⟨c + 1, .slice pov8 (c + 1) pcv8, .slice pov9 (c + 1) pcv9, by omega, by go_num, ?_, ?_⟩
          · show CB _ _ _ _ _ _ _
            rw [HNS.out, HOS.out]
            first
              | exact CB.put34 HROW.out (by rw [List.map_append, List.map_append]; exact HLR.out)
              | exact CB.put43 HROW.out (by rw [List.map_append, List.map_append]; exact HLR.out)
          · exact CB.extTo Z.out hWE
        case measure => simp [intOf]; omega
    · have hce : c = 2 := by omega
      subst hce
      have hge : ¬ ((2 : Nat) : Int) < 2 := by omega
      obtain ⟨no, nc, rfl⟩ := own_isSl HCB.out.li.lo
      obtain ⟨oo, oc, rfl⟩ := own_isSl HCB.out.li.ro
      have TT := HCB.out.row
      have k0 := own_cell TT (j := 0) (x := .int .i64 1) rfl
      have k1 := own_cell TT (j := 1) (x := .int .i64 0) rfl
      have k2 := own_cell TT (j := 2) (x := .int .i64 0) rfl
      have k3 := own_cell TT (j := 3) rfl
      have k4 := own_cell TT (j := 4) rfl
      have k5 := own_cell TT (j := 5) (x := .string ⟨#[]⟩) rfl
      have HLI := Lib.hid HCB.out.li
      have R := HRES.out wr (HX2.out.trans X)
      have f0 := R.f0; have c0 := R.c0; have f1 := R.f1; have c1 := R.c1; have f2 := R.f2; have c2 := R.c2; have f3 := R.f3; have c3 := R.c3; have f4 := R.f4; have c4 := R.c4; have f5 := R.f5; have c5 := R.c5;
      have R := Lib.hid R
      have HGB := HGK.out
      clear TT HCB hlt y0
      go_wp2_with fail
      refine bodyPost_ret (v := .tuple #[.agg #[.int .i64 1, .int .i64 0, .int .i64 0, .slice no 2 nc, .slice oo 2 oc, .string ⟨#[]⟩], .bool true]) (by simp [results, Tryz.results81, go_sem, R.out.d0, R.out.d1, R.out.d2, R.out.d3, R.out.d4, R.out.d5]) rfl ?_
      refine ⟨no, nc, oo, oc, rfl, ?_, ?_, R.out.ext _ _ _ _ _ _⟩
      · exact own_rowOf (own_kept HLI.out.lo (R.out.gr _ _ _ _ _ _) (.inl fun e => by have := (HLI.out.lo.lt g e).1; omega)) (by omega)
      · exact own_rowOf (own_kept HLI.out.ro (R.out.gr _ _ _ _ _ _) (.inl fun e => by have := (HLI.out.ro.lt g e).1; omega)) (by omega)
end Go.Proofs.YtkfheeffbombhaaGreatDoor
/- games laid by literals; guess -/
namespace Go.Proofs.YtkfheeffbombhaaGreatDoor
open Go.RowKit
set_option linter.unusedVariables false

/-- the cells of nodes that lie side by side -/
def flatN : List (Nd × Value × Value) → List Value
  | [] => []
  | p :: t => .int .i64 p.1.kind :: .int .i64 p.1.player :: .int .i64 p.1.info :: p.2.1 :: p.2.2 :: .string p.1.pay :: flatN t
theorem flatN_app : ∀ (L : List (Nd × Value × Value)) (p : Nd × Value × Value), flatN (L ++ [p]) = flatN L ++ [.int .i64 p.1.kind, .int .i64 p.1.player, .int .i64 p.1.info, p.2.1, p.2.2, .string p.1.pay]
  | [], p => rfl
  | q :: t, p => by simp [flatN, flatN_app t p]
theorem flatN_get : ∀ (L : List (Nd × Value × Value)) (i : Nat) (p : Nd × Value × Value), L[i]? = some p →
    (flatN L)[i * 6]? = some (.int .i64 p.1.kind) ∧ (flatN L)[i * 6 + 1]? = some (.int .i64 p.1.player) ∧ (flatN L)[i * 6 + 2]? = some (.int .i64 p.1.info) ∧
    (flatN L)[i * 6 + 3]? = some p.2.1 ∧ (flatN L)[i * 6 + 4]? = some p.2.2 ∧ (flatN L)[i * 6 + 5]? = some (.string p.1.pay)
  | [], i, p, h => by simp at h
  | q :: t, 0, p, h => by
    simp only [List.getElem?_cons_zero, Option.some.injEq] at h
    subst h
    exact ⟨rfl, rfl, rfl, rfl, rfl, rfl⟩
  | q :: t, i + 1, p, h => by
    have := flatN_get t i p (by simpa using h)
    have e : (i + 1) * 6 = i * 6 + 6 := by omega
    rw [e]
    exact this
theorem treeIn_of {w : World} {b off c : Nat} (L : List (Nd × Value × Value)) (hc : ∀ (j : Nat) u, (flatN L)[j]? = some u → w.cell? ⟨b, off + j, none⟩ = some u) (hn : ∀ p ∈ L, Ints w p.2.1 p.1.next ∧ Strs w p.2.2 p.1.odds) (hl : L.length ≤ c) (h2 : L.length ≤ 17592186044416) :
    TreeIn w (.slice (some ⟨b, off, none⟩) L.length c) (L.map (·.1)) := by
  refine ⟨some ⟨b, off, none⟩, c, (by rw [List.length_map]), (by rw [List.length_map]; exact hl), (fun e => by cases e), (by rw [List.length_map]; exact h2), fun i x hx => ?_⟩
  rw [List.getElem?_map] at hx
  cases hp : L[i]? with
  | none => rw [hp] at hx; cases hx
  | some p =>
    rw [hp] at hx
    obtain rfl := Option.some.inj hx
    obtain ⟨g0, g1, g2, g3, g4, g5⟩ := flatN_get L i p hp
    obtain ⟨hi, ho⟩ := hn p (List.mem_of_getElem? hp)
    exact ⟨b, off, p.2.1, p.2.2, rfl, ⟨hc _ _ g0, by rw [Nat.add_assoc]; exact hc _ _ g1, by rw [Nat.add_assoc]; exact hc _ _ g2, by rw [Nat.add_assoc]; exact hc _ _ g3, by rw [Nat.add_assoc]; exact hc _ _ g4, by rw [Nat.add_assoc]; exact hc _ _ g5, hi, ho⟩⟩
/-- a game that a literal lays -/
theorem lit_tree (w : World) (e : TypeId) (L : List (Nd × Value × Value)) (k : Nat) (hk : k = w.heap.size) (hn : ∀ p ∈ L, Ints w p.2.1 p.1.next ∧ Strs w p.2.2 p.1.odds) (h2 : L.length ≤ 1000) :
    TreeIn (w.alloc (.cells (flatN L).toArray e)) (.slice (some ⟨k, 0, none⟩) L.length L.length) (L.map (·.1)) := by
  subst hk
  refine treeIn_of L (fun j u hu => ?_) (fun p hp => ?_) (Nat.le_refl _) (by omega)
  · rw [Nat.zero_add]
    have hb : (w.alloc (.cells (flatN L).toArray e)).heap[w.heap.size]? = some (.cells (flatN L).toArray e) := by rw [← World.alloc_eq]; simp
    rw [cell_of_obj' hb]
    simpa using hu
  · exact ⟨(hn p hp).1.ext ((Ext.refl w).alloc _), (hn p hp).2.ext ((Ext.refl w).alloc _)⟩
def guessT : List Nd := [⟨2, 0, 0, [1, 2], [], ⟨#[]⟩⟩, ⟨2, 1, 3, [3, 4], [], ⟨#[]⟩⟩, ⟨2, 1, 3, [5, 6], [], ⟨#[]⟩⟩, ⟨0, 0, 0, [], [], ⟨#[45, 49]⟩⟩, ⟨0, 0, 0, [], [], ⟨#[49]⟩⟩, ⟨0, 0, 0, [], [], ⟨#[49]⟩⟩, ⟨0, 0, 0, [], [], ⟨#[45, 49]⟩⟩]
def guessL (k : Nat) : List (Nd × Value × Value) := [(⟨2, 0, 0, [1, 2], [], ⟨#[]⟩⟩, .slice (some ⟨k, 0, none⟩) 2 2, .slice none 0 0), (⟨2, 1, 3, [3, 4], [], ⟨#[]⟩⟩, .slice (some ⟨k + 1, 0, none⟩) 2 2, .slice none 0 0), (⟨2, 1, 3, [5, 6], [], ⟨#[]⟩⟩, .slice (some ⟨k + 1 + 1, 0, none⟩) 2 2, .slice none 0 0), (⟨0, 0, 0, [], [], ⟨#[45, 49]⟩⟩, .slice none 0 0, .slice none 0 0), (⟨0, 0, 0, [], [], ⟨#[49]⟩⟩, .slice none 0 0, .slice none 0 0), (⟨0, 0, 0, [], [], ⟨#[49]⟩⟩, .slice none 0 0, .slice none 0 0), (⟨0, 0, 0, [], [], ⟨#[45, 49]⟩⟩, .slice none 0 0, .slice none 0 0)]

set_option maxHeartbeats 1600000 in
set_option maxRecDepth 100000 in
theorem guess_any (w : World) : Calls Tryz.prog 42 #[] w fun e w' => ∃ u, e = .returned u ∧ TreeIn w' u guessT ∧ Ext w w' := by
  have hI : ∀ (W : World) (a b : Int) (k : Nat), k = W.heap.size → Ints (W.alloc (.cells #[.int .i64 a, .int .i64 b] 3)) (.slice (some ⟨k, 0, none⟩) 2 2) [a, b] := fun W a b k hk => by
    subst hk
    exact own_rowOf (xs := [a, b]) (World.ownsRow_lit (base := W.heap.size) (e := 3) (size := 1) W #[.int .i64 a, .int .i64 b] 2 (Nat.le_refl _) (by unfold maxLen; omega) (by simp)) (by omega)
  obtain ⟨k, hk⟩ : ∃ k, w.heap.size = k := ⟨_, rfl⟩
  obtain ⟨W1, hW1⟩ : ∃ W1, w.alloc (.cells #[.int .i64 1, .int .i64 2] 3) = W1 := ⟨_, rfl⟩
  obtain ⟨W2, hW2⟩ : ∃ W2, W1.alloc (.cells #[.int .i64 3, .int .i64 4] 3) = W2 := ⟨_, rfl⟩
  obtain ⟨W3, hW3⟩ : ∃ W3, W2.alloc (.cells #[.int .i64 5, .int .i64 6] 3) = W3 := ⟨_, rfl⟩
  have k1 : W1.heap.size = k + 1 := by rw [← hW1, World.size_alloc, hk]
  have k2 : W2.heap.size = k + 1 + 1 := by rw [← hW2, World.size_alloc, k1]
  have k3 : W3.heap.size = k + 1 + 1 + 1 := by rw [← hW3, World.size_alloc, k2]
  have X1 : Ext w W1 := by rw [← hW1]; exact (Ext.refl w).alloc _
  have X2 : Ext W1 W2 := by rw [← hW2]; exact (Ext.refl W1).alloc _
  have X3 : Ext W2 W3 := by rw [← hW3]; exact (Ext.refl W2).alloc _
  have i1 : Ints W3 (.slice (some ⟨k, 0, none⟩) 2 2) [1, 2] := ((by rw [← hW1]; exact hI w 1 2 k hk.symm : Ints W1 _ _).ext X2).ext X3
  have i2 : Ints W3 (.slice (some ⟨k + 1, 0, none⟩) 2 2) [3, 4] := (by rw [← hW2]; exact hI W1 3 4 (k + 1) k1.symm : Ints W2 _ _).ext X3
  have i3 : Ints W3 (.slice (some ⟨k + 1 + 1, 0, none⟩) 2 2) [5, 6] := by rw [← hW3]; exact hI W2 5 6 (k + 1 + 1) k2.symm
  have nI : Ints W3 (.slice none 0 0) [] := Row.nil _
  have nS : Strs W3 (.slice none 0 0) [] := Row.nil _
  have HT := Lib.hid (lit_tree W3 38 (guessL k) (k + 1 + 1 + 1) k3.symm (fun p hp => by
    unfold guessL at hp
    simp only [List.mem_cons, List.not_mem_nil, or_false] at hp
    rcases hp with rfl | rfl | rfl | rfl | rfl | rfl | rfl
    · exact ⟨i1, nS⟩
    · exact ⟨i2, nS⟩
    · exact ⟨i3, nS⟩
    · exact ⟨nI, nS⟩
    · exact ⟨nI, nS⟩
    · exact ⟨nI, nS⟩
    · exact ⟨nI, nS⟩) (by unfold guessL; simp))
  have HX := Lib.hid ((X1.trans X2).trans X3)
  clear i1 i2 i3 nI nS X1 X2 X3 hI
  go_enter Tryz.func42, Tryz.ntmps42
  go_wp2_with fail
  go_ret
  exact ⟨_, rfl, HT.out, HX.out.alloc _⟩
theorem guess_ok : treeE guessT = 0 := by decide +kernel
end Go.Proofs.YtkfheeffbombhaaGreatDoor
/- plain: the text of treeFact's game, its lines and words -/
namespace Go.Proofs.YtkfheeffbombhaaGreatDoor
open Go.RowKit
set_option linter.unusedVariables false

def lfT : ByteArray := ⟨#[10]⟩
/-- chance 1:1/2 2:1/2, a line feed, end 1, a line feed, end 3, a line feed -/
def facT : ByteArray := ⟨#[99, 104, 97, 110, 99, 101, 32, 49, 58, 49, 47, 50, 32, 50, 58, 49, 47, 50, 10, 101, 110, 100, 32, 49, 10, 101, 110, 100, 32, 51, 10]⟩
def facB : ByteArray := ⟨#[99, 104, 97, 110, 99, 101, 32, 49, 58, 49, 47, 50, 32, 50, 58, 49, 47, 50, 10, 101, 110, 100, 32, 49, 10, 101, 110, 100, 32, 51]⟩
def fac1 : ByteArray := ⟨#[99, 104, 97, 110, 99, 101, 32, 49, 58, 49, 47, 50, 32, 50, 58, 49, 47, 50]⟩
def fac2 : ByteArray := ⟨#[101, 110, 100, 32, 49]⟩
def fac3 : ByteArray := ⟨#[101, 110, 100, 32, 51]⟩
def facV (c : Nat) : ByteArray := if c = 0 then ⟨#[49, 58, 49, 47, 50]⟩ else ⟨#[50, 58, 49, 47, 50]⟩
def facN (c : Nat) : Nat := if c = 0 then 1 else 2
def facO (c : Nat) : ByteArray := ⟨#[49, 47, 50]⟩
theorem fac_cut : Lib.trimSuffix facT.data.toList lfT.data.toList = facB.data.toList ∧ Lib.hasSuffix facT.data.toList lfT.data.toList = true := by decide +kernel
theorem fac_lines : Lib.splitB lfT 0 (Lib.countB facB lfT) facB = [fac1, fac2, fac3] ∧ Lib.countB facB lfT = 2 := by decide +kernel
theorem fac_words1 : Lib.splitB spT 0 (Lib.countB fac1 spT) fac1 = [chanT, facV 0, facV 1] ∧ Lib.countB fac1 spT = 2 ∧ Lib.containsS [chanT, facV 0, facV 1] ⟨#[]⟩ = false := by decide +kernel
theorem fac_words2 : Lib.splitB spT 0 (Lib.countB fac2 spT) fac2 = [(⟨#[101, 110, 100]⟩ : ByteArray), (⟨#[49]⟩ : ByteArray)] ∧ Lib.countB fac2 spT = 1 ∧ Lib.containsS [(⟨#[101, 110, 100]⟩ : ByteArray), (⟨#[49]⟩ : ByteArray)] ⟨#[]⟩ = false := by decide +kernel
theorem fac_words3 : Lib.splitB spT 0 (Lib.countB fac3 spT) fac3 = [(⟨#[101, 110, 100]⟩ : ByteArray), (⟨#[51]⟩ : ByteArray)] ∧ Lib.countB fac3 spT = 1 ∧ Lib.containsS [(⟨#[101, 110, 100]⟩ : ByteArray), (⟨#[51]⟩ : ByteArray)] ⟨#[]⟩ = false := by decide +kernel
theorem fac_cuts : ∀ c, c < 2 → Lib.cut (facV c).data.toList colT.data.toList = ((decT (facN c)).data.toList, (facO c).data.toList, true) := by decide +kernel
theorem fac_n0 : Lib.atoiAll (decT (facN 0)).data.toList = .ok ((facN 0 : Nat) : Int) := by kernel_rfl
theorem fac_n1 : Lib.atoiAll (decT (facN 1)).data.toList = .ok ((facN 1 : Nat) : Int) := by kernel_rfl
theorem fac_nums : ∀ c, c < 2 → Lib.atoiAll (decT (facN c)).data.toList = .ok ((facN c : Nat) : Int) := fun c hc => by
  match c, hc with
  | 0, _ => exact fac_n0
  | 1, _ => exact fac_n1
theorem fac_odds : ∀ c, c < 2 → (facO c).toList ≠ [] := by decide +kernel
/-- the game of the text -/
def facG : List Nd := [nChance facN facO, nEnd ⟨#[49]⟩, nEnd ⟨#[51]⟩]
theorem fac_ok : treeE facG = 0 := by decide +kernel

/-- read, at the text's lines -/
theorem read1_any (w : World) (htab : TabPow w) (hm : MaxIs w) : Calls Tryz.prog 81 #[.string fac1] w fun e w' => ∃ no nc oo oc, e = .returned (.tuple #[ndV (nChance facN facO) no nc oo oc, .bool true]) ∧ Ints w' (.slice no 2 nc) (nsF facN 2) ∧ Strs w' (.slice oo 2 oc) (osF facO 2) ∧ Ext w w' :=
  readChance_any fac1 facV facN facO w htab hm (by decide) (fun c => by unfold facV; split <;> decide) (fun c => by unfold facO; decide) (fun c => by unfold facN; split <;> decide) fac_words1.1 fac_words1.2.1 fac_words1.2.2 fac_cuts fac_nums fac_odds
theorem read2_any (w : World) (hm : MaxIs w) : Calls Tryz.prog 81 #[.string fac2] w fun e w' => e = .returned (.tuple #[.agg #[.int .i64 0, .int .i64 0, .int .i64 0, .slice none 0 0, .slice none 0 0, .string ⟨#[49]⟩], .bool true]) ∧ Ext w w' :=
  readEnd_any fac2 ⟨#[49]⟩ w hm (by decide) (by decide) fac_words2.1 fac_words2.2.1 fac_words2.2.2
theorem read3_any (w : World) (hm : MaxIs w) : Calls Tryz.prog 81 #[.string fac3] w fun e w' => e = .returned (.tuple #[.agg #[.int .i64 0, .int .i64 0, .int .i64 0, .slice none 0 0, .slice none 0 0, .string ⟨#[51]⟩], .bool true]) ∧ Ext w w' :=
  readEnd_any fac3 ⟨#[51]⟩ w hm (by decide) (by decide) fac_words3.1 fac_words3.2.1 fac_words3.2.2
end Go.Proofs.YtkfheeffbombhaaGreatDoor
/- walks of package tree: Parse, at the text of treeFact -/
namespace Go.Proofs.YtkfheeffbombhaaGreatDoor
open Go.RowKit
set_option linter.unusedVariables false

theorem info_tn : (Tryz.prog.info? 38).map (fun i => (i.zero, i.size, i.bytes)) = some (some (.agg #[.int .i64 0, .int .i64 0, .int .i64 0, .slice none 0 0, .slice none 0 0, .string ⟨#[]⟩]), 6, 88) := by kernel_rfl
theorem ei_tn : EI Tryz.prog 22 38 (.agg #[.int .i64 0, .int .i64 0, .int .i64 0, .slice none 0 0, .slice none 0 0, .string ⟨#[]⟩]) 6 88 := ⟨Tryz.underlying22, info_parts info_tn, by decide, by decide⟩
/-- nodes that grow in an own slice -/
structure PO (w : World) (B : Nat) (v : Value) (L : List (Nd × Value × Value)) : Prop where
  row : w.ownsRow B 38 6 v L.length (flatN L)
  rd : ∀ p ∈ L, RowX v.ownBlock w p.2.1 (p.1.next.map (Value.int .i64)) ∧ RowX v.ownBlock w p.2.2 (p.1.odds.map Value.string)
theorem PO.ext {w w' : World} {B : Nat} {v : Value} {L : List (Nd × Value × Value)} (h : PO w B v L) (hx : Ext w w') : PO w' B v L :=
  ⟨own_ext h.row hx, fun p hp => ⟨(h.rd p hp).1.ext hx, (h.rd p hp).2.ext hx⟩⟩
theorem PO.grew {w w' : World} {B : Nat} {v v' : Value} {L : List (Nd × Value × Value)} {p : Nd × Value × Value} (h : PO w B v L) (ho : w'.ownsRow B 38 6 v' (L.length + 1) (flatN L ++ [.int .i64 p.1.kind, .int .i64 p.1.player, .int .i64 p.1.info, p.2.1, p.2.2, .string p.1.pay])) (hg : Grew w v w' v')
    (h1 : RowX v.ownBlock w p.2.1 (p.1.next.map (Value.int .i64))) (h2 : RowX v.ownBlock w p.2.2 (p.1.odds.map Value.string)) : PO w' B v' (L ++ [p]) := by
  refine ⟨by rw [List.length_append, List.length_singleton, flatN_app]; exact ho, fun q hq => ?_⟩
  rcases List.mem_append.1 hq with h' | h'
  · exact ⟨hg.row (h.rd q h').1, hg.row (h.rd q h').2⟩
  · rw [List.mem_singleton.1 h']; exact ⟨hg.row h1, hg.row h2⟩
/-- a source: a box of six cells -/
theorem src6 {w : World} {k : Nat} {a b c d e f : Value} (h1 : ∀ x ∈ [a, b, c, d, e, f], x.oneCell' = true) (h : ∀ j x, [a, b, c, d, e, f][j]? = some x → w.cell? ⟨k, j, none⟩ = some x) : Src w (.slice (some ⟨k, 0, none⟩) 1 1) 1 6 [a, b, c, d, e, f] :=
  ⟨_, _, rfl, rfl, h1, fun _ => ⟨_, _, rfl, fun j x hx => by rw [Nat.zero_add]; exact h j x hx⟩⟩
theorem src6_new (w : World) (a b c d e f : Value) (t : TypeId) (h1 : ∀ x ∈ [a, b, c, d, e, f], x.oneCell' = true) : Src (w.alloc (.cells #[a, b, c, d, e, f] t)) (.slice (some ⟨w.heap.size, 0, none⟩) 1 1) 1 6 [a, b, c, d, e, f] := by
  refine src6 h1 fun j x hx => ?_
  have hb : (w.alloc (.cells #[a, b, c, d, e, f] t)).heap[w.heap.size]? = some (.cells #[a, b, c, d, e, f] t) := by rw [← World.alloc_eq]; simp
  rw [cell_of_obj' hb]
  simpa using hx
theorem PO.nil (w : World) (B : Nat) : PO w B (.slice none 0 0) [] := ⟨World.ownsRow_nil _ _ _ _, fun p hp => by cases hp⟩
theorem PO.first {w w' : World} {B : Nat} {v' : Value} {p : Nd × Value × Value} (ho : w'.ownsRow B 38 6 v' (0 + 1) ([] ++ [.int .i64 p.1.kind, .int .i64 p.1.player, .int .i64 p.1.info, p.2.1, p.2.2, .string p.1.pay])) (hg : Grew w (.slice none 0 0) w' v')
    (h1 : Ints w p.2.1 p.1.next) (h2 : Strs w p.2.2 p.1.odds) : PO w' B v' ([] ++ [p]) := by
  have hE : Ext w w' := ⟨hg.by'.os, hg.by'.tape, hg.by'.output, hg.by'.size, fun k hk => hg.by'.block k hk (by simp [Value.ownBlock])⟩
  have hb : ∀ k, v'.ownBlock = some k → w.heap.size ≤ k := by
    rcases hg.blk with e | hk
    · rcases ho.2 with ⟨_, h0⟩ | ⟨g, cap, cur, rfl, _⟩
      · omega
      · simp [Value.ownBlock] at e
    · exact hk
  refine ⟨ho, fun q hq => ?_⟩
  have : q = p := by simpa using hq
  subst this
  exact ⟨⟨(Row.ext h1 hE), (Row.away h1 hb).2⟩, ⟨(Row.ext h2 hE), (Row.away h2 hb).2⟩⟩
theorem facG_sz : TreeSz facG := fun x hx => by
  unfold facG at hx
  simp only [List.mem_cons, List.not_mem_nil, or_false] at hx
  rcases hx with rfl | rfl | rfl
  · refine ⟨by decide, fun s hs => ?_⟩
    simp only [nChance, osF, List.range, List.range.loop, List.map_cons, List.map_nil, List.mem_cons, List.not_mem_nil, or_false] at hs
    rcases hs with rfl | rfl <;> decide
  · exact ⟨by decide, fun s hs => by cases hs⟩
  · exact ⟨by decide, fun s hs => by cases hs⟩
def facLn (i : Nat) : ByteArray := if i = 0 then fac1 else if i = 1 then fac2 else fac3
set_option maxHeartbeats 3200000 in
set_option maxRecDepth 100000 in
theorem treeParse_any (w : World) (htab : TabPow w) (hm : MaxIs w) :
    Calls Tryz.prog 43 #[.string facT] w fun e w' => ∃ u, e = .returned (.tuple #[u, .int .i64 0, .int .i64 0]) ∧ (∃ ao c, u = .slice ao 3 c) ∧ Ext w w' := by
  obtain ⟨wo, rfl⟩ : ∃ wo : World, wo = w := ⟨_, rfl⟩
  have HCS := Lib.hid (Tryz.strings_CutSuffix facT lfT wo (by decide))
  rw [fac_cut.1, fac_cut.2] at HCS
  have hbb : (⟨facB.data.toList.toArray⟩ : ByteArray) = facB := by rw [Array.toArray_toList]
  rw [hbb] at HCS
  have HSP := Lib.hid (split_any facB lfT [fac1, fac2, fac3] wo hm (by decide) (by decide) fac_lines.1 (by rw [fac_lines.2]; rfl))
  obtain ⟨k, hk⟩ : ∃ k, wo.heap.size = k := ⟨_, rfl⟩
  rw [hk] at HSP
  obtain ⟨W2, hW2⟩ : ∃ W2, wo.alloc (.cells #[.string fac1, .string fac2, .string fac3] 9) = W2 := ⟨_, rfl⟩
  have X2 : Ext wo W2 := by rw [← hW2]; exact (Ext.refl wo).alloc _
  have y0 : W2.cell? ⟨k, 0, none⟩ = some (.string fac1) := by rw [← hW2, ← hk]; simp [go_sem]
  have y1 : W2.cell? ⟨k, 1, none⟩ = some (.string fac2) := by rw [← hW2, ← hk]; simp [go_sem]
  have y2 : W2.cell? ⟨k, 2, none⟩ = some (.string fac3) := by rw [← hW2, ← hk]; simp [go_sem]
  have HY : Hid (∀ i, i < 3 → W2.cell? ⟨k, i, none⟩ = some (.string (facLn i))) := fun i hi => by
    match i, hi with
    | 0, _ => exact y0
    | 1, _ => exact y1
    | 2, _ => exact y2
  have HRD : Hid (∀ i, i < 3 → ∀ W, Ext wo W → Calls Tryz.prog 81 #[.string (facLn i)] W fun e w' => ∃ (p : Nd × Value × Value), e = .returned (.tuple #[.agg #[.int .i64 p.1.kind, .int .i64 p.1.player, .int .i64 p.1.info, p.2.1, p.2.2, .string p.1.pay], .bool true]) ∧ facG[i]? = some p.1 ∧ Ints w' p.2.1 p.1.next ∧ Strs w' p.2.2 p.1.odds ∧ Ext W w') := fun i hi W hX => by
    match i, hi with
    | 0, _ =>
      refine (read1_any W (tabPow_ext htab hX) (hm.ext hX)).mono ?_
      rintro e w' ⟨no, nc, oo, oc, rfl, h1, h2, h3⟩
      exact ⟨(nChance facN facO, .slice no 2 nc, .slice oo 2 oc), rfl, rfl, h1, h2, h3⟩
    | 1, _ =>
      refine (read2_any W (hm.ext hX)).mono ?_
      rintro e w' ⟨rfl, h3⟩
      exact ⟨(nEnd ⟨#[49]⟩, .slice none 0 0, .slice none 0 0), rfl, rfl, Row.nil _, Row.nil _, h3⟩
    | 2, _ =>
      refine (read3_any W (hm.ext hX)).mono ?_
      rintro e w' ⟨rfl, h3⟩
      exact ⟨(nEnd ⟨#[51]⟩, .slice none 0 0, .slice none 0 0), rfl, rfl, Row.nil _, Row.nil _, h3⟩
  have HTB := Lib.hid htab
  have HX2 := Lib.hid X2
  have hsz : facT.size = 31 := rfl
  clear hbb hm htab y0 y1 y2 X2
  generalize facLn = FL at *
  go_enter Tryz.func43, Tryz.ntmps43
  go_wp2_with fail
  refine HCS.out.mono ?_
  rintro e w1 ⟨rfl, hw1⟩
  subst hw1
  go_wp2_with fail
  refine HSP.out.mono ?_
  rintro e w2 ⟨rfl, hw2⟩
  have hw3 : w2 = W2 := by rw [hw2, ← hW2]; rfl
  clear hw2
  subst hw3
  go_wp2_with fail
  go_loopw [7, 29] (fun ov iv wr => ∃ (i : Nat) (L : List (Nd × Value × Value)), i ≤ 3 ∧ iv = .int .i64 i ∧ Hid (L.map (·.1) = facG.take i) ∧ Hid (L.length = i) ∧ Hid (PO wr w2.heap.size ov L) ∧ Hid (i = 0 → ov = .slice none 0 0) ∧ Ext w2 wr) (fun _ iv _ => 3 - (intOf iv).toNat)
  case atStart => exact ⟨0, [], Nat.zero_le _, rfl, rfl, rfl, PO.nil _ _, fun _ => rfl, Ext.refl _⟩
  case round =>
    obtain ⟨i, L, hi, rfl, HL, HLL, HP, HNI, X⟩ := hrel
    by_cases hlt : i < 3
    · have hyc := X.cell (HY.out i hlt)
      have HR := Lib.hid (HRD.out i hlt)
      have hii : (i : Int) < 3 := by omega
      have HX := Lib.hid (HX2.out.trans X)
      have HXL := Lib.hid X
      generalize FL i = P at *
      clear X
      go_wp2_with fail
      refine (HR.out _ HX.out).mono ?_
      rintro e w4 ⟨⟨x, av, bv⟩, rfl, h1, h2, h3, X4⟩
      dsimp only at h1 h2 h3 ⊢
      have HP4 := Lib.hid (HP.out.ext X4)
      have HXL4 := Lib.hid (HXL.out.trans X4)
      have HI2 := Lib.hid h2
      have HS2 := Lib.hid h3
      have HG1 := Lib.hid h1
      obtain ⟨no, nc, rfl, _, _⟩ := h2.open
      obtain ⟨oo, oc, rfl, _, _⟩ := h3.open
      obtain ⟨kx, hkx⟩ : ∃ kx, x.kind = kx := ⟨_, rfl⟩
      obtain ⟨px, hpx⟩ : ∃ px, x.player = px := ⟨_, rfl⟩
      obtain ⟨qx, hqx⟩ : ∃ qx, x.info = qx := ⟨_, rfl⟩
      obtain ⟨nx, hnx⟩ : ∃ nx, x.next.length = nx := ⟨_, rfl⟩
      obtain ⟨ox, hox⟩ : ∃ ox, x.odds.length = ox := ⟨_, rfl⟩
      obtain ⟨yx, hyx⟩ : ∃ yx, x.pay = yx := ⟨_, rfl⟩
      rw [hnx] at HI2
      rw [hox] at HS2
      rw [hkx, hpx, hqx, hnx, hox, hyx]
      have HEQ : Hid (kx = x.kind ∧ px = x.player ∧ qx = x.info ∧ yx = x.pay) := ⟨hkx.symm, hpx.symm, hqx.symm, hyx.symm⟩
      obtain ⟨T7, hT7⟩ : ∃ T7, w4.heap.size = T7 := ⟨_, rfl⟩
      obtain ⟨W5, hW5⟩ : ∃ W5, w4.alloc (.cells #[.int .i64 kx, .int .i64 px, .int .i64 qx, .slice no nx nc, .slice oo ox oc, .string yx] 38) = W5 := ⟨_, rfl⟩
      have X5 : Ext w4 W5 := by rw [← hW5]; exact (Ext.refl w4).alloc _
      have y0 : W5.cell? ⟨T7, 0, none⟩ = some (.int .i64 kx) := by rw [← hW5, ← hT7]; simp [go_sem]
      have y1 : W5.cell? ⟨T7, 1, none⟩ = some (.int .i64 px) := by rw [← hW5, ← hT7]; simp [go_sem]
      have y2 : W5.cell? ⟨T7, 2, none⟩ = some (.int .i64 qx) := by rw [← hW5, ← hT7]; simp [go_sem]
      have y3 : W5.cell? ⟨T7, 3, none⟩ = some (.slice no nx nc) := by rw [← hW5, ← hT7]; simp [go_sem]
      have y4 : W5.cell? ⟨T7, 4, none⟩ = some (.slice oo ox oc) := by rw [← hW5, ← hT7]; simp [go_sem]
      have y5 : W5.cell? ⟨T7, 5, none⟩ = some (.string yx) := by rw [← hW5, ← hT7]; simp [go_sem]
      have HXL5 := Lib.hid (HXL4.out.trans X5)
      have hP5 := (HP4.out.ext X5).ext ((Ext.refl W5).alloc (.cells #[.int .i64 kx, .int .i64 px, .int .i64 qx, .slice no nx nc, .slice oo ox oc, .string yx] 38))
      have hrow := hP5.row
      rw [HLL.out] at hrow
      have hsz5 : w2.heap.size ≤ (W5.alloc (.cells #[.int .i64 kx, .int .i64 px, .int .i64 qx, .slice no nx nc, .slice oo ox oc, .string yx] 38)).heap.size := (HXL5.out.trans ((Ext.refl W5).alloc _)).size
      have hl1 : i + 1 ≤ 17592186044416 := by omega
      have hl2 : (i + 1) * 88 ≤ 140737488355328 := by omega
      have HI5 := Lib.hid ((HI2.out.ext X5).ext ((Ext.refl W5).alloc (.cells #[.int .i64 kx, .int .i64 px, .int .i64 qx, .slice no nx nc, .slice oo ox oc, .string yx] 38)))
      have HS5 := Lib.hid ((HS2.out.ext X5).ext ((Ext.refl W5).alloc (.cells #[.int .i64 kx, .int .i64 px, .int .i64 qx, .slice no nx nc, .slice oo ox oc, .string yx] 38)))
      clear h1 h2 h3 hkx hpx hqx hnx hox hyx X4 X5
      go_wp2_with (first | (at_builtin; go_must (refine wp_app rfl rfl ei_tn rfl hrow rfl (src6_new W5 _ _ _ _ _ _ _ (by simp [Value.oneCell'])) hl1 hl2 hsz5 ?_); intro v' w' hown hgrew))
      have HX6 := Lib.hid (hgrew.extNew (HXL5.out.trans ((Ext.refl W5).alloc _)) hrow (Nat.le_refl _))
      have HPN : Hid (PO w' w2.heap.size v' (L ++ [(x, .slice no nx nc, .slice oo ox oc)])) := by
        obtain ⟨rfl, rfl, rfl, rfl⟩ := HEQ.out
        by_cases h0 : i = 0
        · subst h0
          obtain rfl := List.eq_nil_of_length_eq_zero HLL.out
          obtain rfl := HNI.out rfl
          exact PO.first (p := (x, .slice no nx nc, .slice oo ox oc)) hown hgrew HI5.out HS5.out
        · have hne : x.next = [] ∧ x.odds = [] := by
            have h1 := HG1.out
            match i, hlt, h0, h1 with
            | 1, _, _, h1 => cases h1; exact ⟨rfl, rfl⟩
            | 2, _, _, h1 => cases h1; exact ⟨rfl, rfl⟩
          refine PO.grew (p := (x, .slice no nx nc, .slice oo ox oc)) hP5 (by rw [HLL.out]; exact hown) hgrew ⟨HI5.out, .inl ?_⟩ ⟨HS5.out, .inl ?_⟩
          · show x.next.map _ = []
            rw [hne.1]; rfl
          · show x.odds.map _ = []
            rw [hne.2]; rfl
      have HLN : Hid ((L ++ [(x, (.slice no nx nc : Value), (.slice oo ox oc : Value))]).map (·.1) = facG.take (i + 1)) := by
        show _ = _
        obtain ⟨g1, g2⟩ := List.getElem?_eq_some_iff.1 HG1.out
        rw [List.map_append, HL.out, List.take_succ_eq_append_getElem g1, g2]; rfl
      have HLN2 : Hid ((L ++ [(x, (.slice no nx nc : Value), (.slice oo ox oc : Value))]).length = i + 1) := by show _ = _; rw [List.length_append, HLL.out]; rfl
      clear hrow hP5 hown hgrew y0 y1 y2 y3 y4 y5
      go_roundw
      case rel => exact ⟨i + 1, _, by omega, by go_num, HLN.out, HLN2.out, HPN.out, fun e => absurd e (Nat.succ_ne_zero i), HX6.out⟩
      case measure => simp [intOf]; omega
    · have hie : i = 3 := by omega
      subst hie
      have hge : ¬ ((3 : Nat) : Int) < 3 := by omega
      have hL := HL.out
      rw [show facG.take 3 = facG from rfl] at hL
      have hrow := HP.out.row
      rw [HLL.out] at hrow
      obtain ⟨g, cap, rfl, hcap⟩ : ∃ g cap, u7 = .slice (some ⟨g, 0, none⟩) 3 cap ∧ 3 ≤ cap := by
        rcases hrow.2 with ⟨_, h0⟩ | ⟨g, cap, cur, h1, _, _, h4, _⟩
        · omega
        · exact ⟨g, cap, h1, h4⟩
      have hT : TreeIn wr (.slice (some ⟨g, 0, none⟩) 3 cap) facG := by
        rw [← hL, ← HLL.out]
        refine treeIn_of L (fun j u hu => ?_) (fun p hp => ⟨(HP.out.rd p hp).1.1, (HP.out.rd p hp).2.1⟩) (by rw [HLL.out]; exact hcap) (by rw [HLL.out]; omega)
        have := hrow.cells (g := g) rfl j u hu
        rwa [Addr.add_lit] at this
      have HCK := Lib.hid (treeCheck_any _ facG wr (tabPow_ext HTB.out (HX2.out.trans X)) hT facG_sz)
      rw [fac_ok] at HCK
      have HXX := Lib.hid (HX2.out.trans X)
      clear hT hrow hL hlt HP
      go_wp2_with fail
      refine HCK.out.mono ?_
      rintro e w5 ⟨rfl, X5⟩
      go_wp2_with fail
      go_ret3
      exact ⟨_, rfl, ⟨_, _, rfl⟩, HXX.out.trans X5⟩
end Go.Proofs.YtkfheeffbombhaaGreatDoor
/- plain: what treeFact says -/
namespace Go.Proofs.YtkfheeffbombhaaGreatDoor
open Go.RowKit
set_option linter.unusedVariables false

def oneT : List Nd := [⟨0, 0, 0, [], [], ⟨#[49, 47, 50]⟩⟩]
theorem fact_player1 : playerE guessT 1 = 0 := by decide +kernel
theorem fact_player2 : playerE guessT 2 = 4 := by decide +kernel
theorem fact_sets : (setsP guessT 1).map (·.1) = [3] ∧ (setsP guessT 1).map (·.2) = [2] := by decide +kernel
theorem fact_ends : intsN (endsL guessT) = [3, 4, 5, 6] := by decide +kernel
theorem fact_chn : endsQ guessT = [1, 1, 1, 1] := by decide +kernel
theorem fact_outs : outsG [1, 1, 1, 1] = some [⟨#[49]⟩, ⟨#[49]⟩, ⟨#[49]⟩, ⟨#[49]⟩] := by decide +kernel
theorem fact_print : (printF oneT).2 = 0 ∧ (printF oneT).1 = ⟨#[101, 110, 100, 32, 49, 47, 50, 10]⟩ := by decide +kernel
theorem fact_nil : treeE [] = 8 := by decide +kernel
end Go.Proofs.YtkfheeffbombhaaGreatDoor
/- the walk of treeFact -/
namespace Go.Proofs.YtkfheeffbombhaaGreatDoor
open Go.RowKit
set_option linter.unusedVariables false

theorem guess_sm : TreeSm guessT := fun x hx => by
  unfold guessT at hx
  simp only [List.mem_cons, List.not_mem_nil, or_false] at hx
  rcases hx with rfl | rfl | rfl | rfl | rfl | rfl | rfl <;> exact ⟨by decide, fun s hs => by cases hs⟩
theorem one_sm : TreeSm oneT := fun x hx => by
  unfold oneT at hx
  simp only [List.mem_cons, List.not_mem_nil, or_false] at hx
  subst hx
  exact ⟨by decide, fun s hs => by cases hs⟩
theorem sz_of_sm {T : List Nd} (hsm : TreeSm T) : TreeSz T := fun x hx => ⟨by have := (hsm x hx).1; omega, fun s hs => by have := (hsm x hx).2 s hs; omega⟩
theorem treeIn_nil (w : World) : TreeIn w (.slice none 0 0) [] := ⟨none, 0, rfl, Nat.le_refl _, fun _ => rfl, by simp, fun i x hx => by simp at hx⟩

set_option maxHeartbeats 3200000 in
set_option maxRecDepth 100000 in
theorem treeFact_any (w : World) (htab : TabPow w) (hm : MaxIs w) : Calls Tryz.prog 9 #[] w fun e w' => e = .returned (.bool true) ∧ Ext w w' := by
  have HTB := Lib.hid htab
  have HMX := Lib.hid hm
  clear htab hm
  go_enter Tryz.func9, Tryz.ntmps9
  go_wp2_with fail
  refine (guess_any w).mono ?_
  rintro e w1 ⟨u1, rfl, hT1, X1⟩
  have HT1 := Lib.hid hT1
  clear hT1
  go_wp2_with fail
  refine (treeInfos_any u1 guessT 1 w1 (tabPow_ext HTB.out X1) HT1.out (sz_of_sm guess_sm)).mono ?_
  rintro e w2 ⟨r, rfl, X2, h⟩
  rcases h with ⟨hne, _⟩ | ⟨_, a, b, rfl, ha, hb⟩
  · exact absurd fact_player1 hne
  rw [fact_sets.1] at ha
  rw [fact_sets.2] at hb
  have HA := Lib.hid ha
  have HB := Lib.hid hb
  have Y2 := X1.trans X2
  clear ha hb HT1 X1 X2
  go_wp2_with fail
  refine (guess_any w2).mono ?_
  rintro e w3 ⟨u3, rfl, hT3, X3⟩
  have HT3 := Lib.hid hT3
  have Y3 := Y2.trans X3
  have HA := Lib.hid (HA.out.ext X3)
  have HB := Lib.hid (HB.out.ext X3)
  clear hT3 X3 Y2
  go_wp2_with fail
  refine (ends_any u3 guessT w3 (tabPow_ext HTB.out Y3) HT3.out (sz_of_sm guess_sm)).mono ?_
  rintro e w4 ⟨r, rfl, X4, h⟩
  rcases h with ⟨hne, _⟩ | ⟨_, ⟨h, _⟩ | ⟨os, c, d, ho, rfl, hc, hd⟩⟩
  · exact absurd guess_ok hne
  · rw [fact_chn, fact_outs] at h; cases h
  rw [fact_chn, fact_outs] at ho
  obtain rfl := Option.some.inj ho
  rw [fact_ends] at hc
  have HC := Lib.hid hc
  have HD := Lib.hid hd
  have Y4 := Y3.trans X4
  have HA := Lib.hid (HA.out.ext X4)
  have HB := Lib.hid (HB.out.ext X4)
  clear hc hd ho X4 Y3 HT3
  have HL1 := Lib.hid (lit_tree w4 38 [(⟨0, 0, 0, [], [], ⟨#[49, 47, 50]⟩⟩, .slice none 0 0, .slice none 0 0)] w4.heap.size rfl (fun p hp => by rw [List.mem_singleton.1 hp]; exact ⟨Row.nil _, Row.nil _⟩) (by simp))
  have HPR := Lib.hid (print_any (.slice (some ⟨w4.heap.size, 0, none⟩) 1 1) oneT _ (tabPow_ext HTB.out (Y4.alloc _)) HL1.out one_sm)
  rw [fact_print.1, fact_print.2] at HPR
  go_wp2_with fail
  refine HPR.out.mono ?_
  rintro e w5 ⟨rfl, X5⟩
  have Z5 := ((Ext.refl w4).alloc _).trans X5
  have Y5 := Y4.trans Z5
  have HA := Lib.hid (HA.out.ext Z5)
  have HB := Lib.hid (HB.out.ext Z5)
  have HC := Lib.hid (HC.out.ext Z5)
  have HD := Lib.hid (HD.out.ext Z5)
  clear X5 Z5 Y4 HPR HL1
  have HPA := Lib.hid (treeParse_any w5 (tabPow_ext HTB.out Y5) (HMX.out.ext Y5))
  unfold facT at HPA
  go_wp2_with fail
  refine HPA.out.mono ?_
  rintro e w6 ⟨u6, rfl, ⟨ao6, c6, rfl⟩, X6⟩
  have Y6 := Y5.trans X6
  have HA := Lib.hid (HA.out.ext X6)
  have HB := Lib.hid (HB.out.ext X6)
  have HC := Lib.hid (HC.out.ext X6)
  have HD := Lib.hid (HD.out.ext X6)
  clear X6 Y5 HPA
  go_wp2_with fail
  refine (fine_any _ [0, 0, 0, 0] _ (by exact lit_ints_at w6 _ ([0, 0, 0, 0] : List Int) (by decide) _ (by first | rfl | simp)) true rfl).mono ?_
  rintro e w7 ⟨rfl, X7⟩
  have Z7 := ((Ext.refl w6).alloc _).trans X7
  have Y7 := Y6.trans Z7
  have HA := Lib.hid (HA.out.ext Z7)
  have HB := Lib.hid (HB.out.ext Z7)
  have HC := Lib.hid (HC.out.ext Z7)
  have HD := Lib.hid (HD.out.ext Z7)
  clear X7 Z7 Y6
  go_wp2_with fail
  refine (equal_ints _ _ [3] [3] _ (by exact HA.out.ext ((Ext.refl w7).alloc _)) (by exact lit_ints_at w7 _ ([3] : List Int) (by decide) _ (by first | rfl | simp)) true (by show _ = _; decide)).mono ?_
  rintro e w8 ⟨rfl, X8⟩
  have Z8 := ((Ext.refl w7).alloc _).trans X8
  have Y8 := Y7.trans Z8
  have HB := Lib.hid (HB.out.ext Z8)
  have HC := Lib.hid (HC.out.ext Z8)
  have HD := Lib.hid (HD.out.ext Z8)
  clear X8 Z8 Y7
  go_wp2_with fail
  refine (equal_ints _ _ [2] [2] _ (by exact HB.out.ext ((Ext.refl w8).alloc _)) (by exact lit_ints_at w8 _ ([2] : List Int) (by decide) _ (by first | rfl | simp)) true (by show _ = _; decide)).mono ?_
  rintro e w9 ⟨rfl, X9⟩
  have Z9 := ((Ext.refl w8).alloc _).trans X9
  have Y9 := Y8.trans Z9
  have HC := Lib.hid (HC.out.ext Z9)
  have HD := Lib.hid (HD.out.ext Z9)
  clear X9 Z9 Y8
  go_wp2_with fail
  refine (equal_ints _ _ [3, 4, 5, 6] [3, 4, 5, 6] _ (by exact HC.out.ext ((Ext.refl w9).alloc _)) (by exact lit_ints_at w9 _ ([3, 4, 5, 6] : List Int) (by decide) _ (by first | rfl | simp)) true (by show _ = _; decide)).mono ?_
  rintro e w10 ⟨rfl, X10⟩
  have Z10 := ((Ext.refl w9).alloc _).trans X10
  have Y10 := Y9.trans Z10
  have HD := Lib.hid (HD.out.ext Z10)
  clear X10 Z10 Y9
  go_wp2_with fail
  refine (equal_rats _ _ [⟨#[49]⟩, ⟨#[49]⟩, ⟨#[49]⟩, ⟨#[49]⟩] _ (by exact HD.out.ext ((Ext.refl w10).alloc _)) (by exact own_rowOf (xs := [(⟨#[49]⟩ : ByteArray), ⟨#[49]⟩, ⟨#[49]⟩, ⟨#[49]⟩]) (World.ownsRow_lit (base := w10.heap.size) (e := 36) (size := 1) w10 #[.string ⟨#[49]⟩, .string ⟨#[49]⟩, .string ⟨#[49]⟩, .string ⟨#[49]⟩] 4 (Nat.le_refl _) (by unfold maxLen; omega) (by simp)) (by omega))).mono ?_
  rintro e w11 ⟨rfl, X11⟩
  have Z11 := ((Ext.refl w10).alloc _).trans X11
  have Y11 := Y10.trans Z11
  clear X11 Z11 Y10
  go_wp2_with fail
  refine (treeCheck_any (.slice none 0 0) [] w11 (tabPow_ext HTB.out Y11) (treeIn_nil w11) (fun x hx => by cases hx)).mono ?_
  rintro e w12 ⟨rfl, X12⟩
  rw [fact_nil]
  have Y12 := Y11.trans X12
  clear X12 Y11
  go_wp2_with fail
  refine (guess_any w12).mono ?_
  rintro e w13 ⟨u13, rfl, hT13, X13⟩
  have HT13 := Lib.hid hT13
  have Y13 := Y12.trans X13
  clear hT13 X13 Y12
  have HPL := Lib.hid (treePlayer_any u13 guessT 2 w13 (tabPow_ext HTB.out Y13) HT13.out (sz_of_sm guess_sm))
  rw [fact_player2] at HPL
  go_wp2_with fail
  refine HPL.out.mono ?_
  rintro e w14 ⟨rfl, X14⟩
  have Y14 := Y13.trans X14
  clear X14 Y13
  go_wp2_with fail
  go_ret
  exact ⟨rfl, Y14⟩
end Go.Proofs.YtkfheeffbombhaaGreatDoor
/- the walk of TreeChecks -/
namespace Go.Proofs.YtkfheeffbombhaaGreatDoor
open Go.RowKit
set_option linter.unusedVariables false

end Go.Proofs.YtkfheeffbombhaaGreatDoor
/- the library's variable that Split and Cut ask, from a world's shape -/
namespace Go.Proofs.YtkfheeffbombhaaGreatDoor
open Go.RowKit
theorem maxIs_of {W : World} (h : W.ShapedOpen Tryz.prog) : MaxIs W := Tryz.laysM146.s1_3 W h
end Go.Proofs.YtkfheeffbombhaaGreatDoor
