/- walk: matrix.reduce -/
import Derived.Test.YtnfmknjhkpgppaaGreatDoorMxZ
import Derived.Test.YtnfmknjhkpgppaaGreatDoorRgX
import Derived.Test.YtnfmknjhkpgppaaGreatDoorPlB
namespace Go.Proofs.YtnfmknjhkpgppaaGreatDoor
open Go.RowKit
set_option linter.unusedVariables false

/-- a row of the matrix is written -/
theorem ZzK.put {w w' : World} {B K go n cap g m c : Nat} {M : List (List Int)} (h : ZzK w B K (.slice (some ⟨go, 0, none⟩) n cap) M) {i : Nat} {zs zs' : List Int} (hi : M[i]? = some zs) (hcell : w.cell? ⟨go, i, none⟩ = some (.slice (some ⟨g, 0, none⟩) m c)) (hl : zs'.length = zs.length) (hg : w.grownBy w' (some g)) (hz : ZsO w' B (.slice (some ⟨g, 0, none⟩) m c) zs') : ZzK w' B K (.slice (some ⟨go, 0, none⟩) n cap) (M.set i zs') ∧ Clean w (.slice (some ⟨g, 0, none⟩) m c) ∧ g < K ∧ B ≤ g := by
  obtain ⟨g2, c2, h1, h2, h3, h4, h5, h6, h7, h8⟩ := h.at hi
  rw [hcell] at h3
  simp only [Option.some.injEq, Value.slice.injEq, Addr.mk.injEq, and_true] at h3
  obtain ⟨rfl, rfl, rfl⟩ := h3
  exact ⟨h8 w' zs' hl hg hz h4.clean, h4.clean, h7, h6⟩
theorem zc_i : ∀ x ∈ (Value.int .i64 0).cells.toList, ∀ d : Nat, x ≠ encD d := by
  intro x hx d
  simp [Value.cells] at hx
  subst hx
  simp [encD]
/-- new blocks, and numbers that lay in memory still lie there -/
structure ExN (w0 wi w : World) : Prop where
  ext : Ext w0 w
  nat : ∀ u k, NatV wi u k → NatV w u k
theorem ExN.trans {w0 wi w w' : World} (h : ExN w0 wi w) (hx : Ext w w') : ExN w0 wi w' := ⟨h.ext.trans hx, fun u k hk => (h.nat u k hk).ext hx⟩
theorem ExN.grown {w0 wi w w' : World} {g n c : Nat} (h : ExN w0 wi w) (hg : w.grownBy w' (some g)) (hb : w0.heap.size ≤ g) (hc : Clean w (.slice (some ⟨g, 0, none⟩) n c)) : ExN w0 wi w' :=
  ⟨h.ext.grown hg hb, fun u k hk => Clean.kept (v := .slice (some ⟨g, 0, none⟩) n c) hc hg (h.nat u k hk)⟩
theorem ExN.grew {w0 wi w w' : World} {v v' : Value} (h : ExN w0 wi w) (hg : Grew w v w' v') (hc : Clean w v) (hb : ∀ k, v.ownBlock = some k → w0.heap.size ≤ k) : ExN w0 wi w' :=
  ⟨hg.ext h.ext hb, fun u k hk => hc.kept hg.by' (h.nat u k hk)⟩
theorem cell_two {W : World} {g j1 j2 b o : Nat} {v a1 a2 : Value} (h : W.cell? ⟨b, o, none⟩ = some v) (hne : b ≠ g) : ((W.setCell ⟨g, j1, none⟩ a1).setCell ⟨g, j2, none⟩ a2).cell? ⟨b, o, none⟩ = some v := by
  rw [World.cell?_setCell_other, World.cell?_setCell_other]
  · exact h
  all_goals (intro e; simp at e <;> omega)
theorem ZzK.ne {w : World} {B K go n cap : Nat} {M : List (List Int)} (h : ZzK w B K (.slice (some ⟨go, 0, none⟩) n cap) M) {i k gi ni ci gk nk ck : Nat} (hi : i < M.length) (hk : k < M.length) (hik : i ≠ k)
    (hci : w.cell? ⟨go, i, none⟩ = some (.slice (some ⟨gi, 0, none⟩) ni ci)) (hck : w.cell? ⟨go, k, none⟩ = some (.slice (some ⟨gk, 0, none⟩) nk ck)) : gi ≠ gk := by
  obtain ⟨us, h, _, _⟩ := h
  have hl := h.len
  have rd : ∀ {j a b c : Nat}, j < M.length → w.cell? ⟨go, j, none⟩ = some (.slice (some ⟨a, 0, none⟩) b c) → us[j]? = some (.slice (some ⟨a, 0, none⟩) b c) := fun {j a b c} hj hc => by
    have h1 : us[j]? = some (us[j]'(by omega)) := List.getElem?_eq_getElem _
    have h2 := h.own.cells (g := go) rfl j _ h1
    rw [Addr.add_lit, Nat.zero_add, hc] at h2
    rw [h1, h2]
  have := h.dis i k _ _ (rd hi hci) (rd hk hck) hik
  intro e
  exact this (by rw [e]; rfl)
theorem ZzK.frozen {w : World} {B K go n cap : Nat} {M : List (List Int)} (h : ZzK w B K (.slice (some ⟨go, 0, none⟩) n cap) M) (j : Nat) : w.frozen? ⟨go, j, none⟩ = false := by
  obtain ⟨us, h, _, _⟩ := h
  have hn := own_form h.own
  subst hn
  exact h.own.frozenAt j
def RedPost (w0 wi w' : World) (go n cap wd width x : Nat) (A : List (List Int)) (g : Nat) : Prop :=
  ∃ (M : List (List Int)) (k : Nat) (cf : Nat → Nat) (cur : Nat) (d : Int) (neg : Bool) (po : Option Addr) (pc : Nat) (s : Bool) (a : Option Addr) (l lc : Nat), RedZ n wd x A M k cf d neg cur ∧ cur ≤ width ∧ (cur = width ∨ k = n) ∧ ZzO w' w0.heap.size (.slice (some ⟨go, 0, none⟩) n cap) M ∧
    w'.cell? ⟨g, 1, none⟩ = some (.slice po k pc) ∧ w'.cell? ⟨g, 2, none⟩ = some (.bool s) ∧ w'.cell? ⟨g, 3, none⟩ = some (.slice a l lc) ∧ IntV w' (.agg #[.bool s, .slice a l lc]) d ∧ w'.cell? ⟨g, 4, none⟩ = some (.bool neg) ∧ ExN w0 wi w'

set_option maxHeartbeats 64000000 in
set_option maxRecDepth 100000 in
theorem reduce_any (w0 w : World) (go n cap wd width x : Nat) (A : List (List Int)) (X0 : Ext w0 w) (HZ : ZzO w w0.heap.size (.slice (some ⟨go, 0, none⟩) n cap) A) (HR : RectZ A n wd) (hb : ∀ i j, i < n → (atZ A i j).natAbs ≤ x) (hx : 1 ≤ n * x) (hw : width ≤ wd) (hn : n ≤ 1000) (hwd : wd ≤ 1000) (hX : ∀ z : Int, z.natAbs ≤ (n * x) ^ n → (dig z.natAbs).length ≤ 100000000) :
    Calls Tryz.prog 33 #[(.slice (some ⟨go, 0, none⟩) n cap), .int .i64 (width : Int)] w fun e w' => ∃ g, e = .returned (.pointer (some ⟨g, 0, none⟩)) ∧ RedPost w0 w w' go n cap wd width x A g := by
  have HW1 := Lib.hid (fun W => whole_any 1 W (by omega) (by omega))
  have HXB := Lib.hid hX
  have HZ0 := Lib.hid HZ
  have HRD : Hid (RedZ n wd x A A 0 (fun t => t) 1 false 0) := RedZ.start HR hb hx _
  have hni : (n : Int) ≤ 1000 := by omega
  have hwi : (width : Int) ≤ 1000 := by omega
  obtain ⟨B, hB⟩ : ∃ B, w0.heap.size = B := ⟨_, rfl⟩
  rw [hB] at HZ0
  have HBB := Lib.hid hB
  clear hb hx HR HZ hX hB
  go_enter Tryz.func33, Tryz.ntmps33
  go_wp2_with fail
  refine (HW1.out _).mono ?_
  rintro e w1 ⟨v1, rfl, hv1, X1⟩
  obtain ⟨s1, a1, l1, c1, rfl, _, _, _⟩ := hv1.opn
  have XW0 : ExN w0 w w := ⟨X0, fun _ _ h => h⟩
  have XW := XW0.trans X1
  have hBw : B ≤ w1.heap.size := by rw [← HBB.out]; exact XW.ext.size
  have HZ1 := Lib.hid (HZ0.out.ext X1).toK
  obtain ⟨g, hg⟩ : ∃ g, w1.heap.size = g := ⟨_, rfl⟩
  obtain ⟨w2, hw2⟩ : ∃ w2, w1.alloc (.cells #[(.slice (some ⟨go, 0, none⟩) n cap), .slice none 0 0, .bool s1, .slice a1 l1 c1, .bool false] 76) = w2 := ⟨_, rfl⟩
  have X12 : Ext w1 w2 := by rw [← hw2]; exact (Ext.refl w1).alloc _
  have hgB : B ≤ g := by omega
  have HS : Hid (RSide B g g (.slice (some ⟨go, 0, none⟩) n cap) (.slice none 0 0) 0 [] s1 a1 l1 c1 false 1 w2) := by
    have h1 := World.ownsRow_lit (base := B) (e := 76) (size := 5) w1 #[(.slice (some ⟨go, 0, none⟩) n cap), .slice none 0 0, .bool s1, .slice a1 l1 c1, .bool false] 1 hBw (by unfold maxLen; omega) (by simp)
    rw [hw2, hg] at h1
    refine ⟨h1, fun k hk => ?_, World.ownsRow_nil _ _ _ _, Clean.nil _, hv1.ext X12, Nat.le_refl _, fun y hy => by simp [Value.ownBlock] at hy⟩
    simp only [Value.ownBlock, Option.some.injEq] at hk
    subst hk
    refine ⟨_, _, _, by rw [← hw2, ← hg]; exact heap_alloc_new w1 _, noDig_list ?_⟩
    intro y hy d
    simp at hy
    rcases hy with rfl | rfl | rfl | rfl | rfl <;> simp [encD]
  rw [hg] at HZ1
  have HZ2 := Lib.hid (HZ1.out.ext X12)
  have XW2 := XW.trans X12
  clear HZ1 HZ0 hv1 XW XW0 X12 X1 X0 HW1
  go_wp2_with fail
  clear hg hw2 hBw
  go_loopw [6] (fun cv wr => ∃ (c k : Nat) (cf : Nat → Nat) (M : List (List Int)) (d : Int) (neg : Bool) (pv : Value) (cs : List Value) (s : Bool) (a : Option Addr) (l lc : Nat), c ≤ width ∧ cv = .int .i64 (c : Int) ∧ Hid (RedZ n wd x A M k cf d neg c) ∧ Hid (ZzK wr B g (.slice (some ⟨go, 0, none⟩) n cap) M) ∧ Hid (RSide B g g (.slice (some ⟨go, 0, none⟩) n cap) pv k cs s a l lc neg d wr) ∧ ExN w0 w wr) (fun cv _ => width - (intOf cv).toNat)
  case atStart => exact ⟨0, 0, fun t => t, A, 1, false, .slice none 0 0, [], s1, a1, l1, c1, Nat.zero_le _, rfl, HRD, HZ2, HS, XW2⟩
  case round =>
    clear HRD HZ2 HS XW2
    obtain ⟨c, k, cf, M, d, neg, pv, cs, s, a, l, lc, hc, rfl, HRD, HZK, HS, X⟩ := hrel
    obtain ⟨po, pc, rfl⟩ := own_isSlice HS.out.pvo
    obtain ⟨q1, q2, q3, q4⟩ := HS.out.cells
    have hkn := HRD.out.kn
    by_cases hlt : c < width
    · have hci : (c : Int) < (width : Int) := by omega
      have hcw : c < wd := by omega
      by_cases hk : k < n
      · have hki : (k : Int) < (n : Int) := by omega
        obtain ⟨wa, rfl⟩ : ∃ wa : World, wa = wr := ⟨_, rfl⟩
        go_wp2_with fail
        go_loopw [8] (fun iv wr => ∃ (i : Nat), k ≤ i ∧ i ≤ n ∧ iv = .int .i64 (i : Int) ∧ (∀ j, k ≤ j → j < i → atZ M j c = 0) ∧ Ext wa wr) (fun iv _ => n - (intOf iv).toNat)
        case atStart => exact ⟨k, Nat.le_refl _, hkn, rfl, fun j a b => by omega, Ext.refl _⟩
        case round =>
          obtain ⟨i, hki2, hin, rfl, hzz, Y⟩ := hrel
          have HZ9 := Lib.hid (HZK.out.ext Y)
          have HS9 := Lib.hid (HS.out.ext Y)
          have X9 := X.trans Y
          by_cases hi : i < n
          · obtain ⟨r, r1, r2, r3⟩ := HRD.out.rect.row hi
            obtain ⟨gi, ci, _, _, hcell, hzs, _, _, _, _⟩ := HZ9.out.at r1
            obtain ⟨sz, az, lz, cz, k0, k1, hiv⟩ := hzs.read (r3 c hcw)
            rw [r2] at hcell
            have HSG := Lib.hid (intSign_any _ _ wr hiv)
            have hii : (i : Int) < (n : Int) := by omega
            have hcwi : (c : Int) < (wd : Int) := by omega
            clear hzs hiv r3
            by_cases hz : atZ M i c = 0
            · rw [hz] at HSG
              have hzz2 : ∀ j, k ≤ j → j < i + 1 → atZ M j c = 0 := fun j h1 h2 => by
                by_cases e : j = i
                · rw [e]; exact hz
                · exact hzz j h1 (by omega)
              have HZZ := Lib.hid hzz2
              clear hz hzz hzz2 r1 r2
              go_wp2_with fail
              refine HSG.out.mono ?_
              rintro e w5 ⟨rfl, X5⟩
              go_wp2_with fail
              go_roundw
              case rel => exact ⟨i + 1, by omega, by omega, by go_num, HZZ.out, Y.trans X5⟩
              case measure => simp [intOf] <;> omega
            · have hsg : ((atZ M i c).sign == 0) = false := by
                rw [beq_eq_false_iff_ne]
                exact fun e => hz (Int.sign_eq_zero_iff_zero.1 e)
              have hin2 : ((i : Int) == (n : Int)) = false := by rw [beq_eq_false_iff_ne]; omega
              generalize (atZ M i c).sign = sg9 at *
              have HNZ := Lib.hid hz
              have HR2 := Lib.hid r2
              clear hz hzz r2
              go_wp2_with fail
              refine HSG.out.mono ?_
              rintro e w5 ⟨rfl, X5⟩
              have HZq := Lib.hid (HZ9.out.ext X5)
              have HSq := Lib.hid (HS9.out.ext X5)
              have Xq := X9.trans X5
              obtain ⟨q1, q2, q3, q4⟩ := HSq.out.cells
              clear hcell k0 k1 HSG HZ9 HS9 X9 X5 Y HZK HS X
              by_cases hik : i = k
              · subst hik
                have hkk : ((i : Int) != (i : Int)) = false := by simp
                have HRDq := HRD
                obtain ⟨wq, rfl⟩ : ∃ wq : World, wq = w5 := ⟨_, rfl⟩
                obtain ⟨rk, t1, t2, t3⟩ := HRDq.out.rect.row hk
                obtain ⟨gk, ck, _, _, hck, hzk, _, _, _, _⟩ := HZq.out.at t1
                obtain ⟨sp, ap, lp, cp, p0, p1, hip⟩ := hzk.read (t3 c hcw)
                rw [t2] at hck
                obtain ⟨E, hE⟩ : ∃ E, elimL M i c d = E := ⟨_, rfl⟩
                have HEL : Hid (∀ (i9 : Nat) r, i9 < n → M[i9]? = some r → E[i9]? = some (if i9 = i then r else elimRow (atZ M i c) (atZ M i9 c) d r rk)) := fun i9 r h1 h2 => by rw [← hE]; exact elimL_row HRDq.out.rect h1 h2 t1
                have HER := Lib.hid (HRDq.out.elim hk hcw HNZ.out)
                rw [hE] at HER
                have HEN : Hid (E.length = M.length) := by show _ = _; rw [HER.out.rect.len, HRDq.out.rect.len]
                have HMN : Hid (M.length = n) := HRDq.out.rect.len
                have HNM : Hid (∀ i j, i < n → j < wd → (dig (atZ M i j).natAbs).length ≤ 100000000) := fun i j h1 h2 => HXB.out _ (HRDq.out.num h1 h2)
                have HND : Hid ((dig d.natAbs).length ≤ 100000000) := HXB.out _ HRDq.out.dnum
                have HD0 : Hid (d ≠ 0) := HRDq.out.dne
                have HT1 := Lib.hid t1
                have HT3 := Lib.hid t3
                have HT2 := Lib.hid t2
                have HRT := Lib.hid HRDq.out.rect
                have hpd : (dig (atZ M i c).natAbs).length ≤ 100000000 := HNM.out _ _ hk hcw
                have HPD := Lib.hid hpd
                have HPE : Hid (atZ M i c = atZ M i c) := rfl
                obtain ⟨p, hp⟩ : ∃ p, atZ M i c = p := ⟨_, rfl⟩
                rw [hp] at hip HEL HER HPD
                obtain ⟨T9, hT9⟩ : ∃ T9, wq.heap.size = T9 := ⟨_, rfl⟩
                obtain ⟨wp, hwp⟩ : ∃ wp, wq.alloc (.cells #[.bool sp, .slice ap lp cp] 58) = wp := ⟨_, rfl⟩
                have XP : Ext wq wp := by rw [← hwp]; exact (Ext.refl wq).alloc _
                have hgT : g ≤ T9 := by have := (HSq.out.blk.lt g rfl).2; omega
                have HBX : Hid (BoxI g T9 sp ap lp cp p wp) := by rw [← hwp]; exact BoxI.new hip hT9 hgT
                have HZp := Lib.hid (HZq.out.ext XP)
                have HSp := Lib.hid (HSq.out.ext XP)
                have Xp := Xq.trans XP
                have hcwi : (c : Int) < (wd : Int) := by omega
                have hki9 : (i : Int) < (n : Int) := by omega
                clear hE hzk hip hp hpd t1 t3 HZq HSq Xq XP HPE HRD HRDq HNZ t2
                go_wp2_with fail
                clear hT9 hwp p0 p1 hck hgT q1 q2 q3 q4 hkk
                go_loopw [93] (fun iv wr => ∃ (i7 : Nat), i7 ≤ n ∧ iv = .int .i64 (i7 : Int) ∧ Hid (ZzK wr B g (.slice (some ⟨go, 0, none⟩) n cap) (mixG M E i7)) ∧ Hid (RSide B g g (.slice (some ⟨go, 0, none⟩) n cap) (.slice po i pc) i cs s a l lc neg d wr) ∧ Hid (BoxI g T9 sp ap lp cp p wr) ∧ ExN w0 w wr) (fun iv _ => n - (intOf iv).toNat)
                case atStart => exact ⟨0, Nat.zero_le _, rfl, by show ZzK _ _ _ _ _; rw [mixG_zero]; exact HZp.out, HSp, HBX, Xp⟩
                case round =>
                  clear HZp HSp HBX Xp
                  obtain ⟨i3, hi3, rfl, HZm, HSm, HBm, Xm⟩ := hrel
                  by_cases hin3 : i3 < n
                  · obtain ⟨r3, u1, u2, u3⟩ := HRT.out.row hin3
                    have hE1 := HEL.out i3 r3 hin3 u1
                    have hi3i : (i3 : Int) < (n : Int) := by omega
                    by_cases hik3 : i3 = i
                    · have hb3 : ((i3 : Int) == (i : Int)) = true := by simp; omega
                      rw [if_pos hik3] at hE1
                      have HMX : Hid (mixG M E (i3 + 1) = mixG M E i3) := by
                        show _ = _
                        rw [← mixG_set HEN.out hE1]
                        exact set_same (mixG_get HEN.out u1)
                      clear hE1 u1 u2 u3 hik3
                      go_wp2_with fail
                      go_roundw
                      case rel => exact ⟨i3 + 1, by omega, by go_num, by rw [HMX.out]; exact HZm, HSm, HBm, Xm⟩
                      case measure => simp [intOf] <;> omega
                    · have hb3 : ((i3 : Int) == (i : Int)) = false := by rw [beq_eq_false_iff_ne]; omega
                      rw [if_neg hik3] at hE1
                      have mi := mixG_get HEN.out u1
                      obtain ⟨gi, ci, _, _, hci3, hzi, _, _, _, _⟩ := HZm.out.at mi
                      obtain ⟨sf, af, lf, cf', f0, f1, hif⟩ := hzi.read (u3 c hcw)
                      rw [u2] at hci3
                      obtain ⟨R, hR⟩ : ∃ R, elimRow p (atZ M i3 c) d r3 rk = R := ⟨_, rfl⟩
                      rw [hR] at hE1
                      have HE1 := Lib.hid hE1
                      have HRL : Hid (R.length = r3.length) := by show _ = _; rw [← hR]; exact elimRow_len (by rw [u2, HT2.out])
                      have HRG : Hid (∀ j av bv, r3[j]? = some av → rk[j]? = some bv → R[j]? = some ((av * p - atZ M i3 c * bv).tdiv d)) := fun j av bv h1 h2 => by rw [← hR]; exact elimRow_get h1 h2
                      have HFD : Hid ((dig (atZ M i3 c).natAbs).length ≤ 100000000) := HNM.out _ _ hin3 hcw
                      obtain ⟨f, hf⟩ : ∃ f, atZ M i3 c = f := ⟨_, rfl⟩
                      rw [hf] at hif HRG HFD
                      obtain ⟨T11, hT11⟩ : ∃ T11, wr.heap.size = T11 := ⟨_, rfl⟩
                      obtain ⟨wf, hwf⟩ : ∃ wf, wr.alloc (.cells #[.bool sf, .slice af lf cf'] 58) = wf := ⟨_, rfl⟩
                      have XF : Ext wr wf := by rw [← hwf]; exact (Ext.refl wr).alloc _
                      have hgT2 : g ≤ T11 := by have := (HSm.out.blk.lt g rfl).2; omega
                      have HBF : Hid (BoxI g T11 sf af lf cf' f wf) := by rw [← hwf]; exact BoxI.new hif hT11 hgT2
                      have HZf : Hid (ZzK wf B g (.slice (some ⟨go, 0, none⟩) n cap) ((mixG M E i3).set i3 (mixG r3 R 0))) := by show ZzK _ _ _ _ _; rw [mixG_zero, set_same mi]; exact HZm.out.ext XF
                      have HSf := Lib.hid (HSm.out.ext XF)
                      have HBp := Lib.hid (HBm.out.ext XF)
                      have Xf := Xm.trans XF
                      have HU1 := Lib.hid u1
                      have HU2 := Lib.hid u2
                      have HU3 := Lib.hid u3
                      have hcf := XF.cell hci3
                      clear hR hf hzi hif hE1 mi u1 u2 u3 HZm HSm HBm Xm XF
                      go_wp2_with fail
                      clear hT11 hwf hci3 f0 f1 hcf hgT2
                      go_loopw [111] (fun jv wr => ∃ (j : Nat), j ≤ wd ∧ jv = .int .i64 (j : Int) ∧ Hid (ZzK wr B g (.slice (some ⟨go, 0, none⟩) n cap) ((mixG M E i3).set i3 (mixG r3 R j))) ∧ Hid (RSide B g g (.slice (some ⟨go, 0, none⟩) n cap) (.slice po i pc) i cs s a l lc neg d wr) ∧ Hid (BoxI g T9 sp ap lp cp p wr) ∧ Hid (BoxI g T11 sf af lf cf' f wr) ∧ ExN w0 w wr) (fun jv _ => wd - (intOf jv).toNat)
                      case atStart => exact ⟨0, Nat.zero_le _, rfl, HZf, HSf, HBp, HBF, Xf⟩
                      case round =>
                        clear HZf HSf HBp HBF Xf
                        obtain ⟨j, hj, rfl, HZm, HSm, HBp, HBf, Xm⟩ := hrel
                        by_cases hjw : j < wd
                        · have hji : (j : Int) < (wd : Int) := by omega
                          have HAV := HU3.out j hjw
                          have HBV := HT3.out j hjw
                          have hrl : r3.length = wd := HU2.out
                          have hq1 := mixG_get HRL.out HAV
                          have hql : (mixG r3 R j).length = wd := by rw [mixG_len HRL.out, hrl]
                          have hml : i3 < (mixG M E i3).length := by rw [mixG_len HEN.out, HMN.out]; exact hin3
                          have rowi : ((mixG M E i3).set i3 (mixG r3 R j))[i3]? = some (mixG r3 R j) := List.getElem?_set_self hml
                          have rowk : ((mixG M E i3).set i3 (mixG r3 R j))[i]? = some rk := by
                            rw [List.getElem?_set_ne (by omega)]
                            refine mixG_both HT1.out ?_ HEN.out i3
                            have := HEL.out i rk hk HT1.out
                            rwa [if_pos rfl] at this
                          obtain ⟨gi, ci, _, _, hci, hzi, hgio, _, hgiK, _⟩ := HZm.out.at rowi
                          obtain ⟨sa, aa, la, ca, z0, z1, hia⟩ := hzi.read hq1
                          obtain ⟨gk2, ck2, _, _, hck, hzk, _, _, _, _⟩ := HZm.out.at rowk
                          obtain ⟨sb, ab, lb, cb, y0, y1, hib⟩ := hzk.read HBV
                          have hgiB : w0.heap.size ≤ gi := by rw [HBB.out]; exact (hzi.lt gi rfl).1
                          rw [hql] at hci hzi
                          rw [HT2.out] at hck
                          have HRJ := Lib.hid (HRG.out j _ _ HAV HBV)
                          have hda := HNM.out i3 j hin3 hjw
                          have hdb := HNM.out i j hk hjw
                          obtain ⟨av, hav⟩ : ∃ av, atZ M i3 j = av := ⟨_, rfl⟩
                          obtain ⟨bv, hbv⟩ : ∃ bv, atZ M i j = bv := ⟨_, rfl⟩
                          rw [hav] at hia HRJ hda
                          rw [hbv] at hib HRJ hdb
                          have HM1 := Lib.hid (fun W (hx : Ext wr W) => intMul_any (.agg #[.bool sa, .slice aa la ca]) (.agg #[.bool sp, .slice ap lp cp]) av p W (hia.ext hx) (HBp.out.int.ext hx) (by omega) (by have := HPD.out; omega))
                          have HM2 := Lib.hid (fun W (hx : Ext wr W) => intMul_any (.agg #[.bool sf, .slice af lf cf']) (.agg #[.bool sb, .slice ab lb cb]) f bv W (HBf.out.int.ext hx) (hib.ext hx) (by have := HFD.out; omega) (by omega))
                          have hm1 := dig_len_mulI hda HPD.out
                          have hm2 := dig_len_mulI HFD.out hdb
                          have hm3 : (dig (av * p - f * bv).natAbs).length ≤ 200000001 := by
                            rw [Int.sub_eq_add_neg]
                            refine dig_len_addI (by omega) ?_
                            rw [Int.natAbs_neg]
                            omega
                          have HSU := Lib.hid (fun (u v : Value) W hu hv => intSub_any u v (av * p) (f * bv) W hu hv (by omega) (by omega))
                          have HEX := Lib.hid (fun (u : Value) W (hx : Ext wr W) hu => intExact_any u (.agg #[.bool s, .slice a l lc]) (av * p - f * bv) d W hu (HSm.out.int.ext hx) HD0.out (by omega))
                          generalize (av * p - f * bv).tdiv d = val at *
                          generalize av * p - f * bv = dv at *
                          generalize av * p = m1 at *
                          generalize f * bv = m2 at *
                          obtain ⟨q1, q2, q3, q4⟩ := HSm.out.cells
                          have p0 := HBp.out.c0
                          have p1 := HBp.out.c1
                          have f0 := HBf.out.c0
                          have f1 := HBf.out.c1
                          have HZI := Lib.hid hzi
                          have HRI := Lib.hid rowi
                          have HQL := Lib.hid hql
                          have hmk : i < (mixG M E i3).length := by rw [mixG_len HEN.out, HMN.out]; exact hk
                          have hgk : gk2 ≠ gi := fun e => HZm.out.ne (by rw [List.length_set]; exact hml) (by rw [List.length_set]; exact hmk) (by omega) hci hck e.symm
                          have hgo : go ≠ gi := fun e => hgio e.symm
                          have hn9 : T9 ≠ gi := by have := HBp.out.tK; omega
                          have hn11 : T11 ≠ gi := by have := HBf.out.tK; omega
                          have hng : g ≠ gi := by omega
                          have HSS : Hid (∀ WW, Ext wr WW → WW.cell? ⟨go, i3, none⟩ = some (.slice (some ⟨gi, 0, none⟩) wd ci) ∧ WW.cell? ⟨go, i, none⟩ = some (.slice (some ⟨gk2, 0, none⟩) wd ck2) ∧ WW.cell? ⟨T9, 0, none⟩ = some (.bool sp) ∧ WW.cell? ⟨T9, 1, none⟩ = some (.slice ap lp cp) ∧ WW.cell? ⟨T11, 0, none⟩ = some (.bool sf) ∧ WW.cell? ⟨T11, 1, none⟩ = some (.slice af lf cf') ∧ WW.cell? ⟨gk2, j * 2, none⟩ = some (.bool sb) ∧ WW.cell? ⟨gk2, j * 2 + 1, none⟩ = some (.slice ab lb cb) ∧ WW.cell? ⟨g, 2, none⟩ = some (.bool s) ∧ WW.cell? ⟨g, 3, none⟩ = some (.slice a l lc)) := fun W9 hx => ⟨hx.cell hci, hx.cell hck, hx.cell p0, hx.cell p1, hx.cell f0, hx.cell f1, hx.cell y0, hx.cell y1, hx.cell q2, hx.cell q3⟩
                          have HST : Hid (∀ W9 u1 u2, Ext wr W9 → ((W9.setCell ⟨gi, j * 2, none⟩ u1).setCell ⟨gi, j * 2 + 1, none⟩ u2).cell? ⟨go, i3, none⟩ = some (.slice (some ⟨gi, 0, none⟩) wd ci) ∧ ((W9.setCell ⟨gi, j * 2, none⟩ u1).setCell ⟨gi, j * 2 + 1, none⟩ u2).cell? ⟨go, i, none⟩ = some (.slice (some ⟨gk2, 0, none⟩) wd ck2) ∧ ((W9.setCell ⟨gi, j * 2, none⟩ u1).setCell ⟨gi, j * 2 + 1, none⟩ u2).cell? ⟨T9, 0, none⟩ = some (.bool sp) ∧ ((W9.setCell ⟨gi, j * 2, none⟩ u1).setCell ⟨gi, j * 2 + 1, none⟩ u2).cell? ⟨T9, 1, none⟩ = some (.slice ap lp cp) ∧ ((W9.setCell ⟨gi, j * 2, none⟩ u1).setCell ⟨gi, j * 2 + 1, none⟩ u2).cell? ⟨T11, 0, none⟩ = some (.bool sf) ∧ ((W9.setCell ⟨gi, j * 2, none⟩ u1).setCell ⟨gi, j * 2 + 1, none⟩ u2).cell? ⟨T11, 1, none⟩ = some (.slice af lf cf') ∧ ((W9.setCell ⟨gi, j * 2, none⟩ u1).setCell ⟨gi, j * 2 + 1, none⟩ u2).cell? ⟨gk2, j * 2, none⟩ = some (.bool sb) ∧ ((W9.setCell ⟨gi, j * 2, none⟩ u1).setCell ⟨gi, j * 2 + 1, none⟩ u2).cell? ⟨gk2, j * 2 + 1, none⟩ = some (.slice ab lb cb) ∧ ((W9.setCell ⟨gi, j * 2, none⟩ u1).setCell ⟨gi, j * 2 + 1, none⟩ u2).cell? ⟨g, 2, none⟩ = some (.bool s) ∧ ((W9.setCell ⟨gi, j * 2, none⟩ u1).setCell ⟨gi, j * 2 + 1, none⟩ u2).cell? ⟨g, 3, none⟩ = some (.slice a l lc)) := fun W9 u1 u2 hx => ⟨cell_two (hx.cell hci) hgo, cell_two (hx.cell hck) hgo, cell_two (hx.cell p0) hn9, cell_two (hx.cell p1) hn9, cell_two (hx.cell f0) hn11, cell_two (hx.cell f1) hn11, cell_two (hx.cell y0) hgk, cell_two (hx.cell y1) hgk, cell_two (hx.cell q2) hng, cell_two (hx.cell q3) hng⟩
                          clear hmk hgk hgo hn9 hn11 hng
                          clear hzi hzk rowi rowk hia hib HAV HBV hda hdb hm1 hm2 hm3 hav hbv hq1 hml hrl hql q1 q4
                          go_wp2_with fail
                          refine wp_region_noPanic ?_
                          refine wp_region_last (S := fun W9 => (W9.cell? ⟨go, i3, none⟩ = some (.slice (some ⟨gi, 0, none⟩) wd ci) ∧ W9.cell? ⟨go, i, none⟩ = some (.slice (some ⟨gk2, 0, none⟩) wd ck2) ∧ W9.cell? ⟨T9, 0, none⟩ = some (.bool sp) ∧ W9.cell? ⟨T9, 1, none⟩ = some (.slice ap lp cp) ∧ W9.cell? ⟨T11, 0, none⟩ = some (.bool sf) ∧ W9.cell? ⟨T11, 1, none⟩ = some (.slice af lf cf') ∧ W9.cell? ⟨gk2, j * 2, none⟩ = some (.bool sb) ∧ W9.cell? ⟨gk2, j * 2 + 1, none⟩ = some (.slice ab lb cb) ∧ W9.cell? ⟨g, 2, none⟩ = some (.bool s) ∧ W9.cell? ⟨g, 3, none⟩ = some (.slice a l lc)) ∧ W9.cell? ⟨gi, j * 2, none⟩ = some (.bool sa) ∧ W9.cell? ⟨gi, j * 2 + 1, none⟩ = some (.slice aa la ca)) 30 (by kernel_rfl) (by simp only [setLast, stand]; rfl) (by kernel_rfl) rfl (by kernel_rfl) (by kernel_rfl) (by kernel_rfl) rfl rfl ⟨HSS.out _ (Ext.refl _).drew, by simpa using z0, by simpa using z1⟩ (fun hH0 => ?_)
                          refine wpAnyH_take (i := 0) (v := ?v0a) rfl (by kernel_rfl) (by kernel_rfl) (by kernel_rfl) (fun _ _ _ h => h) (Or.inl ⟨by rfl, ?hy0a⟩) (by assumption) ?r0a
                          case hy0a => (intro w9 hSw; (try dsimp only at hSw); go_simp; try with_reducible rfl)
                          try simp only [Act.put, List.setIfInBounds_toArray]
                          refine wpAnyH_take (i := 1) (v := ?v1a) rfl (by kernel_rfl) (by kernel_rfl) (by kernel_rfl) (fun _ _ _ h => h) (Or.inl ⟨by rfl, ?hy1a⟩) (by assumption) ?r1a
                          case hy1a => (intro w9 hSw; (try dsimp only at hSw); go_simp; try with_reducible rfl)
                          try simp only [Act.put]
                          refine wpAnyH_take (i := 2) (v := ?v2a) rfl (by kernel_rfl) (by kernel_rfl) (by kernel_rfl) (fun _ _ _ h => h) (Or.inl ⟨by rfl, ?hy2a⟩) (by assumption) ?r2a
                          case hy2a => (intro w9 hSw; (try dsimp only at hSw); go_simp; try with_reducible rfl)
                          try simp only [Act.put]
                          refine wpAnyH_take (i := 3) (v := ?v3a) rfl (by kernel_rfl) (by kernel_rfl) (by kernel_rfl) (fun _ _ _ h => h) (Or.inl ⟨by rfl, ?hy3a⟩) (by assumption) ?r3a
                          case hy3a => (intro w9 hSw; (try dsimp only at hSw); go_simp; try with_reducible rfl)
                          try simp only [Act.put]
                          refine wpAnyH_take (i := 4) (v := ?v4a) rfl (by kernel_rfl) (by kernel_rfl) (by kernel_rfl) (fun _ _ _ h => h) (Or.inl ⟨by rfl, ?hy4a⟩) (by assumption) ?r4a
                          case hy4a => (intro w9 hSw; (try dsimp only at hSw); go_simp; try with_reducible rfl)
                          try simp only [Act.put]
                          refine wpAnyH_take (i := 5) (v := ?v5a) rfl (by kernel_rfl) (by kernel_rfl) (by kernel_rfl) (fun _ _ _ h => h) (Or.inl ⟨by rfl, ?hy5a⟩) (by assumption) ?r5a
                          case hy5a => (intro w9 hSw; (try dsimp only at hSw); go_simp; try with_reducible rfl)
                          try simp only [Act.put]
                          refine wpAnyH_take (i := 6) (v := ?v6a) rfl (by kernel_rfl) (by kernel_rfl) (by kernel_rfl) (fun _ _ _ h => h) (Or.inl ⟨by rfl, ?hy6a⟩) (by assumption) ?r6a
                          case hy6a => (intro w9 hSw; (try dsimp only at hSw); go_simp; try with_reducible rfl)
                          try simp only [Act.put]
                          refine wpAnyH_take (i := 7) (v := ?v7a) rfl (by kernel_rfl) (by kernel_rfl) (by kernel_rfl) (fun _ _ _ h => h) (Or.inl ⟨by rfl, ?hy7a⟩) (by assumption) ?r7a
                          case hy7a => (intro w9 hSw; (try dsimp only at hSw); go_simp; try with_reducible rfl)
                          try simp only [Act.put]
                          refine wpAnyH_take (i := 8) (v := ?v8a) rfl (by kernel_rfl) (by kernel_rfl) (by kernel_rfl) (fun _ _ _ h => h) (Or.inl ⟨by rfl, ?hy8a⟩) (by assumption) ?r8a
                          case hy8a => (intro w9 hSw; (try dsimp only at hSw); go_simp; try with_reducible rfl)
                          try simp only [Act.put]
                          refine wpAnyH_take (i := 9) (v := ?v9a) rfl (by kernel_rfl) (by kernel_rfl) (by kernel_rfl) (fun _ _ _ h => h) (Or.inl ⟨by rfl, ?hy9a⟩) (by assumption) ?r9a
                          case hy9a => (intro w9 hSw; (try dsimp only at hSw); go_simp; try with_reducible rfl)
                          try simp only [Act.put]
                          refine wpAnyH_take (i := 10) (v := ?v10a) rfl (by kernel_rfl) (by kernel_rfl) (by kernel_rfl) (fun _ _ _ h => h) (Or.inl ⟨by rfl, ?hy10a⟩) (by assumption) ?r10a
                          case hy10a => (intro w9 hSw; (try dsimp only at hSw); go_simp; try with_reducible rfl)
                          try simp only [Act.put]
                          refine wpAnyH_take (i := 11) (v := ?v11a) rfl (by kernel_rfl) (by kernel_rfl) (by kernel_rfl) (fun _ _ _ h => h) (Or.inl ⟨by rfl, ?hy11a⟩) (by assumption) ?r11a
                          case hy11a => (intro w9 hSw; (try dsimp only at hSw); go_simp; try with_reducible rfl)
                          try simp only [Act.put]
                          refine wpAnyH_take (i := 12) (v := ?v12a) rfl (by kernel_rfl) (by kernel_rfl) (by kernel_rfl) (fun _ _ _ h => h) (Or.inl ⟨by rfl, ?hy12a⟩) (by assumption) ?r12a
                          case hy12a => (intro w9 hSw; (try dsimp only at hSw); go_simp; try with_reducible rfl)
                          try simp only [Act.put]
                          refine wpAnyH_take (i := 14) (v := ?v14a) rfl (by kernel_rfl) (by kernel_rfl) (by kernel_rfl) (fun _ _ _ h => h) (Or.inl ⟨by rfl, ?hy14a⟩) (by assumption) ?r14a
                          case hy14a => (intro w9 hSw; (try dsimp only at hSw); go_simp; try with_reducible rfl)
                          try simp only [Act.put]
                          refine wpAnyH_take (i := 15) (v := ?v15a) rfl (by kernel_rfl) (by kernel_rfl) (by kernel_rfl) (fun _ _ _ h => h) (Or.inl ⟨by rfl, ?hy15a⟩) (by assumption) ?r15a
                          case hy15a => (intro w9 hSw; (try dsimp only at hSw); go_simp; try with_reducible rfl)
                          try simp only [Act.put]
                          refine wpAnyH_take (i := 16) (v := ?v16a) rfl (by kernel_rfl) (by kernel_rfl) (by kernel_rfl) (fun _ _ _ h => h) (Or.inl ⟨by rfl, ?hy16a⟩) (by assumption) ?r16a
                          case hy16a => (intro w9 hSw; (try dsimp only at hSw); go_simp; try with_reducible rfl)
                          try simp only [Act.put]
                          refine wpAnyH_take (i := 17) (v := ?v17a) rfl (by kernel_rfl) (by kernel_rfl) (by kernel_rfl) (fun _ _ _ h => h) (Or.inl ⟨by rfl, ?hy17a⟩) (by assumption) ?r17a
                          case hy17a => (intro w9 hSw; (try dsimp only at hSw); go_simp; try with_reducible rfl)
                          try simp only [Act.put]
                          refine wpAnyH_take (i := 18) (v := ?v18a) rfl (by kernel_rfl) (by kernel_rfl) (by kernel_rfl) (fun _ _ _ h => h) (Or.inl ⟨by rfl, ?hy18a⟩) (by assumption) ?r18a
                          case hy18a => (intro w9 hSw; (try dsimp only at hSw); go_simp; try with_reducible rfl)
                          try simp only [Act.put]
                          refine wpAnyH_take (i := 19) (v := ?v19a) rfl (by kernel_rfl) (by kernel_rfl) (by kernel_rfl) (fun _ _ _ h => h) (Or.inl ⟨by rfl, ?hy19a⟩) (by assumption) ?r19a
                          case hy19a => (intro w9 hSw; (try dsimp only at hSw); go_simp; try with_reducible rfl)
                          try simp only [Act.put]
                          refine wpAnyH_take (i := 20) (v := ?v20a) rfl (by kernel_rfl) (by kernel_rfl) (by kernel_rfl) (fun _ _ _ h => h) (Or.inl ⟨by rfl, ?hy20a⟩) (by assumption) ?r20a
                          case hy20a => (intro w9 hSw; (try dsimp only at hSw); go_simp; try with_reducible rfl)
                          try simp only [Act.put]
                          refine wpAnyH_take (i := 21) (v := ?v21a) rfl (by kernel_rfl) (by kernel_rfl) (by kernel_rfl) (fun _ _ _ h => h) (Or.inl ⟨by rfl, ?hy21a⟩) (by assumption) ?r21a
                          case hy21a => (intro w9 hSw; (try dsimp only at hSw); go_simp; try with_reducible rfl)
                          try simp only [Act.put]
                          refine wpAnyH_take (i := 24) (v := ?v24a) rfl (by kernel_rfl) (by kernel_rfl) (by kernel_rfl) (fun _ _ _ h => h) (Or.inl ⟨by rfl, ?hy24a⟩) (by assumption) ?r24a
                          case hy24a => (intro w9 hSw; (try dsimp only at hSw); go_simp; try with_reducible rfl)
                          try simp only [Act.put]
                          refine wpAnyH_take (i := 25) (v := ?v25a) rfl (by kernel_rfl) (by kernel_rfl) (by kernel_rfl) (fun _ _ _ h => h) (Or.inl ⟨by rfl, ?hy25a⟩) (by assumption) ?r25a
                          case hy25a => (intro w9 hSw; (try dsimp only at hSw); go_simp; try with_reducible rfl)
                          try simp only [Act.put]
                          refine wpAnyH_take (i := 26) (v := ?v26a) rfl (by kernel_rfl) (by kernel_rfl) (by kernel_rfl) (fun _ _ _ h => h) (Or.inl ⟨by rfl, ?hy26a⟩) (by assumption) ?r26a
                          case hy26a => (intro w9 hSw; (try dsimp only at hSw); go_simp; try with_reducible rfl)
                          try simp only [Act.put]
                          refine wpAnyH_take (i := 27) (v := ?v27a) rfl (by kernel_rfl) (by kernel_rfl) (by kernel_rfl) (fun _ _ _ h => h) (Or.inl ⟨by rfl, ?hy27a⟩) (by assumption) ?r27a
                          case hy27a => (intro w9 hSw; (try dsimp only at hSw); go_simp; try with_reducible rfl)
                          try simp only [Act.put]
                          refine wpAnyH_ready (rs := [13]) (by kernel_rfl) (by simp) ?_
                          refine AllReadyH.cons rfl (fun K9 hK => ?_) AllReadyH.nil
                          go_simp
                          go_at_call_of 59 (Value.agg #[.bool sa, .slice aa la ca]); refine (HM1.out _ (by first | exact (Ext.refl _).drew | exact XL)).mono ?_; rintro e wa5 ⟨r5, rfl, hr5, Y5⟩; have XL : Ext wr wa5 := (by first | exact (Ext.refl wr).drew.trans Y5 | exact XL.trans Y5); obtain ⟨sA, aA, lA, cA, rfl, _, _, _⟩ := hr5.opn; have HA5 := Lib.hid hr5; clear hr5; have z0 := Y5.cell z0; have z1 := Y5.cell z1
                          refine hK.out _ _ (by (try dsimp only); exact ⟨HSS.out _ XL, z0, z1⟩) (fun hH1 => ?_)
                          clear hK K9 hH0
                          try simp only [Act.put, List.setIfInBounds_toArray, List.set_cons_zero, List.set_cons_succ]
                          refine wpAnyH_ready (rs := [22]) (by kernel_rfl) (by simp) ?_
                          refine AllReadyH.cons rfl (fun K9 hK => ?_) AllReadyH.nil
                          go_simp
                          go_at_call_of 59 (Value.agg #[.bool sf, .slice af lf cf']); refine (HM2.out _ (by first | exact (Ext.refl _).drew | exact XL)).mono ?_; rintro e wb5 ⟨r6, rfl, hr6, Y6⟩; have XL : Ext wr wb5 := (by first | exact (Ext.refl wr).drew.trans Y6 | exact XL.trans Y6); obtain ⟨sB, aB, lB, cB, rfl, _, _, _⟩ := hr6.opn; have HA6 := Lib.hid hr6; clear hr6; have z0 := Y6.cell z0; have z1 := Y6.cell z1
                          refine hK.out _ _ (by (try dsimp only); exact ⟨HSS.out _ XL, z0, z1⟩) (fun hH2 => ?_)
                          clear hK K9 hH1
                          try simp only [Act.put, List.setIfInBounds_toArray, List.set_cons_zero, List.set_cons_succ]
                          refine wpAnyH_ready (rs := [23]) (by kernel_rfl) (by simp) ?_
                          refine AllReadyH.cons rfl (fun K9 hK => ?_) AllReadyH.nil
                          go_simp
                          go_at_call 61; refine (HSU.out _ _ _ (by first | exact HA5.out.ext Y6 | exact HA5.out) (by first | exact HA6.out | exact HA6.out.ext Y5)).mono ?_; rintro e wc5 ⟨r7, rfl, hr7, Y7⟩; have XL : Ext wr wc5 := XL.trans Y7; obtain ⟨sC, aC, lC, cC, rfl, _, _, _⟩ := hr7.opn; have HA7 := Lib.hid hr7; clear hr7; have z0 := Y7.cell z0; have z1 := Y7.cell z1
                          refine hK.out _ _ (by (try dsimp only); exact ⟨HSS.out _ XL, z0, z1⟩) (fun hH3 => ?_)
                          clear hK K9 hH2
                          try simp only [Act.put, List.setIfInBounds_toArray, List.set_cons_zero, List.set_cons_succ]
                          refine wpAnyH_ready (rs := [28]) (by kernel_rfl) (by simp) ?_
                          refine AllReadyH.cons rfl (fun K9 hK => ?_) AllReadyH.nil
                          go_simp
                          go_at_call 62; refine (HEX.out _ _ (by exact XL) (by exact HA7.out)).mono ?_; rintro e wd5 ⟨r8, rfl, hr8, Y8⟩; have Xd : Ext wr wd5 := XL.trans Y8; obtain ⟨sD, aD, lD, cD, rfl, _, _, _⟩ := hr8.opn; have HA8 := Lib.hid hr8; clear hr8; have z0 := Y8.cell z0; have z1 := Y8.cell z1; obtain ⟨x9, y9, hst, hput⟩ := (HZI.out.ext Xd).stored (i := j) (by rw [HQL.out]; exact hjw); have HPU := Lib.hid hput; clear hput; have g0 := hst.f0; have g1 := hst.c0; have g2 := hst.f1; have g3 := hst.c1; clear hst
                          refine hK.out _ _ (by (try dsimp only); exact ⟨HSS.out _ Xd, z0, z1⟩) (fun hH4 => ?_)
                          clear hK K9 hH3
                          try simp only [Act.put, List.setIfInBounds_toArray, List.set_cons_zero, List.set_cons_succ]
                          refine wpAnyH_take (i := 29) (v := ?v29a) rfl (by kernel_rfl) (by kernel_rfl) (by kernel_rfl) (fun _ _ _ h => h) (Or.inl ⟨by rfl, ?hy29a⟩) (by assumption) ?r29a
                          case hy29a => (intro w9 hSw; (try dsimp only at hSw); go_simp; try with_reducible rfl)
                          try simp only [Act.put, List.setIfInBounds_toArray]
                          refine wpAnyH_take (i := 30) (v := ?v30a) rfl (by kernel_rfl) (by kernel_rfl) (by kernel_rfl) (fun _ _ _ h => h) (Or.inl ⟨by rfl, ?hy30a⟩) (by assumption) ?r30a
                          case hy30a => (intro w9 hSw; (try dsimp only at hSw); go_simp; try with_reducible rfl)
                          try simp only [Act.put]
                          refine wpAnyH_done (by kernel_rfl) ?_ _
                          show Oper.wp _ _ _ _ _ _
                          go_simp
                          refine NoPanic.normal ?_
                          all_goals
                            obtain ⟨w7, h7, hgr, hO7⟩ := HPU.out _ _ _ _ _ HA8.out
                            rw [h7]
                            obtain ⟨hz7, hcl7, _, _⟩ := (HZm.out.ext Xd).put HRI.out (Xd.cell hci) (by rw [List.length_set]) hgr hO7
                            rw [List.set_set, mixG_set HRL.out HRJ.out] at hz7
                            have HZ7 := Lib.hid hz7
                            have HS7 := Lib.hid ((HSm.out.ext Xd).kept (x := gi) hcl7 rfl hgr hgiK)
                            have HP7 := Lib.hid ((HBp.out.ext Xd).kept (x := gi) hcl7 rfl hgr hgiK)
                            have HF7 := Lib.hid ((HBf.out.ext Xd).kept (x := gi) hcl7 rfl hgr hgiK)
                            have X7 := (Xm.trans Xd).grown hgr hgiB hcl7
                            clear hz7 hcl7 hgr hO7 h7 g0 g1 g2 g3 hci hck z0 z1 p0 p1 f0 f1 y0 y1 q2 q3
                            go_wp2_with fail
                            go_roundw
                            case rel => exact ⟨j + 1, by omega, by go_num, HZ7, HS7, HP7, HF7, X7⟩
                            case measure => simp [intOf] <;> omega
                        · have hjw2 : wd = j := by omega
                          have hge2 : (wd : Int) ≤ (j : Int) := by omega
                          have hz := HZm.out
                          rw [← hjw2, ← HU2.out, mixG_all HRL.out, mixG_set HEN.out HE1.out] at hz
                          have HZ7 := Lib.hid hz
                          clear hjw2 hz HZm hjw
                          go_wp2_with fail
                          go_roundw
                          case rel => exact ⟨i3 + 1, by omega, by go_num, HZ7, HSm, HBp, Xm⟩
                          case measure => simp [intOf] <;> omega
                  · have hin4 : n = i3 := by omega
                    have hge3 : (n : Int) ≤ (i3 : Int) := by omega
                    have hz := HZm.out
                    have hmx : mixG M E i3 = E := by rw [← hin4, ← HMN.out]; exact mixG_all HEN.out
                    rw [hmx] at hz
                    clear hmx
                    have HZE := Lib.hid hz
                    obtain ⟨q1, q2, q3, q4⟩ := HSm.out.cells
                    have p0 := HBm.out.c0
                    have p1 := HBm.out.c1
                    obtain ⟨l1, l2, l3, l4, l5⟩ := HSm.out.last HBm.out.int
                    obtain ⟨w8, hw8⟩ : ∃ w8, (wr.setCell ⟨g, 2, none⟩ (.bool sp)).setCell ⟨g, 3, none⟩ (.slice ap lp cp) = w8 := ⟨_, rfl⟩
                    rw [hw8] at l4 l5
                    have HZ8 := Lib.hid (HZE.out.kept HSm.out.cl l4 (Nat.le_refl _))
                    have HS8 := Lib.hid l5
                    have X8 := Xm.grown l4 (by rw [HBB.out]; exact hgB) HSm.out.cl
                    obtain ⟨v1', v2', v3', v4'⟩ := HS8.out.cells
                    have hsz8 : B ≤ w8.heap.size := by have := (HS8.out.blk.lt g rfl).2; omega
                    clear hz hin4 hin3 HZm HZE HBm Xm l5 l4
                    go_wp2_with (at_builtin; refine wp_app1c (s := .tmp 154) (x := .tmp 156) (x1 := .int .i64 (c : Int)) rfl rfl ei_ints zc_i HS8.out.pvo HS8.out.pcl rfl rfl rfl rfl (by intro d; simp [encD]) (by omega) (by omega) hsz8 ?_; intro v9 w9 hown9 hgrew9 hclean9; obtain ⟨po9, pc9, rfl⟩ := own_isSlice hown9; obtain ⟨o1, o2, o3, o4, o5⟩ := HS8.out.piv hown9 hgrew9 hclean9; have HZ9 := Lib.hid ((HZ8.out.keptV HS8.out.pcl hgrew9.by' (fun y hy => (HS8.out.pK y hy).1)).kept o4 o3 (Nat.le_refl _)); have HS9 := Lib.hid o5; have X9 := (X8.grew hgrew9 HS8.out.pcl (fun y hy => Nat.le_trans (by rw [HBB.out]; exact hgB) (HS8.out.pK y hy).1)).grown o3 (by rw [HBB.out]; exact hgB) o4; clear o3 o4 o5 hown9 hgrew9 hclean9)
                    go_roundw
                    case rel => exact ⟨c + 1, i + 1, _, E, p, neg, _, _, sp, ap, lp, cp, by omega, by go_num, HER, HZ9, HS9, X9⟩
                    case measure => simp [intOf] <;> omega
              · have hkk : ((i : Int) != (k : Int)) = true := by simp; omega
                obtain ⟨rk0, s10, s20, _⟩ := HRD.out.rect.row hk
                obtain ⟨hdi, cdi, hdk, cdk, e1, e2, f1, f2, e3, hgr, hcl, hsw⟩ := HZq.out.swap r1 s10 hik
                have f3 := HZq.out.frozen k
                simp only [HR2.out, s20] at e1 e2 f2 e3 hgr hsw
                clear s20
                rw [swapZ_of r1 s10] at hsw
                have HRDq := Lib.hid (HRD.out.swap (i := i) (by omega) hi)
                have HNZ : Hid (atZ (swapZ M i k) k c ≠ 0) := by
                  show _ ≠ _
                  have h1 := congrFun (congrFun (swapZ_at (M := M) (i := i) (k := k) (by rw [HRD.out.rect.len]; exact hi) (by rw [HRD.out.rect.len]; exact hk) hik) k) c
                  intro e
                  apply HNZ.out
                  have h2 : ((atZ (swapZ M i k) k c : Int) : Rat) = ((atZ M (if k = k then i else if k = i then k else k) c : Int) : Rat) := h1
                  rw [if_pos rfl, e] at h2
                  exact (Rat.intCast_inj.1 h2).symm
                have hgoK : go < g := by obtain ⟨_, _, _, h, _⟩ := HZq.out.at r1; exact h
                have hgoB : w0.heap.size ≤ go := by rw [HBB.out]; obtain ⟨_, _, h, _⟩ := HZq.out.at r1; exact h
                obtain ⟨w6, hw6⟩ : ∃ w6, World.drew ((w5.setCell ⟨go, i, none⟩ (.slice (some ⟨hdk, 0, none⟩) wd cdk)).setCell ⟨go, k, none⟩ (.slice (some ⟨hdi, 0, none⟩) wd cdi)) = w6 := ⟨_, rfl⟩
                have X56 : Ext ((w5.setCell ⟨go, i, none⟩ (.slice (some ⟨hdk, 0, none⟩) wd cdk)).setCell ⟨go, k, none⟩ (.slice (some ⟨hdi, 0, none⟩) wd cdi)) w6 := by rw [← hw6]; exact (Ext.refl _).drew
                have HZ6 := Lib.hid (hsw.ext X56)
                have HS6 := Lib.hid ((HSq.out.kept (u := (.slice (some ⟨go, 0, none⟩) n cap)) (x := go) hcl rfl hgr hgoK).ext X56)
                have X6 := (Xq.grown hgr hgoB hcl).trans X56
                obtain ⟨j1, j2, j3, j4⟩ := HS6.out.cells
                obtain ⟨n1, n2, n3⟩ := HS6.out.neg (!neg)
                obtain ⟨wq, hwq⟩ : ∃ wq, w6.setCell ⟨g, 4, none⟩ (.bool (!neg)) = wq := ⟨_, rfl⟩
                rw [hwq] at n2 n3
                have HZq := Lib.hid (HZ6.out.kept HS6.out.cl n2 (Nat.le_refl _))
                have HSq := Lib.hid n3
                have Xq := X6.grown n2 (by rw [HBB.out]; exact hgB) HS6.out.cl
                clear hsw hgr hcl n2 n3 X56 X6 HZ6 HS6 s10
                generalize swapZ M i k = M at *
                generalize hneg : (!neg) = neg at *
                obtain ⟨rk, t1, t2, t3⟩ := HRDq.out.rect.row hk
                obtain ⟨gk, ck, _, _, hck, hzk, _, _, _, _⟩ := HZq.out.at t1
                obtain ⟨sp, ap, lp, cp, p0, p1, hip⟩ := hzk.read (t3 c hcw)
                rw [t2] at hck
                obtain ⟨E, hE⟩ : ∃ E, elimL M k c d = E := ⟨_, rfl⟩
                have HEL : Hid (∀ (i9 : Nat) r, i9 < n → M[i9]? = some r → E[i9]? = some (if i9 = k then r else elimRow (atZ M k c) (atZ M i9 c) d r rk)) := fun i9 r h1 h2 => by rw [← hE]; exact elimL_row HRDq.out.rect h1 h2 t1
                have HER := Lib.hid (HRDq.out.elim hk hcw HNZ.out)
                rw [hE] at HER
                have HEN : Hid (E.length = M.length) := by show _ = _; rw [HER.out.rect.len, HRDq.out.rect.len]
                have HMN : Hid (M.length = n) := HRDq.out.rect.len
                have HNM : Hid (∀ i j, i < n → j < wd → (dig (atZ M i j).natAbs).length ≤ 100000000) := fun i j h1 h2 => HXB.out _ (HRDq.out.num h1 h2)
                have HND : Hid ((dig d.natAbs).length ≤ 100000000) := HXB.out _ HRDq.out.dnum
                have HD0 : Hid (d ≠ 0) := HRDq.out.dne
                have HT1 := Lib.hid t1
                have HT3 := Lib.hid t3
                have HT2 := Lib.hid t2
                have HRT := Lib.hid HRDq.out.rect
                have hpd : (dig (atZ M k c).natAbs).length ≤ 100000000 := HNM.out _ _ hk hcw
                have HPD := Lib.hid hpd
                have HPE : Hid (atZ M k c = atZ M k c) := rfl
                obtain ⟨p, hp⟩ : ∃ p, atZ M k c = p := ⟨_, rfl⟩
                rw [hp] at hip HEL HER HPD
                obtain ⟨T9, hT9⟩ : ∃ T9, wq.heap.size = T9 := ⟨_, rfl⟩
                obtain ⟨wp, hwp⟩ : ∃ wp, wq.alloc (.cells #[.bool sp, .slice ap lp cp] 58) = wp := ⟨_, rfl⟩
                have XP : Ext wq wp := by rw [← hwp]; exact (Ext.refl wq).alloc _
                have hgT : g ≤ T9 := by have := (HSq.out.blk.lt g rfl).2; omega
                have HBX : Hid (BoxI g T9 sp ap lp cp p wp) := by rw [← hwp]; exact BoxI.new hip hT9 hgT
                have HZp := Lib.hid (HZq.out.ext XP)
                have HSp := Lib.hid (HSq.out.ext XP)
                have Xp := Xq.trans XP
                have hcwi : (c : Int) < (wd : Int) := by omega
                have hki9 : (k : Int) < (n : Int) := by omega
                clear hE hzk hip hp hpd t1 t3 HZq HSq Xq XP HPE HRD HRDq HNZ t2
                go_wp2_with fail
                go_region
                all_goals
                  go_wp2_with fail
                  clear hT9 hwp hwq hw6 p0 p1 hck hgT q1 q2 q3 q4 hkk e1 e2 e3 f1 f2 n1 j1 j2 j3 j4
                  go_loopw [93] (fun iv wr => ∃ (i7 : Nat), i7 ≤ n ∧ iv = .int .i64 (i7 : Int) ∧ Hid (ZzK wr B g (.slice (some ⟨go, 0, none⟩) n cap) (mixG M E i7)) ∧ Hid (RSide B g g (.slice (some ⟨go, 0, none⟩) n cap) (.slice po k pc) k cs s a l lc neg d wr) ∧ Hid (BoxI g T9 sp ap lp cp p wr) ∧ ExN w0 w wr) (fun iv _ => n - (intOf iv).toNat)
                  case atStart => exact ⟨0, Nat.zero_le _, rfl, by show ZzK _ _ _ _ _; rw [mixG_zero]; exact HZp.out, HSp, HBX, Xp⟩
                  case round =>
                    clear HZp HSp HBX Xp
                    obtain ⟨i3, hi3, rfl, HZm, HSm, HBm, Xm⟩ := hrel
                    by_cases hin3 : i3 < n
                    · obtain ⟨r3, u1, u2, u3⟩ := HRT.out.row hin3
                      have hE1 := HEL.out i3 r3 hin3 u1
                      have hi3i : (i3 : Int) < (n : Int) := by omega
                      by_cases hik3 : i3 = k
                      · have hb3 : ((i3 : Int) == (k : Int)) = true := by simp; omega
                        rw [if_pos hik3] at hE1
                        have HMX : Hid (mixG M E (i3 + 1) = mixG M E i3) := by
                          show _ = _
                          rw [← mixG_set HEN.out hE1]
                          exact set_same (mixG_get HEN.out u1)
                        clear hE1 u1 u2 u3 hik3
                        go_wp2_with fail
                        go_roundw
                        case rel => exact ⟨i3 + 1, by omega, by go_num, by rw [HMX.out]; exact HZm, HSm, HBm, Xm⟩
                        case measure => simp [intOf] <;> omega
                      · have hb3 : ((i3 : Int) == (k : Int)) = false := by rw [beq_eq_false_iff_ne]; omega
                        rw [if_neg hik3] at hE1
                        have mi := mixG_get HEN.out u1
                        obtain ⟨gi, ci, _, _, hci3, hzi, _, _, _, _⟩ := HZm.out.at mi
                        obtain ⟨sf, af, lf, cf', f0, f1, hif⟩ := hzi.read (u3 c hcw)
                        rw [u2] at hci3
                        obtain ⟨R, hR⟩ : ∃ R, elimRow p (atZ M i3 c) d r3 rk = R := ⟨_, rfl⟩
                        rw [hR] at hE1
                        have HE1 := Lib.hid hE1
                        have HRL : Hid (R.length = r3.length) := by show _ = _; rw [← hR]; exact elimRow_len (by rw [u2, HT2.out])
                        have HRG : Hid (∀ j av bv, r3[j]? = some av → rk[j]? = some bv → R[j]? = some ((av * p - atZ M i3 c * bv).tdiv d)) := fun j av bv h1 h2 => by rw [← hR]; exact elimRow_get h1 h2
                        have HFD : Hid ((dig (atZ M i3 c).natAbs).length ≤ 100000000) := HNM.out _ _ hin3 hcw
                        obtain ⟨f, hf⟩ : ∃ f, atZ M i3 c = f := ⟨_, rfl⟩
                        rw [hf] at hif HRG HFD
                        obtain ⟨T11, hT11⟩ : ∃ T11, wr.heap.size = T11 := ⟨_, rfl⟩
                        obtain ⟨wf, hwf⟩ : ∃ wf, wr.alloc (.cells #[.bool sf, .slice af lf cf'] 58) = wf := ⟨_, rfl⟩
                        have XF : Ext wr wf := by rw [← hwf]; exact (Ext.refl wr).alloc _
                        have hgT2 : g ≤ T11 := by have := (HSm.out.blk.lt g rfl).2; omega
                        have HBF : Hid (BoxI g T11 sf af lf cf' f wf) := by rw [← hwf]; exact BoxI.new hif hT11 hgT2
                        have HZf : Hid (ZzK wf B g (.slice (some ⟨go, 0, none⟩) n cap) ((mixG M E i3).set i3 (mixG r3 R 0))) := by show ZzK _ _ _ _ _; rw [mixG_zero, set_same mi]; exact HZm.out.ext XF
                        have HSf := Lib.hid (HSm.out.ext XF)
                        have HBp := Lib.hid (HBm.out.ext XF)
                        have Xf := Xm.trans XF
                        have HU1 := Lib.hid u1
                        have HU2 := Lib.hid u2
                        have HU3 := Lib.hid u3
                        have hcf := XF.cell hci3
                        clear hR hf hzi hif hE1 mi u1 u2 u3 HZm HSm HBm Xm XF
                        go_wp2_with fail
                        clear hT11 hwf hci3 f0 f1 hcf hgT2
                        go_loopw [111] (fun jv wr => ∃ (j : Nat), j ≤ wd ∧ jv = .int .i64 (j : Int) ∧ Hid (ZzK wr B g (.slice (some ⟨go, 0, none⟩) n cap) ((mixG M E i3).set i3 (mixG r3 R j))) ∧ Hid (RSide B g g (.slice (some ⟨go, 0, none⟩) n cap) (.slice po k pc) k cs s a l lc neg d wr) ∧ Hid (BoxI g T9 sp ap lp cp p wr) ∧ Hid (BoxI g T11 sf af lf cf' f wr) ∧ ExN w0 w wr) (fun jv _ => wd - (intOf jv).toNat)
                        case atStart => exact ⟨0, Nat.zero_le _, rfl, HZf, HSf, HBp, HBF, Xf⟩
                        case round =>
                          clear HZf HSf HBp HBF Xf
                          obtain ⟨j, hj, rfl, HZm, HSm, HBp, HBf, Xm⟩ := hrel
                          by_cases hjw : j < wd
                          · have hji : (j : Int) < (wd : Int) := by omega
                            have HAV := HU3.out j hjw
                            have HBV := HT3.out j hjw
                            have hrl : r3.length = wd := HU2.out
                            have hq1 := mixG_get HRL.out HAV
                            have hql : (mixG r3 R j).length = wd := by rw [mixG_len HRL.out, hrl]
                            have hml : i3 < (mixG M E i3).length := by rw [mixG_len HEN.out, HMN.out]; exact hin3
                            have rowi : ((mixG M E i3).set i3 (mixG r3 R j))[i3]? = some (mixG r3 R j) := List.getElem?_set_self hml
                            have rowk : ((mixG M E i3).set i3 (mixG r3 R j))[k]? = some rk := by
                              rw [List.getElem?_set_ne (by omega)]
                              refine mixG_both HT1.out ?_ HEN.out i3
                              have := HEL.out k rk hk HT1.out
                              rwa [if_pos rfl] at this
                            obtain ⟨gi, ci, _, _, hci, hzi, hgio, _, hgiK, _⟩ := HZm.out.at rowi
                            obtain ⟨sa, aa, la, ca, z0, z1, hia⟩ := hzi.read hq1
                            obtain ⟨gk2, ck2, _, _, hck, hzk, _, _, _, _⟩ := HZm.out.at rowk
                            obtain ⟨sb, ab, lb, cb, y0, y1, hib⟩ := hzk.read HBV
                            have hgiB : w0.heap.size ≤ gi := by rw [HBB.out]; exact (hzi.lt gi rfl).1
                            rw [hql] at hci hzi
                            rw [HT2.out] at hck
                            have HRJ := Lib.hid (HRG.out j _ _ HAV HBV)
                            have hda := HNM.out i3 j hin3 hjw
                            have hdb := HNM.out k j hk hjw
                            obtain ⟨av, hav⟩ : ∃ av, atZ M i3 j = av := ⟨_, rfl⟩
                            obtain ⟨bv, hbv⟩ : ∃ bv, atZ M k j = bv := ⟨_, rfl⟩
                            rw [hav] at hia HRJ hda
                            rw [hbv] at hib HRJ hdb
                            have HM1 := Lib.hid (fun W (hx : Ext wr W) => intMul_any (.agg #[.bool sa, .slice aa la ca]) (.agg #[.bool sp, .slice ap lp cp]) av p W (hia.ext hx) (HBp.out.int.ext hx) (by omega) (by have := HPD.out; omega))
                            have HM2 := Lib.hid (fun W (hx : Ext wr W) => intMul_any (.agg #[.bool sf, .slice af lf cf']) (.agg #[.bool sb, .slice ab lb cb]) f bv W (HBf.out.int.ext hx) (hib.ext hx) (by have := HFD.out; omega) (by omega))
                            have hm1 := dig_len_mulI hda HPD.out
                            have hm2 := dig_len_mulI HFD.out hdb
                            have hm3 : (dig (av * p - f * bv).natAbs).length ≤ 200000001 := by
                              rw [Int.sub_eq_add_neg]
                              refine dig_len_addI (by omega) ?_
                              rw [Int.natAbs_neg]
                              omega
                            have HSU := Lib.hid (fun (u v : Value) W hu hv => intSub_any u v (av * p) (f * bv) W hu hv (by omega) (by omega))
                            have HEX := Lib.hid (fun (u : Value) W (hx : Ext wr W) hu => intExact_any u (.agg #[.bool s, .slice a l lc]) (av * p - f * bv) d W hu (HSm.out.int.ext hx) HD0.out (by omega))
                            generalize (av * p - f * bv).tdiv d = val at *
                            generalize av * p - f * bv = dv at *
                            generalize av * p = m1 at *
                            generalize f * bv = m2 at *
                            obtain ⟨q1, q2, q3, q4⟩ := HSm.out.cells
                            have p0 := HBp.out.c0
                            have p1 := HBp.out.c1
                            have f0 := HBf.out.c0
                            have f1 := HBf.out.c1
                            have HZI := Lib.hid hzi
                            have HRI := Lib.hid rowi
                            have HQL := Lib.hid hql
                            have hmk : k < (mixG M E i3).length := by rw [mixG_len HEN.out, HMN.out]; exact hk
                            have hgk : gk2 ≠ gi := fun e => HZm.out.ne (by rw [List.length_set]; exact hml) (by rw [List.length_set]; exact hmk) (by omega) hci hck e.symm
                            have hgo : go ≠ gi := fun e => hgio e.symm
                            have hn9 : T9 ≠ gi := by have := HBp.out.tK; omega
                            have hn11 : T11 ≠ gi := by have := HBf.out.tK; omega
                            have hng : g ≠ gi := by omega
                            have HSS : Hid (∀ WW, Ext wr WW → WW.cell? ⟨go, i3, none⟩ = some (.slice (some ⟨gi, 0, none⟩) wd ci) ∧ WW.cell? ⟨go, k, none⟩ = some (.slice (some ⟨gk2, 0, none⟩) wd ck2) ∧ WW.cell? ⟨T9, 0, none⟩ = some (.bool sp) ∧ WW.cell? ⟨T9, 1, none⟩ = some (.slice ap lp cp) ∧ WW.cell? ⟨T11, 0, none⟩ = some (.bool sf) ∧ WW.cell? ⟨T11, 1, none⟩ = some (.slice af lf cf') ∧ WW.cell? ⟨gk2, j * 2, none⟩ = some (.bool sb) ∧ WW.cell? ⟨gk2, j * 2 + 1, none⟩ = some (.slice ab lb cb) ∧ WW.cell? ⟨g, 2, none⟩ = some (.bool s) ∧ WW.cell? ⟨g, 3, none⟩ = some (.slice a l lc)) := fun W9 hx => ⟨hx.cell hci, hx.cell hck, hx.cell p0, hx.cell p1, hx.cell f0, hx.cell f1, hx.cell y0, hx.cell y1, hx.cell q2, hx.cell q3⟩
                            have HST : Hid (∀ W9 u1 u2, Ext wr W9 → ((W9.setCell ⟨gi, j * 2, none⟩ u1).setCell ⟨gi, j * 2 + 1, none⟩ u2).cell? ⟨go, i3, none⟩ = some (.slice (some ⟨gi, 0, none⟩) wd ci) ∧ ((W9.setCell ⟨gi, j * 2, none⟩ u1).setCell ⟨gi, j * 2 + 1, none⟩ u2).cell? ⟨go, k, none⟩ = some (.slice (some ⟨gk2, 0, none⟩) wd ck2) ∧ ((W9.setCell ⟨gi, j * 2, none⟩ u1).setCell ⟨gi, j * 2 + 1, none⟩ u2).cell? ⟨T9, 0, none⟩ = some (.bool sp) ∧ ((W9.setCell ⟨gi, j * 2, none⟩ u1).setCell ⟨gi, j * 2 + 1, none⟩ u2).cell? ⟨T9, 1, none⟩ = some (.slice ap lp cp) ∧ ((W9.setCell ⟨gi, j * 2, none⟩ u1).setCell ⟨gi, j * 2 + 1, none⟩ u2).cell? ⟨T11, 0, none⟩ = some (.bool sf) ∧ ((W9.setCell ⟨gi, j * 2, none⟩ u1).setCell ⟨gi, j * 2 + 1, none⟩ u2).cell? ⟨T11, 1, none⟩ = some (.slice af lf cf') ∧ ((W9.setCell ⟨gi, j * 2, none⟩ u1).setCell ⟨gi, j * 2 + 1, none⟩ u2).cell? ⟨gk2, j * 2, none⟩ = some (.bool sb) ∧ ((W9.setCell ⟨gi, j * 2, none⟩ u1).setCell ⟨gi, j * 2 + 1, none⟩ u2).cell? ⟨gk2, j * 2 + 1, none⟩ = some (.slice ab lb cb) ∧ ((W9.setCell ⟨gi, j * 2, none⟩ u1).setCell ⟨gi, j * 2 + 1, none⟩ u2).cell? ⟨g, 2, none⟩ = some (.bool s) ∧ ((W9.setCell ⟨gi, j * 2, none⟩ u1).setCell ⟨gi, j * 2 + 1, none⟩ u2).cell? ⟨g, 3, none⟩ = some (.slice a l lc)) := fun W9 u1 u2 hx => ⟨cell_two (hx.cell hci) hgo, cell_two (hx.cell hck) hgo, cell_two (hx.cell p0) hn9, cell_two (hx.cell p1) hn9, cell_two (hx.cell f0) hn11, cell_two (hx.cell f1) hn11, cell_two (hx.cell y0) hgk, cell_two (hx.cell y1) hgk, cell_two (hx.cell q2) hng, cell_two (hx.cell q3) hng⟩
                            clear hmk hgk hgo hn9 hn11 hng
                            clear hzi hzk rowi rowk hia hib HAV HBV hda hdb hm1 hm2 hm3 hav hbv hq1 hml hrl hql q1 q4
                            go_wp2_with fail
                            refine wp_region_noPanic ?_
                            refine wp_region_last (S := fun W9 => (W9.cell? ⟨go, i3, none⟩ = some (.slice (some ⟨gi, 0, none⟩) wd ci) ∧ W9.cell? ⟨go, k, none⟩ = some (.slice (some ⟨gk2, 0, none⟩) wd ck2) ∧ W9.cell? ⟨T9, 0, none⟩ = some (.bool sp) ∧ W9.cell? ⟨T9, 1, none⟩ = some (.slice ap lp cp) ∧ W9.cell? ⟨T11, 0, none⟩ = some (.bool sf) ∧ W9.cell? ⟨T11, 1, none⟩ = some (.slice af lf cf') ∧ W9.cell? ⟨gk2, j * 2, none⟩ = some (.bool sb) ∧ W9.cell? ⟨gk2, j * 2 + 1, none⟩ = some (.slice ab lb cb) ∧ W9.cell? ⟨g, 2, none⟩ = some (.bool s) ∧ W9.cell? ⟨g, 3, none⟩ = some (.slice a l lc)) ∧ W9.cell? ⟨gi, j * 2, none⟩ = some (.bool sa) ∧ W9.cell? ⟨gi, j * 2 + 1, none⟩ = some (.slice aa la ca)) 30 (by kernel_rfl) (by simp only [setLast, stand]; rfl) (by kernel_rfl) rfl (by kernel_rfl) (by kernel_rfl) (by kernel_rfl) rfl rfl ⟨HSS.out _ (Ext.refl _).drew, by simpa using z0, by simpa using z1⟩ (fun hH0 => ?_)
                            refine wpAnyH_take (i := 0) (v := ?v0b) rfl (by kernel_rfl) (by kernel_rfl) (by kernel_rfl) (fun _ _ _ h => h) (Or.inl ⟨by rfl, ?hy0b⟩) (by assumption) ?r0b
                            case hy0b => (intro w9 hSw; (try dsimp only at hSw); go_simp; try with_reducible rfl)
                            try simp only [Act.put, List.setIfInBounds_toArray]
                            refine wpAnyH_take (i := 1) (v := ?v1b) rfl (by kernel_rfl) (by kernel_rfl) (by kernel_rfl) (fun _ _ _ h => h) (Or.inl ⟨by rfl, ?hy1b⟩) (by assumption) ?r1b
                            case hy1b => (intro w9 hSw; (try dsimp only at hSw); go_simp; try with_reducible rfl)
                            try simp only [Act.put]
                            refine wpAnyH_take (i := 2) (v := ?v2b) rfl (by kernel_rfl) (by kernel_rfl) (by kernel_rfl) (fun _ _ _ h => h) (Or.inl ⟨by rfl, ?hy2b⟩) (by assumption) ?r2b
                            case hy2b => (intro w9 hSw; (try dsimp only at hSw); go_simp; try with_reducible rfl)
                            try simp only [Act.put]
                            refine wpAnyH_take (i := 3) (v := ?v3b) rfl (by kernel_rfl) (by kernel_rfl) (by kernel_rfl) (fun _ _ _ h => h) (Or.inl ⟨by rfl, ?hy3b⟩) (by assumption) ?r3b
                            case hy3b => (intro w9 hSw; (try dsimp only at hSw); go_simp; try with_reducible rfl)
                            try simp only [Act.put]
                            refine wpAnyH_take (i := 4) (v := ?v4b) rfl (by kernel_rfl) (by kernel_rfl) (by kernel_rfl) (fun _ _ _ h => h) (Or.inl ⟨by rfl, ?hy4b⟩) (by assumption) ?r4b
                            case hy4b => (intro w9 hSw; (try dsimp only at hSw); go_simp; try with_reducible rfl)
                            try simp only [Act.put]
                            refine wpAnyH_take (i := 5) (v := ?v5b) rfl (by kernel_rfl) (by kernel_rfl) (by kernel_rfl) (fun _ _ _ h => h) (Or.inl ⟨by rfl, ?hy5b⟩) (by assumption) ?r5b
                            case hy5b => (intro w9 hSw; (try dsimp only at hSw); go_simp; try with_reducible rfl)
                            try simp only [Act.put]
                            refine wpAnyH_take (i := 6) (v := ?v6b) rfl (by kernel_rfl) (by kernel_rfl) (by kernel_rfl) (fun _ _ _ h => h) (Or.inl ⟨by rfl, ?hy6b⟩) (by assumption) ?r6b
                            case hy6b => (intro w9 hSw; (try dsimp only at hSw); go_simp; try with_reducible rfl)
                            try simp only [Act.put]
                            refine wpAnyH_take (i := 7) (v := ?v7b) rfl (by kernel_rfl) (by kernel_rfl) (by kernel_rfl) (fun _ _ _ h => h) (Or.inl ⟨by rfl, ?hy7b⟩) (by assumption) ?r7b
                            case hy7b => (intro w9 hSw; (try dsimp only at hSw); go_simp; try with_reducible rfl)
                            try simp only [Act.put]
                            refine wpAnyH_take (i := 8) (v := ?v8b) rfl (by kernel_rfl) (by kernel_rfl) (by kernel_rfl) (fun _ _ _ h => h) (Or.inl ⟨by rfl, ?hy8b⟩) (by assumption) ?r8b
                            case hy8b => (intro w9 hSw; (try dsimp only at hSw); go_simp; try with_reducible rfl)
                            try simp only [Act.put]
                            refine wpAnyH_take (i := 9) (v := ?v9b) rfl (by kernel_rfl) (by kernel_rfl) (by kernel_rfl) (fun _ _ _ h => h) (Or.inl ⟨by rfl, ?hy9b⟩) (by assumption) ?r9b
                            case hy9b => (intro w9 hSw; (try dsimp only at hSw); go_simp; try with_reducible rfl)
                            try simp only [Act.put]
                            refine wpAnyH_take (i := 10) (v := ?v10b) rfl (by kernel_rfl) (by kernel_rfl) (by kernel_rfl) (fun _ _ _ h => h) (Or.inl ⟨by rfl, ?hy10b⟩) (by assumption) ?r10b
                            case hy10b => (intro w9 hSw; (try dsimp only at hSw); go_simp; try with_reducible rfl)
                            try simp only [Act.put]
                            refine wpAnyH_take (i := 11) (v := ?v11b) rfl (by kernel_rfl) (by kernel_rfl) (by kernel_rfl) (fun _ _ _ h => h) (Or.inl ⟨by rfl, ?hy11b⟩) (by assumption) ?r11b
                            case hy11b => (intro w9 hSw; (try dsimp only at hSw); go_simp; try with_reducible rfl)
                            try simp only [Act.put]
                            refine wpAnyH_take (i := 12) (v := ?v12b) rfl (by kernel_rfl) (by kernel_rfl) (by kernel_rfl) (fun _ _ _ h => h) (Or.inl ⟨by rfl, ?hy12b⟩) (by assumption) ?r12b
                            case hy12b => (intro w9 hSw; (try dsimp only at hSw); go_simp; try with_reducible rfl)
                            try simp only [Act.put]
                            refine wpAnyH_take (i := 14) (v := ?v14b) rfl (by kernel_rfl) (by kernel_rfl) (by kernel_rfl) (fun _ _ _ h => h) (Or.inl ⟨by rfl, ?hy14b⟩) (by assumption) ?r14b
                            case hy14b => (intro w9 hSw; (try dsimp only at hSw); go_simp; try with_reducible rfl)
                            try simp only [Act.put]
                            refine wpAnyH_take (i := 15) (v := ?v15b) rfl (by kernel_rfl) (by kernel_rfl) (by kernel_rfl) (fun _ _ _ h => h) (Or.inl ⟨by rfl, ?hy15b⟩) (by assumption) ?r15b
                            case hy15b => (intro w9 hSw; (try dsimp only at hSw); go_simp; try with_reducible rfl)
                            try simp only [Act.put]
                            refine wpAnyH_take (i := 16) (v := ?v16b) rfl (by kernel_rfl) (by kernel_rfl) (by kernel_rfl) (fun _ _ _ h => h) (Or.inl ⟨by rfl, ?hy16b⟩) (by assumption) ?r16b
                            case hy16b => (intro w9 hSw; (try dsimp only at hSw); go_simp; try with_reducible rfl)
                            try simp only [Act.put]
                            refine wpAnyH_take (i := 17) (v := ?v17b) rfl (by kernel_rfl) (by kernel_rfl) (by kernel_rfl) (fun _ _ _ h => h) (Or.inl ⟨by rfl, ?hy17b⟩) (by assumption) ?r17b
                            case hy17b => (intro w9 hSw; (try dsimp only at hSw); go_simp; try with_reducible rfl)
                            try simp only [Act.put]
                            refine wpAnyH_take (i := 18) (v := ?v18b) rfl (by kernel_rfl) (by kernel_rfl) (by kernel_rfl) (fun _ _ _ h => h) (Or.inl ⟨by rfl, ?hy18b⟩) (by assumption) ?r18b
                            case hy18b => (intro w9 hSw; (try dsimp only at hSw); go_simp; try with_reducible rfl)
                            try simp only [Act.put]
                            refine wpAnyH_take (i := 19) (v := ?v19b) rfl (by kernel_rfl) (by kernel_rfl) (by kernel_rfl) (fun _ _ _ h => h) (Or.inl ⟨by rfl, ?hy19b⟩) (by assumption) ?r19b
                            case hy19b => (intro w9 hSw; (try dsimp only at hSw); go_simp; try with_reducible rfl)
                            try simp only [Act.put]
                            refine wpAnyH_take (i := 20) (v := ?v20b) rfl (by kernel_rfl) (by kernel_rfl) (by kernel_rfl) (fun _ _ _ h => h) (Or.inl ⟨by rfl, ?hy20b⟩) (by assumption) ?r20b
                            case hy20b => (intro w9 hSw; (try dsimp only at hSw); go_simp; try with_reducible rfl)
                            try simp only [Act.put]
                            refine wpAnyH_take (i := 21) (v := ?v21b) rfl (by kernel_rfl) (by kernel_rfl) (by kernel_rfl) (fun _ _ _ h => h) (Or.inl ⟨by rfl, ?hy21b⟩) (by assumption) ?r21b
                            case hy21b => (intro w9 hSw; (try dsimp only at hSw); go_simp; try with_reducible rfl)
                            try simp only [Act.put]
                            refine wpAnyH_take (i := 24) (v := ?v24b) rfl (by kernel_rfl) (by kernel_rfl) (by kernel_rfl) (fun _ _ _ h => h) (Or.inl ⟨by rfl, ?hy24b⟩) (by assumption) ?r24b
                            case hy24b => (intro w9 hSw; (try dsimp only at hSw); go_simp; try with_reducible rfl)
                            try simp only [Act.put]
                            refine wpAnyH_take (i := 25) (v := ?v25b) rfl (by kernel_rfl) (by kernel_rfl) (by kernel_rfl) (fun _ _ _ h => h) (Or.inl ⟨by rfl, ?hy25b⟩) (by assumption) ?r25b
                            case hy25b => (intro w9 hSw; (try dsimp only at hSw); go_simp; try with_reducible rfl)
                            try simp only [Act.put]
                            refine wpAnyH_take (i := 26) (v := ?v26b) rfl (by kernel_rfl) (by kernel_rfl) (by kernel_rfl) (fun _ _ _ h => h) (Or.inl ⟨by rfl, ?hy26b⟩) (by assumption) ?r26b
                            case hy26b => (intro w9 hSw; (try dsimp only at hSw); go_simp; try with_reducible rfl)
                            try simp only [Act.put]
                            refine wpAnyH_take (i := 27) (v := ?v27b) rfl (by kernel_rfl) (by kernel_rfl) (by kernel_rfl) (fun _ _ _ h => h) (Or.inl ⟨by rfl, ?hy27b⟩) (by assumption) ?r27b
                            case hy27b => (intro w9 hSw; (try dsimp only at hSw); go_simp; try with_reducible rfl)
                            try simp only [Act.put]
                            refine wpAnyH_ready (rs := [13]) (by kernel_rfl) (by simp) ?_
                            refine AllReadyH.cons rfl (fun K9 hK => ?_) AllReadyH.nil
                            go_simp
                            go_at_call_of 59 (Value.agg #[.bool sa, .slice aa la ca]); refine (HM1.out _ (by first | exact (Ext.refl _).drew | exact XL)).mono ?_; rintro e wa5 ⟨r5, rfl, hr5, Y5⟩; have XL : Ext wr wa5 := (by first | exact (Ext.refl wr).drew.trans Y5 | exact XL.trans Y5); obtain ⟨sA, aA, lA, cA, rfl, _, _, _⟩ := hr5.opn; have HA5 := Lib.hid hr5; clear hr5; have z0 := Y5.cell z0; have z1 := Y5.cell z1
                            refine hK.out _ _ (by (try dsimp only); exact ⟨HSS.out _ XL, z0, z1⟩) (fun hH1 => ?_)
                            clear hK K9 hH0
                            try simp only [Act.put, List.setIfInBounds_toArray, List.set_cons_zero, List.set_cons_succ]
                            refine wpAnyH_ready (rs := [22]) (by kernel_rfl) (by simp) ?_
                            refine AllReadyH.cons rfl (fun K9 hK => ?_) AllReadyH.nil
                            go_simp
                            go_at_call_of 59 (Value.agg #[.bool sf, .slice af lf cf']); refine (HM2.out _ (by first | exact (Ext.refl _).drew | exact XL)).mono ?_; rintro e wb5 ⟨r6, rfl, hr6, Y6⟩; have XL : Ext wr wb5 := (by first | exact (Ext.refl wr).drew.trans Y6 | exact XL.trans Y6); obtain ⟨sB, aB, lB, cB, rfl, _, _, _⟩ := hr6.opn; have HA6 := Lib.hid hr6; clear hr6; have z0 := Y6.cell z0; have z1 := Y6.cell z1
                            refine hK.out _ _ (by (try dsimp only); exact ⟨HSS.out _ XL, z0, z1⟩) (fun hH2 => ?_)
                            clear hK K9 hH1
                            try simp only [Act.put, List.setIfInBounds_toArray, List.set_cons_zero, List.set_cons_succ]
                            refine wpAnyH_ready (rs := [23]) (by kernel_rfl) (by simp) ?_
                            refine AllReadyH.cons rfl (fun K9 hK => ?_) AllReadyH.nil
                            go_simp
                            go_at_call 61; refine (HSU.out _ _ _ (by first | exact HA5.out.ext Y6 | exact HA5.out) (by first | exact HA6.out | exact HA6.out.ext Y5)).mono ?_; rintro e wc5 ⟨r7, rfl, hr7, Y7⟩; have XL : Ext wr wc5 := XL.trans Y7; obtain ⟨sC, aC, lC, cC, rfl, _, _, _⟩ := hr7.opn; have HA7 := Lib.hid hr7; clear hr7; have z0 := Y7.cell z0; have z1 := Y7.cell z1
                            refine hK.out _ _ (by (try dsimp only); exact ⟨HSS.out _ XL, z0, z1⟩) (fun hH3 => ?_)
                            clear hK K9 hH2
                            try simp only [Act.put, List.setIfInBounds_toArray, List.set_cons_zero, List.set_cons_succ]
                            refine wpAnyH_ready (rs := [28]) (by kernel_rfl) (by simp) ?_
                            refine AllReadyH.cons rfl (fun K9 hK => ?_) AllReadyH.nil
                            go_simp
                            go_at_call 62; refine (HEX.out _ _ (by exact XL) (by exact HA7.out)).mono ?_; rintro e wd5 ⟨r8, rfl, hr8, Y8⟩; have Xd : Ext wr wd5 := XL.trans Y8; obtain ⟨sD, aD, lD, cD, rfl, _, _, _⟩ := hr8.opn; have HA8 := Lib.hid hr8; clear hr8; have z0 := Y8.cell z0; have z1 := Y8.cell z1; obtain ⟨x9, y9, hst, hput⟩ := (HZI.out.ext Xd).stored (i := j) (by rw [HQL.out]; exact hjw); have HPU := Lib.hid hput; clear hput; have g0 := hst.f0; have g1 := hst.c0; have g2 := hst.f1; have g3 := hst.c1; clear hst
                            refine hK.out _ _ (by (try dsimp only); exact ⟨HSS.out _ Xd, z0, z1⟩) (fun hH4 => ?_)
                            clear hK K9 hH3
                            try simp only [Act.put, List.setIfInBounds_toArray, List.set_cons_zero, List.set_cons_succ]
                            refine wpAnyH_take (i := 29) (v := ?v29b) rfl (by kernel_rfl) (by kernel_rfl) (by kernel_rfl) (fun _ _ _ h => h) (Or.inl ⟨by rfl, ?hy29b⟩) (by assumption) ?r29b
                            case hy29b => (intro w9 hSw; (try dsimp only at hSw); go_simp; try with_reducible rfl)
                            try simp only [Act.put, List.setIfInBounds_toArray]
                            refine wpAnyH_take (i := 30) (v := ?v30b) rfl (by kernel_rfl) (by kernel_rfl) (by kernel_rfl) (fun _ _ _ h => h) (Or.inl ⟨by rfl, ?hy30b⟩) (by assumption) ?r30b
                            case hy30b => (intro w9 hSw; (try dsimp only at hSw); go_simp; try with_reducible rfl)
                            try simp only [Act.put]
                            refine wpAnyH_done (by kernel_rfl) ?_ _
                            show Oper.wp _ _ _ _ _ _
                            go_simp
                            refine NoPanic.normal ?_
                            all_goals
                              obtain ⟨w7, h7, hgr, hO7⟩ := HPU.out _ _ _ _ _ HA8.out
                              rw [h7]
                              obtain ⟨hz7, hcl7, _, _⟩ := (HZm.out.ext Xd).put HRI.out (Xd.cell hci) (by rw [List.length_set]) hgr hO7
                              rw [List.set_set, mixG_set HRL.out HRJ.out] at hz7
                              have HZ7 := Lib.hid hz7
                              have HS7 := Lib.hid ((HSm.out.ext Xd).kept (x := gi) hcl7 rfl hgr hgiK)
                              have HP7 := Lib.hid ((HBp.out.ext Xd).kept (x := gi) hcl7 rfl hgr hgiK)
                              have HF7 := Lib.hid ((HBf.out.ext Xd).kept (x := gi) hcl7 rfl hgr hgiK)
                              have X7 := (Xm.trans Xd).grown hgr hgiB hcl7
                              clear hz7 hcl7 hgr hO7 h7 g0 g1 g2 g3 hci hck z0 z1 p0 p1 f0 f1 y0 y1 q2 q3
                              go_wp2_with fail
                              go_roundw
                              case rel => exact ⟨j + 1, by omega, by go_num, HZ7, HS7, HP7, HF7, X7⟩
                              case measure => simp [intOf] <;> omega
                          · have hjw2 : wd = j := by omega
                            have hge2 : (wd : Int) ≤ (j : Int) := by omega
                            have hz := HZm.out
                            rw [← hjw2, ← HU2.out, mixG_all HRL.out, mixG_set HEN.out HE1.out] at hz
                            have HZ7 := Lib.hid hz
                            clear hjw2 hz HZm hjw
                            go_wp2_with fail
                            go_roundw
                            case rel => exact ⟨i3 + 1, by omega, by go_num, HZ7, HSm, HBp, Xm⟩
                            case measure => simp [intOf] <;> omega
                    · have hin4 : n = i3 := by omega
                      have hge3 : (n : Int) ≤ (i3 : Int) := by omega
                      have hz := HZm.out
                      have hmx : mixG M E i3 = E := by rw [← hin4, ← HMN.out]; exact mixG_all HEN.out
                      rw [hmx] at hz
                      clear hmx
                      have HZE := Lib.hid hz
                      obtain ⟨q1, q2, q3, q4⟩ := HSm.out.cells
                      have p0 := HBm.out.c0
                      have p1 := HBm.out.c1
                      obtain ⟨l1, l2, l3, l4, l5⟩ := HSm.out.last HBm.out.int
                      obtain ⟨w8, hw8⟩ : ∃ w8, (wr.setCell ⟨g, 2, none⟩ (.bool sp)).setCell ⟨g, 3, none⟩ (.slice ap lp cp) = w8 := ⟨_, rfl⟩
                      rw [hw8] at l4 l5
                      have HZ8 := Lib.hid (HZE.out.kept HSm.out.cl l4 (Nat.le_refl _))
                      have HS8 := Lib.hid l5
                      have X8 := Xm.grown l4 (by rw [HBB.out]; exact hgB) HSm.out.cl
                      obtain ⟨v1', v2', v3', v4'⟩ := HS8.out.cells
                      have hsz8 : B ≤ w8.heap.size := by have := (HS8.out.blk.lt g rfl).2; omega
                      clear hz hin4 hin3 HZm HZE HBm Xm l5 l4
                      go_wp2_with (at_builtin; refine wp_app1c (s := .tmp 154) (x := .tmp 156) (x1 := .int .i64 (c : Int)) rfl rfl ei_ints zc_i HS8.out.pvo HS8.out.pcl rfl rfl rfl rfl (by intro d; simp [encD]) (by omega) (by omega) hsz8 ?_; intro v9 w9 hown9 hgrew9 hclean9; obtain ⟨po9, pc9, rfl⟩ := own_isSlice hown9; obtain ⟨o1, o2, o3, o4, o5⟩ := HS8.out.piv hown9 hgrew9 hclean9; have HZ9 := Lib.hid ((HZ8.out.keptV HS8.out.pcl hgrew9.by' (fun y hy => (HS8.out.pK y hy).1)).kept o4 o3 (Nat.le_refl _)); have HS9 := Lib.hid o5; have X9 := (X8.grew hgrew9 HS8.out.pcl (fun y hy => Nat.le_trans (by rw [HBB.out]; exact hgB) (HS8.out.pK y hy).1)).grown o3 (by rw [HBB.out]; exact hgB) o4; clear o3 o4 o5 hown9 hgrew9 hclean9)
                      go_roundw
                      case rel => exact ⟨c + 1, k + 1, _, E, p, neg, _, _, sp, ap, lp, cp, by omega, by go_num, HER, HZ9, HS9, X9⟩
                      case measure => simp [intOf] <;> omega
          · have hin3 : n = i := by omega
            have hin2 : ((i : Int) == (n : Int)) = true := by simp; omega
            have hge : (n : Int) ≤ (i : Int) := by omega
            have HSK := Lib.hid (HRD.out.skip hcw fun j h1 h2 => hzz j h1 (by omega))
            clear hzz hin3 hi
            go_wp2_with fail
            go_roundw
            case rel => exact ⟨c + 1, k, cf, M, d, neg, _, cs, s, a, l, lc, by omega, by go_num, HSK, HZ9, HS9, X9⟩
            case measure => simp [intOf] <;> omega
      · have hki : (n : Int) ≤ (k : Int) := by omega
        have hkn2 : k = n := by omega
        clear hk
        go_wp2_with fail
        go_ret
        exact ⟨g, rfl, M, k, cf, c, d, neg, po, pc, s, a, l, lc, HRD.out, hc, .inr hkn2, by rw [HBB.out]; exact HZK.out.toO, q1, q2, q3, HS.out.int, q4, X⟩
    · have hci : (width : Int) ≤ (c : Int) := by omega
      have hcw2 : c = width := by omega
      clear hlt
      go_wp2_with fail
      go_ret
      exact ⟨g, rfl, M, k, cf, c, d, neg, po, pc, s, a, l, lc, HRD.out, hc, .inl hcw2, by rw [HBB.out]; exact HZK.out.toO, q1, q2, q3, HS.out.int, q4, X⟩
end Go.Proofs.YtnfmknjhkpgppaaGreatDoor
