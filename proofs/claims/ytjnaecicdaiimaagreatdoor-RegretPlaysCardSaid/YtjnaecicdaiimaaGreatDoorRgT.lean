/- the closures of the law RegretPlays -/
import Derived.Test.YtjnaecicdaiimaaGreatDoorRgS
namespace Go.Proofs.YtjnaecicdaiimaaGreatDoor
open Go.RowKit
set_option linter.unusedVariables false

/-- what the closures read: the boxes of l, t and m; l's cells; m's rows and numbers -/
structure PlayC (w : World) (bl bt bm b2 o2 b0 o0 d nr nc c t : Nat) (m : List (List ByteArray)) (ps : List (Int × Int)) : Prop where
  kl : w.cell? ⟨bl, 0, none⟩ = some (.slice (some ⟨b2, o2, none⟩) ps.length d)
  kt : w.cell? ⟨bt, 0, none⟩ = some (.int .i64 (t : Int))
  km : w.cell? ⟨bm, 0, none⟩ = some (.slice (some ⟨b0, o0, none⟩) nr c)
  tl : t ≤ ps.length
  ld : ps.length ≤ d
  lm : ps.length ≤ 200
  pc : ∀ (j : Nat) p, ps[j]? = some p → w.cell? ⟨b2, o2 + j * 2, none⟩ = some (.int .i64 p.1) ∧ w.cell? ⟨b2, o2 + j * 2 + 1, none⟩ = some (.int .i64 p.2)
  pb : ∀ p ∈ ps, ∃ x y : Nat, p = ((x : Int), (y : Int)) ∧ x < nr ∧ y < nc
  mc : ∀ (x y : Nat), x < nr → y < nc → ∃ bb ob cx lx sx, m[x]? = some lx ∧ lx[y]? = some sx ∧ w.cell? ⟨b0, o0 + x, none⟩ = some (.slice (some ⟨bb, ob, none⟩) lx.length cx) ∧ w.cell? ⟨bb, ob + y, none⟩ = some (.string sx)
  rb : ∀ l ∈ m, ∀ s ∈ l, RB 12 (ratOf s)
  tx : ∀ l ∈ m, ∀ s ∈ l, ratT (ratOf s) = s
theorem PlayC.ext {w w' : World} {bl bt bm b2 o2 b0 o0 d nr nc c t : Nat} {m : List (List ByteArray)} {ps : List (Int × Int)} (h : PlayC w bl bt bm b2 o2 b0 o0 d nr nc c t m ps) (hx : Ext w w') : PlayC w' bl bt bm b2 o2 b0 o0 d nr nc c t m ps := by
  refine ⟨hx.cell h.kl, hx.cell h.kt, hx.cell h.km, h.tl, h.ld, h.lm, fun j p hj => ⟨hx.cell (h.pc j p hj).1, hx.cell (h.pc j p hj).2⟩, h.pb, fun x y hx1 hy => ?_, h.rb, h.tx⟩
  obtain ⟨bb, ob, cx, lx, sx, g1, g2, g3, g4⟩ := h.mc x y hx1 hy
  exact ⟨bb, ob, cx, lx, sx, g1, g2, hx.cell g3, hx.cell g4⟩
theorem PlayC.num {w : World} {bl bt bm b2 o2 b0 o0 d nr nc c t : Nat} {m : List (List ByteArray)} {ps : List (Int × Int)} (h : PlayC w bl bt bm b2 o2 b0 o0 d nr nc c t m ps) {x y : Nat} {lx : List ByteArray} {sx : ByteArray} (h1 : m[x]? = some lx) (h2 : lx[y]? = some sx) (acc : Rat) (k : Nat) (hk : k ≤ 10000) (ha : RB k acc) (W : World) :
    Calls Tryz.prog 15 #[.string (ratT acc), .string sx] W (fun e w' => e = .returned (.string (ratT (acc + ratOf sx))) ∧ Ext W w') ∧ RB (k + 13) (acc + ratOf sx) := by
  have hm := List.mem_of_getElem? h1
  have hs := List.mem_of_getElem? h2
  have := rAdd_any (k := k) (m := 12) (by omega) ha (h.rb lx hm sx hs) W
  rw [h.tx lx hm sx hs] at this
  exact ⟨this, (RB_add ha (h.rb lx hm sx hs)).mono (by omega)⟩
theorem sumP_take_RB {w : World} {bl bt bm b2 o2 b0 o0 d nr nc c t : Nat} {m : List (List ByteArray)} {ps : List (Int × Int)} (h : PlayC w bl bt bm b2 o2 b0 o0 d nr nc c t m ps) (f : Int × Int → Rat) (hf : ∀ p ∈ ps, RB 12 (f p)) (j : Nat) : RB 4000 (sumP f (ps.take j) 0) := by
  have h1 := sumP_RB (k := 12) (f := f) (ps.take j) 0 1 RB_zero fun p hp => hf p (List.mem_of_mem_take hp)
  have h2 : (ps.take j).length ≤ 200 := by rw [List.length_take]; have := h.lm; omega
  exact h1.mono (by omega)
theorem PlayC.fR {w : World} {bl bt bm b2 o2 b0 o0 d nr nc c t : Nat} {m : List (List ByteArray)} {ps : List (Int × Int)} (h : PlayC w bl bt bm b2 o2 b0 o0 d nr nc c t m ps) {i : Nat} (hi : i < nr) : ∀ p ∈ ps, RB 12 (fR (numM m) i p) := fun p hp => by
  obtain ⟨x, y, rfl, hx, hy⟩ := h.pb p hp
  obtain ⟨bb, ob, cx, lx, sx, g1, g2, g3, g4⟩ := h.mc i y hi hy
  show RB 12 (((numM m).getD i []).getD y 0)
  rw [numM_at g1 g2]
  exact h.rb lx (List.mem_of_getElem? g1) sx (List.mem_of_getElem? g2)
theorem PlayC.fC {w : World} {bl bt bm b2 o2 b0 o0 d nr nc c t : Nat} {m : List (List ByteArray)} {ps : List (Int × Int)} (h : PlayC w bl bt bm b2 o2 b0 o0 d nr nc c t m ps) {i : Nat} (hi : i < nc) : ∀ p ∈ ps, RB 12 (fC (numM m) i p) := fun p hp => by
  obtain ⟨x, y, rfl, hx, hy⟩ := h.pb p hp
  obtain ⟨bb, ob, cx, lx, sx, g1, g2, g3, g4⟩ := h.mc x i hx hi
  show RB 12 (((numM m).getD x []).getD i 0)
  rw [numM_at g1 g2]
  exact h.rb lx (List.mem_of_getElem? g1) sx (List.mem_of_getElem? g2)

set_option maxHeartbeats 3200000 in
set_option maxRecDepth 100000 in
theorem play1_any {w : World} {bl bt bm b2 o2 b0 o0 d nr nc c t : Nat} {m : List (List ByteArray)} {ps : List (Int × Int)} (h : PlayC w bl bt bm b2 o2 b0 o0 d nr nc c t m ps) (i : Nat) (hi : i < nr) :
    Calls Tryz.prog 14 #[.int .i64 (i : Int), .pointer (some ⟨bl, 0, none⟩), .pointer (some ⟨bt, 0, none⟩), .pointer (some ⟨bm, 0, none⟩)] w fun e w' => e = .returned (.string (ratT (sumP (fR (numM m) i) (ps.take t) 0))) ∧ Ext w w' := by
  have HP := Lib.hid h
  have kl := h.kl
  have kt := h.kt
  have km := h.km
  have htd : (t : Int) ≤ (d : Int) := by have := h.tl; have := h.ld; omega
  have htn : t ≤ ps.length := h.tl
  have ht2 : (t : Int) ≤ 200 := by have := h.lm; omega
  obtain ⟨F, hF⟩ : ∃ F, fR (numM m) i = F := ⟨_, rfl⟩
  have HF : Hid (∀ p ∈ ps, RB 12 (F p)) := by rw [← hF]; exact h.fR hi
  have HFD : Hid (∀ (x y : Nat) l s, m[i]? = some l → l[y]? = some s → F ((x : Int), (y : Int)) = ratOf s) := fun x y l s g1 g2 => by
    rw [← hF]
    exact numM_at g1 g2
  rw [hF]
  obtain ⟨wo, rfl⟩ : ∃ wo : World, wo = w := ⟨_, rfl⟩
  clear h hF
  go_enter Tryz.func14, Tryz.ntmps14
  go_wp2_with fail
  go_loopw [6, 13] (fun sv jv wr => ∃ (j : Nat), j ≤ t ∧ jv = .int .i64 j ∧ sv = .string (ratT (sumP F (ps.take j) 0)) ∧ Ext wo wr) (fun _ jv _ => t - (intOf jv).toNat)
  case atStart => exact ⟨0, Nat.zero_le _, rfl, by rw [List.take_zero, sumP_nil, ratT_zero], Ext.refl _⟩
  case round =>
    clear kl kt km
    obtain ⟨j, hj, rfl, rfl, X⟩ := hrel
    by_cases hlt : j < t
    · obtain ⟨p, d1, _, d3⟩ := get_lt (xs := ps) (k := j) (by omega)
      have HPW := HP.out.ext X
      obtain ⟨q0, q1⟩ := HPW.pc j p d1.out
      obtain ⟨x, y, rfl, hx, hy⟩ := HPW.pb p (List.mem_of_getElem? d1.out)
      dsimp only at q0 q1
      obtain ⟨bb, ob, cx, lx, sx, g1, g2, hcx, hlx⟩ := HPW.mc i y hi hy
      have hf := HFD.out x y lx sx g1 g2
      have hby : (y : Int) < (lx.length : Int) := by have := (List.getElem?_eq_some_iff.1 g2).1; omega
      have hbx : (i : Int) < (nr : Int) := by omega
      have km := HPW.km
      have hRB := sumP_take_RB HPW F HF.out j
      have HAD := Lib.hid (fun W => (HPW.num g1 g2 (sumP F (ps.take j) 0) 4000 (by omega) hRB W).1)
      have HTK : Hid (sumP F (ps.take (j + 1)) 0 = sumP F (ps.take j) 0 + ratOf sx) := by show _ = _; rw [d3.out, sumP_snoc, hf]
      have hkj : (j : Int) < (t : Int) := by omega
      generalize sumP F (ps.take j) 0 = acc at *
      obtain ⟨T7, hT7⟩ : ∃ T7, wr.heap.size = T7 := ⟨_, rfl⟩
      obtain ⟨W3, hW3⟩ : ∃ W3, wr.alloc (.cells #[.int .i64 (x : Int), .int .i64 (y : Int)] 32) = W3 := ⟨_, rfl⟩
      have XL : Ext wr W3 := by rw [← hW3]; exact (Ext.refl wr).alloc _
      have p1 : W3.cell? ⟨T7, 0, none⟩ = some (.int .i64 (x : Int)) := by rw [← hW3, ← hT7]; simp [go_sem]
      have p2 : W3.cell? ⟨T7, 1, none⟩ = some (.int .i64 (y : Int)) := by rw [← hW3, ← hT7]; simp [go_sem]
      have r0 := XL.cell hcx
      have r1 := XL.cell hlx
      have r2 := XL.cell km
      have X3 := X.trans XL
      clear hf hcx hlx km XL hRB HPW g1 g2 d1 d3 hlt
      go_wp2_with fail
      clear hT7 hW3 q0 q1
      go_region_held3 (fun w' => w'.cell? ⟨T7, 0, none⟩ = some (.int .i64 (x : Int)) ∧ w'.cell? ⟨T7, 1, none⟩ = some (.int .i64 (y : Int)) ∧ w'.cell? ⟨b0, o0 + i, none⟩ = some (.slice (some ⟨bb, ob, none⟩) lx.length cx) ∧ w'.cell? ⟨bb, ob + y, none⟩ = some (.string sx) ∧ w'.cell? ⟨bm, 0, none⟩ = some (.slice (some ⟨b0, o0, none⟩) nr c))
        (first | exact ⟨p1, p2, r0, r1, r2⟩ | exact ⟨Xa.cell p1, Xa.cell p2, Xa.cell r0, Xa.cell r1, Xa.cell r2⟩ | go_keep)
        (first
          | (go_at_call 15; refine (HAD.out _).mono ?_; rintro e wa ⟨rfl, Ya⟩; have Xa : Ext W3 wa := (Ext.refl W3).drew.trans Ya))
      all_goals
        have XN := X3.trans Xa
        clear p1 p2 r0 r1 r2
        go_wp2_with fail
        go_roundw
        case rel => exact ⟨j + 1, by omega, by go_num, by rw [HTK.out], XN⟩
        case measure => simp [intOf] <;> omega
    · have hjt : t = j := by omega
      subst hjt
      go_wp2_with fail
      go_ret
      exact ⟨rfl, X⟩

set_option maxHeartbeats 3200000 in
set_option maxRecDepth 100000 in
theorem play2_any {w : World} {bl bt bm b2 o2 b0 o0 d nr nc c t : Nat} {m : List (List ByteArray)} {ps : List (Int × Int)} (h : PlayC w bl bt bm b2 o2 b0 o0 d nr nc c t m ps) (i : Nat) (hi : i < nc) :
    Calls Tryz.prog 16 #[.int .i64 (i : Int), .pointer (some ⟨bl, 0, none⟩), .pointer (some ⟨bt, 0, none⟩), .pointer (some ⟨bm, 0, none⟩)] w fun e w' => e = .returned (.string (ratT (sumP (fC (numM m) i) (ps.take t) 0))) ∧ Ext w w' := by
  have HP := Lib.hid h
  have kl := h.kl
  have kt := h.kt
  have km := h.km
  have htd : (t : Int) ≤ (d : Int) := by have := h.tl; have := h.ld; omega
  have htn : t ≤ ps.length := h.tl
  have ht2 : (t : Int) ≤ 200 := by have := h.lm; omega
  obtain ⟨F, hF⟩ : ∃ F, fC (numM m) i = F := ⟨_, rfl⟩
  have HF : Hid (∀ p ∈ ps, RB 12 (F p)) := by rw [← hF]; exact h.fC hi
  have HFD : Hid (∀ (x y : Nat) l s, m[x]? = some l → l[i]? = some s → F ((x : Int), (y : Int)) = ratOf s) := fun x y l s g1 g2 => by
    rw [← hF]
    exact numM_at g1 g2
  rw [hF]
  obtain ⟨wo, rfl⟩ : ∃ wo : World, wo = w := ⟨_, rfl⟩
  clear h hF
  go_enter Tryz.func16, Tryz.ntmps16
  go_wp2_with fail
  go_loopw [6, 13] (fun sv jv wr => ∃ (j : Nat), j ≤ t ∧ jv = .int .i64 j ∧ sv = .string (ratT (sumP F (ps.take j) 0)) ∧ Ext wo wr) (fun _ jv _ => t - (intOf jv).toNat)
  case atStart => exact ⟨0, Nat.zero_le _, rfl, by rw [List.take_zero, sumP_nil, ratT_zero], Ext.refl _⟩
  case round =>
    clear kl kt km
    obtain ⟨j, hj, rfl, rfl, X⟩ := hrel
    by_cases hlt : j < t
    · obtain ⟨p, d1, _, d3⟩ := get_lt (xs := ps) (k := j) (by omega)
      have HPW := HP.out.ext X
      obtain ⟨q0, q1⟩ := HPW.pc j p d1.out
      obtain ⟨x, y, rfl, hx, hy⟩ := HPW.pb p (List.mem_of_getElem? d1.out)
      dsimp only at q0 q1
      obtain ⟨bb, ob, cx, lx, sx, g1, g2, hcx, hlx⟩ := HPW.mc x i hx hi
      have hf := HFD.out x y lx sx g1 g2
      have hby : (i : Int) < (lx.length : Int) := by have := (List.getElem?_eq_some_iff.1 g2).1; omega
      have hbx : (x : Int) < (nr : Int) := by omega
      have km := HPW.km
      have hRB := sumP_take_RB HPW F HF.out j
      have HAD := Lib.hid (fun W => (HPW.num g1 g2 (sumP F (ps.take j) 0) 4000 (by omega) hRB W).1)
      have HTK : Hid (sumP F (ps.take (j + 1)) 0 = sumP F (ps.take j) 0 + ratOf sx) := by show _ = _; rw [d3.out, sumP_snoc, hf]
      have hkj : (j : Int) < (t : Int) := by omega
      generalize sumP F (ps.take j) 0 = acc at *
      obtain ⟨T7, hT7⟩ : ∃ T7, wr.heap.size = T7 := ⟨_, rfl⟩
      obtain ⟨W3, hW3⟩ : ∃ W3, wr.alloc (.cells #[.int .i64 (x : Int), .int .i64 (y : Int)] 32) = W3 := ⟨_, rfl⟩
      have XL : Ext wr W3 := by rw [← hW3]; exact (Ext.refl wr).alloc _
      have p1 : W3.cell? ⟨T7, 0, none⟩ = some (.int .i64 (x : Int)) := by rw [← hW3, ← hT7]; simp [go_sem]
      have p2 : W3.cell? ⟨T7, 1, none⟩ = some (.int .i64 (y : Int)) := by rw [← hW3, ← hT7]; simp [go_sem]
      have r0 := XL.cell hcx
      have r1 := XL.cell hlx
      have r2 := XL.cell km
      have X3 := X.trans XL
      clear hf hcx hlx km XL hRB HPW g1 g2 d1 d3 hlt
      go_wp2_with fail
      clear hT7 hW3 q0 q1
      refine (HAD.out _).mono ?_
      rintro e wa ⟨rfl, Ya⟩
      have Xa : Ext W3 wa := Ya
      all_goals
        have XN := X3.trans Xa
        clear p1 p2 r0 r1 r2
        go_wp2_with fail
        go_roundw
        case rel => exact ⟨j + 1, by omega, by go_num, by rw [HTK.out], XN⟩
        case measure => simp [intOf] <;> omega
    · have hjt : t = j := by omega
      subst hjt
      go_wp2_with fail
      go_ret
      exact ⟨rfl, X⟩
end Go.Proofs.YtjnaecicdaiimaaGreatDoor
