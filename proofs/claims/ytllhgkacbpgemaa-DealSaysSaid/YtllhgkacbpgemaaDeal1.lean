/- walks of the package deal: Seal -/
import Derived.Test.YtllhgkacbpgemaaSlC
import Derived.Test.YtllhgkacbpgemaaMk
namespace Go.Proofs.Ytllhgkacbpgemaa
open Go.RowKit

/-- one round of a seal -/
noncomputable def sealB (U z : Int) (k : Nat) : Int := IntKind.u64.wrap (bits BinOp.xor IntKind.u64 z (bits BinOp.and IntKind.u64 (U / 2 ^ (8 * k)) 255) * 1099511628211)
/-- the last rounds of a number -/
noncomputable def sealR (U : Int) : Nat → Int → Int
  | 0, z => z
  | r + 1, z => sealR U r (sealB U z (7 - r))
/-- the numbers of a list -/
noncomputable def sealL : List Int → Int → Int
  | [], z => z
  | x :: xs, z => sealL xs (sealR (IntKind.u64.wrap x) 8 z)
/-- the seal of draws and a secret number -/
noncomputable def sealF (xs : List Int) (s : Int) : Int := sealL (s :: (xs.length : Int) :: xs) 14695981039346656037

theorem sealR_step (U z : Int) (k : Nat) (hk : k < 8) : sealR U (8 - k) z = sealR U (8 - (k + 1)) (sealB U z k) := by
  obtain ⟨r, hr⟩ : ∃ r, 8 - k = r + 1 := ⟨7 - k, by omega⟩
  rw [hr, show 8 - (k + 1) = r from by omega, sealR, show 7 - r = k from by omega]

theorem wrap_u64_bd (x : Int) : 0 ≤ IntKind.u64.wrap x ∧ IntKind.u64.wrap x ≤ 18446744073709551615 := by
  rw [IntKind.wrap_u64]; omega

set_option maxHeartbeats 800000 in
set_option maxRecDepth 100000 in
theorem mul64_any (x y : Int) (w : World) :
    Calls Try.prog 60 #[.int .u64 x, .int .u64 y] w fun e w' => ∃ h, e = .returned (.tuple #[.int .u64 h, .int .u64 (IntKind.u64.wrap (x * y))]) ∧ w = w' := by
  go_enter Try.func60, Try.ntmps60
  go_wp2_with fail
  go_ret2
  exact ⟨_, rfl, rfl⟩

set_option maxHeartbeats 800000 in
set_option maxRecDepth 100000 in
theorem seal_any (v : Value) (xs : List Int) (s : Int) (w : World) (hv : Ints w v xs) (hl : xs.length + 2 ≤ 17592186044416) :
    Calls Try.prog 25 #[v, .int .i64 s] w fun e w' => e = .returned (.int .u64 (sealF xs s)) ∧ Ext w w' := by
  have HCC : ∀ W V, Rows (Value.int .i64) W V [[s, (xs.length : Int)], xs] → Calls Try.prog 59 #[V] W fun e w' => ∃ u, e = .returned u ∧ w'.ownsRow W.heap.size 3 1 u (xs.length + 2) ((s :: (xs.length : Int) :: xs).map (Value.int .i64)) ∧ Ext W w' := fun W V hV => by
    have h := concat_ints V [[s, xs.length], xs] W hV (by simp [lsum]; omega)
    rw [show lsum [[s, (xs.length : Int)], xs] = xs.length + 2 from by simp [lsum]; omega, show [[s, (xs.length : Int)], xs].flatten = s :: (xs.length : Int) :: xs from by simp] at h
    exact h
  have HCC := Lib.hid HCC
  have HV := Lib.hid hv
  obtain ⟨ao, c, rfl, hlen, hc⟩ := hv.open
  clear hv hc
  obtain ⟨Q, hQ⟩ : ∃ Q, Hid (sealF xs s = Q) := ⟨_, rfl⟩
  rw [hQ.out]
  obtain ⟨L, hL⟩ : ∃ L, Hid (s :: (xs.length : Int) :: xs = L) := ⟨_, rfl⟩
  have hLl : L.length = xs.length + 2 := by rw [← hL.out]; rfl
  have HLl := Lib.hid hLl; clear hLl
  go_enter Try.func25, Try.ntmps25
  go_wp2_with fail
  refine (HCC.out _ _ ?_).mono ?_
  · exact rows_lit [_, _] [_, _] _ (by simp) (by simp) rfl (fun i u ys h1 h2 => by
      match i, h1, h2 with
      | 0, h1, h2 => simp at h1 h2; subst h1; subst h2; exact lit_ints_at w _ [s, (xs.length : Int)] (by simp) _ rfl
      | 1, h1, h2 => simp at h1 h2; subst h1; subst h2; exact HV.out.ext ((Ext.refl w).alloc _))
  rintro e w' ⟨u, rfl, hO, hX⟩
  obtain ⟨g, cap, rfl, hg1, hg2⟩ := own_open hO (by omega)
  rw [hL.out] at hO
  have HX0 : Ext w w' := (((Ext.refl w).alloc _).alloc _).trans hX
  have HO := Lib.hid hO
  clear hO hX hg1
  go_wp2_with fail
  go_loopw [5, 17] (fun zz i wr => ∃ (z : Int) (k : Nat), zz = .int .u64 z ∧ i = .int .i64 k ∧ k ≤ xs.length + 2 ∧ wr = w' ∧ Hid (sealL (L.drop k) z = Q)) (fun _ i _ => xs.length + 2 - (intOf i).toNat)
  case atStart => exact ⟨_, 0, rfl, rfl, Nat.zero_le _, rfl, by rw [← hQ.out, ← hL.out]; rfl⟩
  case round =>
    obtain ⟨z, k, rfl, rfl, hk, rfl, HI⟩ := hrel
    by_cases hlt : k < xs.length + 2
    · obtain ⟨x, h1, h2, _⟩ := get_lt (xs := L) (k := k) (by rw [HLl.out]; exact hlt)
      have hcell := own_cell HO.out (j := k) (x := .int .i64 x) (by simp [Hid, h1.out])
      have HI2 := HI.out
      rw [h2.out, sealL] at HI2
      have HI2 := Lib.hid HI2
      go_wp2_with fail
      obtain ⟨wo, hwo⟩ : ∃ wo : World, wo = wr := ⟨_, rfl⟩
      go_loopw [5, 21] (fun zz i wn => ∃ (z2 : Int) (k2 : Nat), zz = .int .u64 z2 ∧ i = .int .i64 k2 ∧ k2 ≤ 8 ∧ wn = wr ∧ Hid (sealR (IntKind.u64.wrap x) (8 - k2) z2 = sealR (IntKind.u64.wrap x) 8 z)) (fun _ i _ => 8 - (intOf i).toNat)
      case atStart => exact ⟨z, 0, rfl, rfl, by omega, rfl, rfl⟩
      case round =>
        obtain ⟨z2, k2, rfl, rfl, hk2, rfl, HJ⟩ := hrel
        by_cases hlt3 : k2 < 8
        · go_wp2_with fail
          go_roundw
          case rel => exact ⟨sealB (IntKind.u64.wrap x) z2 k2, k2 + 1, rfl, by go_num, by omega, trivial, by rw [← HJ.out, sealR_step (IntKind.u64.wrap x) z2 k2 hlt3]; rfl⟩
          case measure => simp [intOf]; omega
        · go_wp2_with fail
          go_roundw
          case rel => exact ⟨z2, k + 1, rfl, by go_num, by omega, trivial, by rw [← HI2.out, ← HJ.out, show 8 - k2 = 0 from by omega]; rfl⟩
          case measure => simp [intOf]; omega
    · obtain ⟨h1, _⟩ := get_ge (xs := L) (k := k) (by rw [HLl.out]; exact hlt)
      go_wp2_with fail
      go_ret
      exact ⟨by rw [← HI.out, h1.out]; rfl, HX0⟩

set_option maxHeartbeats 800000 in
set_option maxRecDepth 100000 in
theorem sealOf_any (v : Value) (xs : List Int) (s : Int) (w : World) (hv : Ints w v xs) (hl : xs.length + 2 ≤ 17592186044416) :
    Calls Try.prog 26 #[v, .int .i64 s] w fun e w' => e = .returned (.int .u64 (sealF xs s)) ∧ Ext w w' := by
  have hsrc := Lib.hid (hv.src (fun _ => rfl))
  obtain ⟨ao, c, rfl, hlen, hc⟩ := hv.open
  clear hv hc
  obtain ⟨Q, hQ⟩ : ∃ Q, Hid (sealF xs s = Q) := ⟨_, rfl⟩
  rw [hQ.out]
  obtain ⟨L, hL⟩ : ∃ L, Hid (s :: (xs.length : Int) :: xs = L) := ⟨_, rfl⟩
  have hLl : L.length = xs.length + 2 := by rw [← hL.out]; rfl
  have HLl := Lib.hid hLl; clear hLl
  have hown0 := Lib.hid (World.ownsRow_lit (base := w.heap.size) (e := 3) (size := 1) w #[.int .i64 s, .int .i64 (xs.length : Int)] 2 (Nat.le_refl _) (by decide) (by simp))
  have hsrc2 := Lib.hid (hsrc.out.ext ((Ext.refl w).alloc (.cells #[.int .i64 s, .int .i64 (xs.length : Int)] 3)))
  have HX1 : Ext w (w.alloc (.cells #[.int .i64 s, .int .i64 (xs.length : Int)] 3)) := (Ext.refl w).alloc _
  have hl2 : 2 + xs.length ≤ 17592186044416 := by omega
  go_enter Try.func26, Try.ntmps26
  go_wp2_with (at_builtin; refine wp_app rfl rfl ei_ints rfl hown0.out rfl hsrc2.out (by omega) (by omega) (by simp) ?_; intro v' w' hown hgrew; obtain ⟨g, cap, rfl, hg1, hg2⟩ := own_open hown (by omega); have HX0 : Ext w w' := hgrew.extNew HX1 hown0.out (Nat.le_refl _); replace hown := own_cast hown (by show _ = L.map (Value.int .i64); rw [← hL.out]; rfl) rfl; clear hgrew hg1 hg2; generalize hN : 2 + xs.length = N at hown hl2 ⊢; have HN := Lib.hid hN; clear hN; have HO := Lib.hid hown; clear hown)
  go_loopw [5, 17] (fun zz i wr => ∃ (z : Int) (k : Nat), zz = .int .u64 z ∧ i = .int .i64 k ∧ k ≤ N ∧ wr = w' ∧ Hid (sealL (L.drop k) z = Q)) (fun _ i _ => N - (intOf i).toNat)
  case atStart => exact ⟨_, 0, rfl, rfl, Nat.zero_le _, rfl, by rw [← hQ.out, ← hL.out]; rfl⟩
  case round =>
    obtain ⟨z, k, rfl, rfl, hk, rfl, HI⟩ := hrel
    by_cases hlt : k < N
    · obtain ⟨x, h1, h2, _⟩ := get_lt (xs := L) (k := k) (by rw [HLl.out, Nat.add_comm, HN.out]; exact hlt)
      have hcell := own_cell HO.out (j := k) (x := .int .i64 x) (by simp [Hid, h1.out])
      have HI2 := HI.out
      rw [h2.out, sealL] at HI2
      have HI2 := Lib.hid HI2
      go_wp2_with fail
      obtain ⟨wo, hwo⟩ : ∃ wo : World, wo = wr := ⟨_, rfl⟩
      go_loopw [5, 23] (fun zz i wn => ∃ (z2 : Int) (k2 : Nat), zz = .int .u64 z2 ∧ i = .int .i64 k2 ∧ k2 ≤ 8 ∧ wn = wr ∧ Hid (sealR (IntKind.u64.wrap x) (8 - k2) z2 = sealR (IntKind.u64.wrap x) 8 z)) (fun _ i _ => 8 - (intOf i).toNat)
      case atStart => exact ⟨z, 0, rfl, rfl, by omega, rfl, rfl⟩
      case round =>
        obtain ⟨z2, k2, rfl, rfl, hk2, rfl, HJ⟩ := hrel
        by_cases hlt3 : k2 < 8
        · go_wp2_with fail
          refine (mul64_any _ _ _).mono ?_
          rintro e w' ⟨hh, rfl, rfl⟩
          go_wp2_with fail
          go_roundw
          case rel => exact ⟨sealB (IntKind.u64.wrap x) z2 k2, k2 + 1, rfl, by go_num, by omega, trivial, by rw [← HJ.out, sealR_step (IntKind.u64.wrap x) z2 k2 hlt3]; rfl⟩
          case measure => simp [intOf]; omega
        · go_wp2_with fail
          go_roundw
          case rel => exact ⟨z2, k + 1, rfl, by go_num, by omega, trivial, by rw [← HI2.out, ← HJ.out, show 8 - k2 = 0 from by omega]; rfl⟩
          case measure => simp [intOf]; omega
    · obtain ⟨h1, _⟩ := get_ge (xs := L) (k := k) (by rw [HLl.out, Nat.add_comm, HN.out]; exact hlt)
      go_wp2_with fail
      go_ret
      exact ⟨by rw [← HI.out, h1.out]; rfl, HX0⟩
end Go.Proofs.Ytllhgkacbpgemaa
