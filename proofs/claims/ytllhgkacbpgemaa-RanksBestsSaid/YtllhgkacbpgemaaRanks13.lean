/- the walk of Best's closure, all of it; Best -/
import Derived.Test.YtllhgkacbpgemaaRanks12
import Derived.Test.YtllhgkacbpgemaaStepApp
namespace Go.Proofs.Ytllhgkacbpgemaa
open Go.RowKit
set_option linter.unusedVariables false

theorem snoc_lt {pl : List Nat} {a j : Nat} (h : ∀ p ∈ pl, p < a) (haj : a ≤ j) : ∀ p ∈ pl ++ [j], p < j + 1 := by
  intro p hp
  rcases List.mem_append.1 hp with hp | hp
  · have := h p hp; omega
  · simp at hp; omega
theorem snoc_nd {pl : List Nat} {a j : Nat} (h : ∀ p ∈ pl, p < a) (haj : a ≤ j) (hn : pl.Nodup) : (pl ++ [j]).Nodup := by
  rw [List.nodup_append]
  refine ⟨hn, by simp, fun x hx y hy => ?_⟩
  have := h x hx
  simp at hy; omega

theorem own_snoc {W : World} {v : Value} {n B B' j : Nat} {pl : List Nat} (h : W.ownsRow B' 3 1 v (n + 1) (pl.map encN ++ [.int .i64 (j : Int)])) (hn : pl.length = n) (hB : B ≤ B') : W.ownsRow B 3 1 v (pl ++ [j]).length ((pl ++ [j]).map encN) := by
  have e1 : (pl ++ [j]).length = n + 1 := by simp [hn]
  have e2 : (pl ++ [j]).map encN = pl.map encN ++ [.int .i64 (j : Int)] := by simp
  rw [e1, e2]
  exact own_mono h hB

set_option maxHeartbeats 6400000 in
set_option maxRecDepth 100000 in
theorem walk_any (w0 : World) (bl bb bm bw B : Nat) (lv : Value) (l : List Int) (C : BestCtx w0 bl bb bm bw B lv l) : ∀ (k a : Nat) (ai : Int) (pl : List Nat) (pv : Value) (W : World) (st : List Nat × Int), a + k = l.length → Hid (ai = (a : Int)) →
    (∀ p ∈ pl, p < a) → pl.Nodup → pl.length ≤ 5 → W.ownsRow B 3 1 pv pl.length (pl.map encN) → StB w0 W bl bb bm bw B lv st →
    Calls Try.prog 71 #[.int .i64 ai, pv, .pointer (some ⟨bl, 0, none⟩), .pointer (some ⟨bm, 0, none⟩), .pointer (some ⟨bb, 0, none⟩), .pointer (some ⟨bw, 0, none⟩)] W fun e W' =>
      e = .returned (.tuple #[]) ∧ StB w0 W' bl bb bm bw B lv (walkF l k a pl st) ∧ Ext2 bm bb W W' := by
  intro k
  induction k using Nat.strongRecOn with
  | ind k ih =>
  intro a ai pl pv W st hak hai hpa hpn hp5 hO hS
  by_cases h5 : pl.length = 5
  · have h := walk5_any w0 bl bb bm bw B lv l C a ai pl pv W st (by omega) hpa hpn h5 hO hS
    rw [walkF, if_pos h5]; exact h
  have hlt5 : pl.length < 5 := by omega
  rw [walkF, if_neg h5]
  obtain ⟨F, hF⟩ : ∃ F, Hid ((combos k a pl).foldl (updP l) st = F) := ⟨_, rfl⟩
  rw [hF.out]
  obtain rfl := hai.out
  have HIH := Lib.hid ih
  have HPA := Lib.hid hpa
  have HPN := Lib.hid hpn
  have HO := Lib.hid hO
  have HS := Lib.hid hS
  have HC := Lib.hid C
  have HAK := Lib.hid hak
  obtain ⟨pao, pc, hpe, _, hpc⟩ := (own_rowOf (enc := encN) (xs := pl) hO (by omega)).open
  subst hpe
  obtain ⟨lao, lc, hle, _, _⟩ := C.row.open
  subst hle
  have hl9 := C.len
  have hb5 : (((pl.length : Nat) : Int) == 5) = false := by rw [beq_eq_false_iff_ne]; omega
  have hal : a ≤ l.length := by omega
  obtain ⟨n, hn⟩ : ∃ n, pl.length = n := ⟨_, rfl⟩
  rw [hn] at HO hb5 hlt5 hp5 ⊢
  have HN := Lib.hid hn
  clear ih hpa hpn hO hS C hak hpc h5 hai hn
  go_enter Try.func71, Try.ntmps71
  go_wp2_with fail
  go_loopw [12] (fun p wr => ∃ (j : Nat) (s2 : List Nat × Int), a ≤ j ∧ j ≤ l.length ∧ p = .int .i64 j ∧ StB w0 wr bl bb bm bw B (.slice lao l.length lc) s2 ∧ Ext2 bm bb W wr ∧ Hid ((combos (l.length - j) j pl).foldl (updP l) s2 = F)) (fun p _ => l.length - (intOf p).toNat)
  case atStart => exact ⟨a, st, Nat.le_refl _, hal, rfl, HS.out, Ext2.refl _ _ _, by
    have := HAK.out
    rw [show l.length - a = k by omega]; exact hF.out⟩
  case round =>
    obtain ⟨j, s2, haj, hjl, rfl, HS2, HE, HI⟩ := hrel
    have cl := HS2.cl
    have cw := HS2.cw
    have HS2' := Lib.hid HS2
    have hsz := HS2.sz
    clear HS2
    by_cases hlt : j < l.length
    · obtain ⟨k', hk'⟩ : ∃ k', l.length - (j + 1) = k' := ⟨_, rfl⟩
      have hi := HI.out
      rw [show l.length - j = k' + 1 by omega, walkF_step l k' j pl s2 (by rw [HN.out]; exact hlt5)] at hi
      have HI2 := Lib.hid hi
      have hkk : k' < k := by have := HAK.out; omega
      have HK := Lib.hid hk'
      have HO2 := Lib.hid (own_ext2 HO.out HE HC.out.l3 HC.out.l2)
      have hrow : Ints wr (.slice pao n pc) (natI pl) := rowN_ints (own_rowOf (enc := encN) (xs := pl) HO2.out (by omega))
      have HCL := Lib.hid (fun (W' : World) (hW : Ext wr W') => clone_ints (.slice pao n pc) (natI pl) W' (hrow.ext hW))
      have hjb : (j : Int) < (l.length : Int) := by omega
      have HREC := Lib.hid (fun (W' : World) (v : Value) (hv : W'.ownsRow B 3 1 v (pl ++ [j]).length ((pl ++ [j]).map encN)) (hW : Ext wr W') =>
        HIH.out k' hkk (j + 1) ((j : Int) + 1) (pl ++ [j]) v W' s2 (by have := HK.out; omega) (by show _ = _; omega) (snoc_lt HPA.out haj) (snoc_nd HPA.out haj HPN.out) (by rw [List.length_append, HN.out]; simp; omega) hv (HS2'.out.ext hW HC.out.l3 HC.out.l2))
      have hA : n + 1 ≤ 17592186044416 := by omega
      have hB : (n + 1) * 8 ≤ 140737488355328 := by omega
      clear hi hk' hrow
      go_wp2_with fail
      have e1 : IntKind.i64.wrap ((j : Int) + 1) = (j : Int) + 1 := IntWalk.i64_in _ (by omega)
      go_region_held3 (fun w' => w'.cell? ⟨bw, 0, none⟩ = some (.func (.func 71) #[] #[.pointer (some ⟨bl, 0, none⟩), .pointer (some ⟨bm, 0, none⟩), .pointer (some ⟨bb, 0, none⟩), .pointer (some ⟨bw, 0, none⟩)]))
        (first | exact cw | exact X6.cell cw | exact hx5.cell cw | exact hS7.cw | exact (hx5.cell (((Ext.refl wr).drew.alloc _).cell cw)) | go_keep)
        (first
        | (go_at_call 53; refine (HCL.out _ (by first | exact (Ext.refl _).drew | exact (Ext.refl _).drew.alloc _)).mono ?_; rintro e w5 ⟨u, rfl, hO5, hx5⟩; rw [natI_enc, natI_len, HN.out] at hO5)
        | (refine step_app (v := u) rfl rfl ei_ints rfl (own_ext hO5 ((Ext.refl w5).alloc _)) rfl (src_new w5 _ _ rfl) hA hB (Nat.le_trans hx5.size ((Ext.refl w5).alloc _).size) ?_; intro v' w6 hown6 hgrew6; have X6 : Ext wr w6 := hgrew6.extNew (((Ext.refl wr).drew.trans hx5).alloc _) (own_ext hO5 ((Ext.refl w5).alloc _)) (Nat.le_refl _); have HV6 := own_snoc hown6 HN.out hsz)
        | (refine step_app (v := u) rfl rfl ei_ints rfl hO5 rfl ((src_new wr.drew _ _ rfl).ext hx5) hA hB hx5.size ?_; intro v' w6 hown6 hgrew6; have X6 : Ext wr w6 := hgrew6.extNew (((Ext.refl wr).drew.alloc _).trans hx5) hO5 ((Ext.refl wr).drew.alloc _).size; have HV6 := own_snoc hown6 HN.out (Nat.le_trans hsz ((Ext.refl wr).drew.alloc _).size))
        | (go_at_call 71; refine (HREC.out _ _ HV6 X6).mono ?_; rintro e w7 ⟨rfl, hS7, hE7⟩))
      all_goals
        clear e1
        go_wp2_with fail
        go_roundw
        case rel => exact ⟨j + 1, walkF l k' (j + 1) (pl ++ [j]) s2, by omega, by omega, by go_num, hS7, HE.trans ((Ext2.of X6).trans hE7), by rw [HK.out]; exact HI2.out⟩
        case measure => simp [intOf]; omega
    · have hjl2 : j = l.length := by omega
      subst hjl2
      have hF2 : s2 = F := by
        have h := HI.out
        rw [Nat.sub_self] at h
        exact h
      subst hF2
      go_wp2_with fail
      go_end0
      exact ⟨rfl, HS2'.out, HE⟩
end Go.Proofs.Ytllhgkacbpgemaa
