/- walks of package big: Small, mulAdd -/
import Derived.Test.YtecfphohmgbddaaGreatDoorBig1
namespace Go.Proofs.YtecfphohmgbddaaGreatDoor
open Go.RowKit
set_option linter.unusedVariables false

theorem digs_lit {w : World} {ds : List Nat} {k : Nat} (hk : k = w.heap.size) (h : ds.length ≤ 17592186044416) : (w.alloc (.cells (ds.map encD).toArray 121)).ownsRow w.heap.size 121 1 (.slice (some ⟨k, 0, none⟩) ds.length ds.length) ds.length (ds.map encD) := by
  subst hk
  have := World.ownsRow_lit (base := w.heap.size) (e := 121) (size := 1) w (ds.map encD).toArray ds.length (Nat.le_refl _) (by unfold maxLen; omega) (by simp)
  simpa using this

theorem own_cells {w : World} {B : Nat} {e : TypeId} {v : Value} {n : Nat} {ds : List Nat} (h : w.ownsRow B e 1 v n (ds.map encD)) (hn : n ≤ 17592186044416) : ∃ ao c, v = .slice ao ds.length c ∧ CellsOf encD w ao ds ∧ ds.length ≤ c ∧ c ≤ 9223372036854775807 ∧ (ao = none → c = 0) := by
  have hl : ds.length = n := by simpa using h.1
  have hr := own_rowOf (enc := encD) h hn
  obtain ⟨ao, c, h1, _, h2, h0, h3⟩ := hr.open'
  refine ⟨ao, c, h1, h3, h2, ?_, h0⟩
  rcases h.2 with ⟨e1, _⟩ | ⟨g, cap, cur, e1, _, _, _, hm, _⟩
  · rw [e1] at h1
    simp only [Value.slice.injEq] at h1
    omega
  · rw [e1] at h1
    simp only [Value.slice.injEq] at h1
    unfold maxLen at hm
    omega

/-- make of an empty slice with room -/
theorem wp_make0 {P : Program} {rest : List Oper} {oa : Array Oper} {o : Oper} {a : Act} {Q : Exit → Act → World → Prop} {w : World} (hg : o.guard = none) {l c : Operand} {t e : TypeId} {z : Value} {bytes : Nat} {kl kc : IntKind} {C : Int}
    (hop : o.op = Op.makeSlice t l c) (ei : EI P t e z 1 bytes) (hl : a.eval l = .int kl 0) (hc : a.eval c = .int kc C) (n : Nat) (hC : C = (n : Int)) (hn : n ≤ 17592186044416) (hby : bytes * n ≤ 281474976710656)
    (h : ∀ w', w'.ownsRow w.heap.size e 1 (.slice (some ⟨w.heap.size, 0, none⟩) 0 n) 0 [] → Ext w w' → wpList P oa Q rest (a.put o.dst (.slice (some ⟨w.heap.size, 0, none⟩) 0 n)) w') : wpList P oa Q (o :: rest) a w := by
  obtain ⟨i, hi, hiz, his, hib⟩ := ei.info
  subst hib
  refine wpList_make_own w hg l c t hop w.heap.size e i z 1 ei.und hi hiz his kl kc C n hl hc hC hby (by unfold maxLen; omega) (Nat.le_refl _) fun w' h1 h2 => h w' h1 ?_
  exact ⟨h2.os, h2.tape, h2.output, h2.size, fun k hk => h2.block k hk (by simp)⟩

/-- norm of an own row -/
theorem norm_own (v : Value) (n : Nat) (ds : List Nat) (w : World) {B : Nat} (h : w.ownsRow B 121 1 v n (ds.map encD)) (hn : n ≤ 17592186044416) (hd : Dg ds) :
    Calls Tryz.prog 110 #[v] w fun e w' => ∃ u, e = .returned u ∧ NatV w u (val ds) ∧ Fr B u ((dig (val ds)).map encD) ∧ w' = w := by
  have hl : ds.length = n := by simpa using h.1
  have hnorm : ∃ k, k ≤ ds.length ∧ dig (val ds) = ds.take k := norm_take ds hd
  obtain ⟨ao, c, rfl, hc, hlc, hcm, h0⟩ := own_cells h hn
  refine (norm_any ao c ds w hc hlc (by omega) hcm hd).mono ?_
  rintro e w' ⟨rfl, rfl⟩
  obtain ⟨k, hk, he⟩ := hnorm
  refine ⟨_, rfl, ?_, ?_, rfl⟩
  · have := hc.take h0 hlc (by omega) hk
    show RowOf _ _ _ _
    rw [he, List.length_take, Nat.min_eq_left hk]
    exact this
  · rcases h.2 with ⟨e1, _⟩ | ⟨g, cap, cur, e1, hb, _⟩
    · simp only [Value.slice.injEq] at e1
      have h0 : ds = [] := List.eq_nil_of_length_eq_zero e1.2.1
      subst h0
      exact .inl (by show (dig 0).map encD = []; rw [dig_zero]; rfl)
    · simp only [Value.slice.injEq] at e1
      rw [e1.1]
      exact .inr ⟨g, rfl, hb⟩

set_option maxHeartbeats 1600000 in
set_option maxRecDepth 100000 in
theorem mulAdd_any (v : Value) (ds : List Nat) (x y : Nat) (w : World) (hv : Digs w v ds) (hd : Dg ds) (hx : x < 4294967296) (hy : y < 4294967296) (hl : ds.length ≤ 1073741824) :
    Calls Tryz.prog 126 #[v, .int .u32 x, .int .u32 y] w fun e w' => ∃ u, e = .returned u ∧ NatV w' u (val ds * x + y) ∧ Ext w w' := by
  obtain ⟨wo, rfl⟩ : ∃ wo : World, wo = w := ⟨_, rfl⟩
  obtain ⟨F, hF⟩ : ∃ F, mulAddL x ds y = F := ⟨_, rfl⟩
  obtain ⟨ao, c, rfl, hlen, hc⟩ := hv.open
  have HF := Lib.hid hF
  have HC := Lib.hid hc
  have HD := Lib.hid hd
  have hxi : (x : Int) ≤ 4294967295 := by omega
  have hyi : (y : Int) ≤ 4294967295 := by omega
  clear hF hc hd hv
  go_enter Tryz.func126, Tryz.ntmps126
  go_wp2_with (first
    | (at_make; refine wp_make0 rfl rfl ei_nat rfl rfl (ds.length + 1) (by omega) (by omega) (by omega) ?_; intro w2 hO2 hX2))
  go_loopw [7, 8, 19] (fun o cv iv wr => ∃ (i cr : Nat) (os : List Nat), i ≤ ds.length ∧ iv = .int .i64 i ∧ cv = .int .u64 cr ∧ cr < 4294967296 ∧ os.length = i ∧ wr.ownsRow wo.heap.size 121 1 o i (os.map encD) ∧ Ext wo wr ∧ Hid (os ++ mulAddL x (ds.drop i) cr = F)) (fun _ _ iv _ => ds.length - (intOf iv).toNat)
  case atStart => exact ⟨0, y, [], Nat.zero_le _, rfl, rfl, hy, rfl, hO2, hX2, HF.out⟩
  case round =>
    obtain ⟨i, cr, os, hi, rfl, rfl, hcr, hol, HO, X, HI⟩ := hrel
    have hci : (cr : Int) ≤ 4294967295 := by omega
    have HOL := Lib.hid hol
    clear hol
    by_cases hlt : i < ds.length
    · obtain ⟨d, d1, d2, d3⟩ := get_lt hlt
      obtain ⟨b, off, rfl, hc0⟩ := (HC.out.ext X).at d1
      have hcell : wr.cell? ⟨b, off + i, none⟩ = some (.int .u32 d) := hc0
      have hdl := HD.out.at d1.out
      obtain ⟨p, hp⟩ : ∃ p, d * x = p := ⟨_, rfl⟩
      have hcar := mulAdd_carry hcr hdl hx
      have hi2 := HI.out
      rw [d2.out, mulAddL] at hi2
      rw [hp] at hcar hi2
      obtain ⟨lo, hlo⟩ : ∃ lo, (cr + p) % 4294967296 = lo := ⟨_, rfl⟩
      obtain ⟨hh, hhi⟩ : ∃ hh, (cr + p) / 4294967296 = hh := ⟨_, rfl⟩
      rw [hlo, hhi] at hi2
      rw [hhi] at hcar
      have HI2 : Hid ((os ++ [lo]) ++ mulAddL x (ds.drop (i + 1)) hh = F) := by show _ = _; rw [List.append_assoc]; exact hi2
      have e1 : (d : Int) * (x : Int) = (p : Int) := by rw [← hp, Int.natCast_mul]
      have e2 : ((cr : Int) + (p : Int)) % 4294967296 = (lo : Int) := by omega
      have e3 : ((cr : Int) + (p : Int)) / 4294967296 = (hh : Int) := by omega
      have b1 : (p : Int) ≤ 18446744073709551615 := by omega
      have b2 : (cr : Int) + (p : Int) ≤ 18446744073709551615 := by omega
      have hdi : (d : Int) ≤ 4294967295 := by omega
      have hki : (i : Int) < (ds.length : Int) := by omega
      clear hi2 hlo hhi hp hc0
      have hsz := X.size
      go_wp2_with (at_builtin; refine wp_app1 (s := .tmp 30) (x := .tmp 33) (y := .int .u32 lo) rfl rfl ei_nat HO rfl rfl rfl rfl (by omega) (by omega) (by omega) ?_; intro v' w' hown hgrew)
      go_roundw
      case rel => exact ⟨i + 1, hh, os ++ [lo], by omega, by go_num, rfl, hcar.2, by rw [List.length_append, HOL.out]; rfl, own_cast hown (by simp [encD]) rfl, hgrew.extNew X HO (Nat.le_refl _), HI2⟩
      case measure => simp [intOf]; omega
    · have hil : i = ds.length := by omega
      subst hil
      have hi2 := HI.out
      rw [List.drop_length, mulAddL] at hi2
      have hval : Hid (val (os ++ [cr]) = val ds * x + y) := by show _ = _; rw [hi2, ← HF.out, val_mulAddL]
      have hdg : Hid (Dg (os ++ [cr])) := by show Dg _; rw [hi2, ← HF.out]; exact dg_mulAddL hx ds y HD.out hy
      have hsz := X.size
      have hcm : (cr : Int) % 4294967296 = (cr : Int) := by omega
      clear hi2
      go_wp2_with (at_builtin; refine wp_app1 (s := .tmp 38) (x := .tmp 41) (y := .int .u32 cr) rfl rfl ei_nat HO rfl rfl rfl rfl (by omega) (by omega) (by omega) ?_; intro v' w' hown hgrew)
      have hown2 : w'.ownsRow wo.heap.size 121 1 v' (ds.length + 1) ((os ++ [cr]).map encD) := own_cast hown (by simp [encD]) rfl
      refine (norm_own v' _ (os ++ [cr]) w' hown2 (by omega) hdg.out).mono ?_
      rintro e w3 ⟨u, rfl, hn, _, rfl⟩
      go_wp2_with fail
      go_ret
      exact ⟨u, rfl, by rw [← hval.out]; exact hn, hgrew.extNew X HO (Nat.le_refl _)⟩

set_option maxHeartbeats 800000 in
set_option maxRecDepth 100000 in
theorem small_any (x : Nat) (w : World) (hx : x < 18446744073709551616) :
    Calls Tryz.prog 116 #[.int .u64 x] w fun e w' => ∃ u, e = .returned u ∧ NatV w' u x ∧ Ext w w' := by
  obtain ⟨lo, hlo⟩ : ∃ lo, x % 4294967296 = lo := ⟨_, rfl⟩
  obtain ⟨hh, hhi⟩ : ∃ hh, x / 4294967296 = hh := ⟨_, rfl⟩
  have e2 : (x : Int) % 4294967296 = (lo : Int) := by omega
  have e3 : (x : Int) / 4294967296 = (hh : Int) := by omega
  have b3 : (hh : Int) ≤ 4294967295 := by omega
  have e4 : (hh : Int) % 4294967296 = (hh : Int) := by omega
  have b1 : (x : Int) ≤ 18446744073709551615 := by omega
  have hval : Hid (val [lo, hh] = x) := by show _ = _; simp only [val]; omega
  have hdg : Hid (Dg [lo, hh]) := by show Dg _; exact Dg.cons (by omega) (Dg.cons (by omega) Dg.nil)
  have hN := Lib.hid (fun (k : Nat) (hk : k = w.heap.size) => norm_own (.slice (some ⟨k, 0, none⟩) 2 2) 2 [lo, hh] _ (digs_lit (w := w) (ds := [lo, hh]) hk (by simp)) (by omega) hdg.out)
  clear hlo hhi
  go_enter Tryz.func116, Tryz.ntmps116
  go_wp2_with fail
  refine (hN.out _ rfl).mono ?_
  rintro e w3 ⟨u, rfl, hn, _, rfl⟩
  go_wp2_with fail
  go_ret
  exact ⟨u, rfl, by rw [← hval.out]; exact hn, (Ext.refl w).alloc _⟩
end Go.Proofs.YtecfphohmgbddaaGreatDoor
