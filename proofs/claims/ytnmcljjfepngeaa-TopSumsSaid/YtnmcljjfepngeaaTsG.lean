/- walks of package nimsum: Split.Next -/
import Derived.Test.YtnmcljjfepngeaaTsF
import Derived.Test.YtnmcljjfepngeaaStepApp
import Derived.Laws.IdiomStrings
namespace Go.Proofs.Ytnmcljjfepngeaa
open Go.RowKit
set_option linter.unusedVariables false

theorem ts_info_str : (Try.prog.info? 9).map (fun i => (i.zero, i.size, i.bytes)) = some (some (.string ⟨#[]⟩), 1, 16) := by kernel_rfl
theorem ts_ei_strs : EI Try.prog 78 9 (.string ⟨#[]⟩) 1 16 := ⟨Try.underlying78, info_parts ts_info_str, rfl, by decide⟩
theorem bys_at {l : List Nat} (hb : ∀ x ∈ l, x < 256) {i : Nat} (h : i < (bys l).size) : l[i]? = some ((bys l)[i]'h).toNat := by
  have h1 : (bys l).size = l.length := bys_size l
  have h2 : i < l.length := by omega
  rw [List.getElem?_eq_getElem h2]
  have e : (bys l)[i]'h = UInt8.ofNat l[i] := by
    show (bys l).data[i]'_ = _
    have h3 : (bys l).data.toList[i]? = (l.map UInt8.ofNat)[i]? := by rw [bys_toList]
    rw [List.getElem?_map, List.getElem?_eq_getElem h2, Array.getElem?_toList, Array.getElem?_eq_getElem (by show i < (bys l).data.size; exact h)] at h3
    exact Option.some.inj h3
  rw [e, UInt8.toNat_ofNat']
  have := hb _ (List.getElem_mem h2)
  congr 1; omega

theorem rest_row (W : World) (r : List Nat) (hr : ∀ x ∈ r, x < 256) (hl : r.length ≤ 64) (cap : Nat) (hc : r.length ≤ cap) (e : TypeId) (fr : Nat × Nat) : RowOf encU (W.alloc (.cells (bytesRow (bys r) cap) e fr)) (.slice (some ⟨W.heap.size, 0, none⟩) r.length cap) r := by
  refine ⟨some ⟨W.heap.size, 0, none⟩, cap, by rw [List.length_map], ⟨(by intro h; cases h), by rw [List.length_map]; exact hc⟩, by rw [List.length_map]; omega, fun _ => by simp, fun j v hj => ?_⟩
  rw [List.getElem?_map] at hj
  cases hx : r[j]? with
  | none => rw [hx] at hj; cases hj
  | some x =>
    rw [hx] at hj
    obtain rfl := Option.some.inj hj
    refine ⟨_, _, rfl, ?_⟩
    have hjl : j < (bys r).size := by rw [bys_size]; exact (List.getElem?_eq_some_iff.1 hx).1
    have h1 := bys_at hr hjl
    rw [hx] at h1
    have h2 := bytesRow_at (bys r) cap j hjl
    have h3 : x = ((bys r).data[j]'hjl).toNat := Option.some.inj h1
    rw [← h3] at h2
    have h4 : (W.alloc (.cells (bytesRow (bys r) cap) e fr)).heap[W.heap.size]? = some (.cells (bytesRow (bys r) cap) e fr) := Array.getElem?_push_size
    rw [Nat.zero_add]
    unfold World.cell?
    simp only [h4]
    exact h2

theorem insert_any' (v : Value) (xs : List Nat) (x : Nat) (y : Int) (hy : (x : Int) = y) (w : World) (hv : RowOf encU w v xs) (hl : xs.length ≤ 64) :
    Calls Try.prog 36 #[v, .int .u8 y] w fun e w' => ∃ u, e = .returned u ∧ RowOf encU w' u (ins xs x) ∧ Ext w w' := by
  subst hy
  exact insert_any v xs x w hv hl
/-- bytes in memory as a text -/
theorem row_back {W : World} {u : Value} {L : List Nat} (h : RowOf encU W u L) (h0 : 0 < L.length) (hL : ∀ x ∈ L, x < 256) : ∃ b off c, u = .slice (some ⟨b, off, none⟩) L.length c ∧ (convert 40 9 u).run Try.prog W = .ok (.string (bys L)) W := by
  obtain ⟨ao, c, rfl, _, _, hne, hc⟩ := h
  rw [List.length_map] at *
  have hgt : ∀ j x, L[j]? = some x → ∃ b off, ao = some ⟨b, off, none⟩ ∧ W.cell? ⟨b, off + j, none⟩ = some (encU x) := fun j x hj => hc j (encU x) (by rw [List.getElem?_map, hj]; rfl)
  obtain ⟨b, off, rfl, _⟩ := hgt 0 _ (List.getElem?_eq_getElem h0)
  refine ⟨b, off, c, rfl, ?_⟩
  have hl : (L.map UInt8.ofNat).length = L.length := List.length_map _
  have := run_convert_bytes_back (P := Try.prog) W 40 9 5 ⟨b, off, none⟩ c (L.map UInt8.ofNat) Try.underlying40 Try.underlying5 Try.underlying9 (fun j hj => by
    have hj2 : j < L.length := by omega
    obtain ⟨b', off', e, hcell⟩ := hgt j _ (List.getElem?_eq_getElem hj2)
    simp only [Option.some.injEq, Addr.mk.injEq, and_true] at e
    obtain ⟨rfl, rfl⟩ := e
    have hlt := hL _ (List.getElem_mem hj2)
    rw [List.getElem_map, UInt8.toNat_ofNat', Nat.mod_eq_of_lt (by omega)]
    by_cases hj0 : j = 0
    · subst hj0; simpa [Addr.add, encU] using hcell
    · simpa [Addr.add, hj0, encU] using hcell)
  rw [hl] at this
  exact this
theorem ins_lt {xs : List Nat} {x m : Nat} (h : ∀ y ∈ xs, y < m) (hx : x < m) : ∀ y ∈ ins xs x, y < m := fun y hy => by
  obtain ⟨i, h1, h2, _⟩ := ins_at xs x
  rw [h2] at hy
  rcases List.mem_append.1 hy with h3 | h3
  · exact h y (List.mem_of_mem_take h3)
  · rcases List.mem_cons.1 h3 with h3 | h3
    · rw [h3]; exact hx
    · exact h y (List.mem_of_mem_drop h3)
theorem mem_le_sum : ∀ {l : List Nat} {x : Nat}, x ∈ l → x ≤ l.sum
  | y :: t, x, h => by
    rw [List.sum_cons]
    rcases List.mem_cons.1 h with h | h
    · omega
    · have := mem_le_sum h; omega
/-- the first k heaps that a heap is divided into -/
def cutK (rest : List Nat) (x k : Nat) : List (List Nat) := (List.range k).map fun a => ins (ins rest (a + 1)) (x - (a + 1))
theorem cutK_succ (rest : List Nat) (x k : Nat) : cutK rest x (k + 1) = cutK rest x k ++ [ins (ins rest (k + 1)) (x - (k + 1))] := by unfold cutK; rw [List.range_succ, List.map_append]; rfl
theorem cutK_length (rest : List Nat) (x k : Nat) : (cutK rest x k).length = k := by unfold cutK; simp
def restN (l : List Nat) (i : Nat) : List Nat := l.take i ++ l.drop (i + 1)
def sNi (l : List Nat) : Nat → List (List Nat)
  | 0 => []
  | i + 1 => sNi l i ++ cutN (restN l i) (l.getD i 0)
theorem sNF_eq : ∀ (t pre : List Nat) , sNi (pre ++ t) pre.length ++ sNF pre t = sNi (pre ++ t) (pre ++ t).length
  | [], pre => by rw [sNF, List.append_nil, List.append_nil]
  | x :: t, pre => by
    have ih := sNF_eq t (pre ++ [x])
    rw [List.append_assoc, List.singleton_append, List.length_append, List.length_singleton, sNi] at ih
    rw [sNF, ← ih, ← List.append_assoc]
    congr 2
    have h1 : (pre ++ x :: t).getD pre.length 0 = x := by simp [List.getD]
    have h2 : restN (pre ++ x :: t) pre.length = pre ++ t := by
      unfold restN
      rw [List.take_append_of_le_length (Nat.le_refl _), List.take_of_length_le (Nat.le_refl _), List.drop_append]
      simp
    rw [h1, h2]
theorem sN_eq (l : List Nat) : sN l = sNi l l.length := by
  have := sNF_eq l []
  unfold sN
  simpa [sNi] using this
theorem cutN_eq (rest : List Nat) (x : Nat) : cutN rest x = cutK rest x ((x - 1) / 2) := rfl
theorem bys_append (a b : List Nat) : bys (a ++ b) = bys a ++ bys b := by
  apply ByteArray.ext
  apply Array.ext'
  rw [bys_toList, List.map_append]
  simp [bys]
theorem bys_take (l : List Nat) (i : Nat) : (bys l).extract 0 i = bys (l.take i) := by
  apply ByteArray.ext
  apply Array.ext'
  rw [bys_toList, List.map_take, ← bys_toList, ByteArray.data_extract]
  simp
theorem bys_drop (l : List Nat) (i : Nat) : (bys l).extract i (bys l).size = bys (l.drop i) := by
  apply ByteArray.ext
  apply Array.ext'
  rw [bys_toList, List.map_drop, ← bys_toList, ByteArray.data_extract]
  rw [Array.toList_extract, List.extract_eq_take_drop]
  exact List.take_of_length_le (by rw [List.length_drop, bys_toList, bys_size, List.length_map]; omega)

set_option maxHeartbeats 3200000 in
set_option maxRecDepth 100000 in
theorem splitNext_any (l : List Nat) (w : World) (hl : l.length ≤ 64) (hb : ∀ x ∈ l, x < 256) (hs : l.sum ≤ 64) :
    Calls Try.prog 35 #[.agg #[], .string (bys l)] w fun e w' => ∃ u, e = .returned u ∧ w'.ownsRow w.heap.size 9 1 u (sN l).length ((sN l).map encB) ∧ Ext w w' := by
  obtain ⟨wo, rfl⟩ : ∃ wo : World, wo = w := ⟨_, rfl⟩
  have hAT := fun i (h : i < (bys l).size) => bys_at hb h
  have hSZ := bys_size l
  obtain ⟨S, hS⟩ : ∃ S, bys l = S := ⟨_, rfl⟩
  rw [hS] at hAT hSZ ⊢
  have HAT := Lib.hid hAT
  have HSZ := Lib.hid hSZ
  have hS1 : S.size ≤ 64 := by omega
  have hS9 : l.length = S.size := hSZ.symm
  clear hl
  have HSS := Lib.hid hS
  have HB := Lib.hid hb
  clear hAT hS hb hSZ hS9
  go_enter Try.func35, Try.ntmps35
  go_wp2_with fail
  go_loopw [5, 13] (fun sv iv wr => ∃ (i : Nat), i ≤ S.size ∧ iv = .int .i64 i ∧ sv = .int .i64 ((l.take i).sum : Nat) ∧ Hid (Ext wo wr)) (fun _ iv _ => S.size - (intOf iv).toNat)
  case atStart => exact ⟨0, Nat.zero_le _, rfl, rfl, by show Ext _ _; exact (Ext.refl _).alloc _⟩
  case round =>
    obtain ⟨i, hi, rfl, rfl, X⟩ := hrel
    by_cases hlt : i < S.size
    · have hx := HAT.out i hlt
      have hii : (i : Int) < (S.size : Int) := by omega
      have h3 : (l.take (i + 1)).sum = (l.take i).sum + (S[i]'hlt).toNat := by
        obtain ⟨q1, q2⟩ := List.getElem?_eq_some_iff.1 hx
        rw [List.take_succ_eq_append_getElem q1, q2]; simp
      have h4 : (l.take i).sum ≤ 64 := by
        have : l.sum = (l.take i).sum + (l.drop i).sum := by rw [← List.sum_append, List.take_append_drop]
        omega
      have h5 : (S[i]'hlt).toNat ≤ 255 := by have := (S[i]'hlt).toNat_lt; omega
      have H3 := Lib.hid h3
      clear h3 hx
      go_wp2_with fail
      go_roundw
      case rel => exact ⟨i + 1, by omega, by go_num, by rw [H3.out]; go_num, X⟩
      case measure => simp [intOf]; omega
    · have hie : i = S.size := by omega
      subst hie
      have hsum : (l.take S.size).sum = l.sum := by rw [List.take_of_length_le (by rw [HSZ.out]; omega)]
      rw [hsum]
      have c1 : ¬ (64 : Int) < (S.size : Int) := by omega
      have c2 : ¬ (64 : Int) < ((l.sum : Nat) : Int) := by omega
      clear hsum
      obtain ⟨wl, rfl⟩ : ∃ wl : World, wl = wr := ⟨_, rfl⟩
      go_wp2_with fail
      go_loopw [7, 32] (fun u7 iv wr => ∃ (i : Nat) (xs : List (List Nat)), i ≤ S.size ∧ iv = .int .i64 i ∧ Hid (xs = sNi l i) ∧ Hid (wr.ownsRow wo.heap.size 9 1 u7 xs.length (xs.map encB)) ∧ Hid (xs.length ≤ i * 128) ∧ Ext wo wr) (fun _ iv _ => S.size - (intOf iv).toNat)
      case atStart => exact ⟨0, [], Nat.zero_le _, rfl, rfl, World.ownsRow_nil _ _ _ _, Nat.zero_le _, X⟩
      case round =>
        clear X
        obtain ⟨i, xs, hi, rfl, HE, HO, HL, X⟩ := hrel
        by_cases hlt : i < S.size
        · have hx := HAT.out i hlt
          have hii : (i : Int) < (S.size : Int) := by omega
          obtain ⟨w1, rfl⟩ : ∃ w1 : World, w1 = wr := ⟨_, rfl⟩
          have hsx : S.extract 0 i ++ S.extract (i + 1) S.size = bys (restN l i) := by
            rw [← HSS.out, bys_take, bys_drop, ← bys_append]; rfl
          have hrl : (restN l i).length ≤ 63 := by
            have := HSZ.out; unfold restN; rw [List.length_append, List.length_take, List.length_drop]; omega
          have hrb : ∀ x ∈ restN l i, x < 256 := fun x hx => by
            unfold restN at hx
            rcases List.mem_append.1 hx with h | h
            · exact HB.out x (List.mem_of_mem_take h)
            · exact HB.out x (List.mem_of_mem_drop h)
          have hconv := run_bytes_of_string (P := Try.prog) w1.drew 9 40 5 (S.extract 0 i ++ S.extract (i + 1) S.size) Try.underlying9 Try.underlying40 Try.underlying5
          have hcap := grownCap_ge w1.drew (S.extract 0 i ++ S.extract (i + 1) S.size).size 0 5
          have hrr := rest_row w1.drew.drew (restN l i) hrb (by omega)
          have hrz : (bys (restN l i)).size = (restN l i).length := bys_size _
          have b1 : (0 : Int) ≤ (i : Int) + 1 := by omega
          have b2 : (i : Int) + 1 ≤ (S.size : Int) := by omega
          have b3 : i ≤ S.size := hi
          have b4 : i + 1 ≤ S.size := by omega
          rw [hsx, hrz] at hconv hcap
          obtain ⟨CP, hCP⟩ : ∃ CP, grownCap w1.drew (restN l i).length 0 5 = CP := ⟨_, rfl⟩
          rw [hCP] at hconv hcap
          have hrr2 := hrr CP hcap 5 ((bytesRow (bys (restN l i)) CP).size, (bytesRow (bys (restN l i)) CP).size + 1)
          obtain ⟨W3, hW3⟩ : ∃ W3, w1.drew.drew.alloc (.cells (bytesRow (bys (restN l i)) CP) 5 ((bytesRow (bys (restN l i)) CP).size, (bytesRow (bys (restN l i)) CP).size + 1)) = W3 := ⟨_, rfl⟩
          have X3 : Ext w1 W3 := by rw [← hW3]; exact ((Ext.refl w1).drew.drew).alloc _
          rw [hW3] at hrr2 hconv
          have HRR := Lib.hid hrr2
          have HX3 := Lib.hid X3
          obtain ⟨R, hR⟩ : ∃ R, restN l i = R := ⟨_, rfl⟩
          have HR := Lib.hid hR
          rw [hR] at hsx hrl hrb hrz hcap HRR hconv
          obtain ⟨SR, hSR⟩ : ∃ SR, bys R = SR := ⟨_, rfl⟩
          rw [hSR] at hconv hsx
          clear hrr hrr2 hCP hW3 hR hrz hSR X3
          go_wp2_with fail
          go_region
          obtain ⟨X0, hX0⟩ : ∃ X0, (S[i]'hlt).toNat = X0 := ⟨_, rfl⟩
          have hxl : X0 ≤ 64 := by
            obtain ⟨q1, q2⟩ := List.getElem?_eq_some_iff.1 hx
            have := mem_le_sum (List.getElem_mem q1)
            rw [q2, hX0] at this
            omega
          have hgd : l.getD i 0 = X0 := by rw [List.getD_eq_getElem?_getD, hx, hX0]; rfl
          have HE2 : Hid (sNi l (i + 1) = xs ++ cutK R X0 ((X0 - 1) / 2)) := by
            show _ = _
            rw [sNi, hgd, HR.out, ← HE.out]; rfl
          rw [hX0] at hx
          obtain ⟨K, hK⟩ : ∃ K, (X0 - 1) / 2 = K := ⟨_, rfl⟩
          rw [hK] at HE2
          have HO3 := Lib.hid (own_ext HO.out HX3.out)
          have HRX : Hid (RowX (Value.ownBlock u7) W3 (.slice (some ⟨w1.heap.size, 0, none⟩) R.length CP) (R.map encU)) := by
            refine ⟨HRR.out, .inr fun e => ?_⟩
            have := (HO.out.lt _ e.symm).2
            exact absurd this (Nat.lt_irrefl _)
          clear HRR
          have HX4 := Lib.hid (X.trans HX3.out)
          have hll := HL.out
          have HB8 : xs.length ≤ 8192 := by omega
          go_wp2_with fail
          go_loopw [7, 10] (fun ov av wr => ∃ (k : Nat), k ≤ K ∧ av = .int .i64 (k + 1 : Nat) ∧ Hid (wr.ownsRow wo.heap.size 9 1 ov (xs.length + k) ((xs ++ cutK R X0 k).map encB)) ∧ Hid (RowX ov.ownBlock wr (.slice (some ⟨w1.heap.size, 0, none⟩) R.length CP) (R.map encU)) ∧ Ext wo wr) (fun _ av _ => K + 1 - (intOf av).toNat)
          case atStart => exact ⟨0, Nat.zero_le _, rfl, by show World.ownsRow _ _ _ _ _ _ _; rw [show cutK R X0 0 = [] from rfl, List.append_nil, Nat.add_zero]; exact HO3.out, HRX.out, HX4.out⟩
          case round =>
            clear HRX HX4 HO3
            obtain ⟨k, hk, rfl, HO4, HRX, XX⟩ := hrel
            by_cases hlt2 : k < K
            · have hk1 : k + 1 < X0 := by omega
              have c3 : 2 * (((k + 1 : Nat) : Int)) < (X0 : Int) := by omega
              obtain ⟨Y2, hY2⟩ : ∃ Y : Int, ((X0 - (k + 1) : Nat) : Int) = Y := ⟨_, rfl⟩
              have d2 : IntKind.u8.wrap ((k : Int) + 1) = (k : Int) + 1 := by rw [IntKind.wrap_u8]; omega
              have d3 : IntKind.u8.wrap ((X0 : Int) - ((k : Int) + 1)) = Y2 := by rw [IntKind.wrap_u8]; omega
              have HI1 := Lib.hid (fun W (hX : Ext wr W) => insert_any' _ R (k + 1) ((k : Int) + 1) rfl W (show RowOf encU W _ R from HRX.out.1.ext hX) (by omega))
              have HI2 := Lib.hid (fun u W (h : RowOf encU W u (ins R (k + 1))) => insert_any' u _ (X0 - (k + 1)) Y2 hY2 W h (by rw [ins_length]; omega))
              have HBK := Lib.hid (fun u W (h : RowOf encU W u (ins (ins R (k + 1)) (X0 - (k + 1)))) => row_back h (by rw [ins_length]; omega) (ins_lt (ins_lt hrb (show k + 1 < 256 by omega)) (show X0 - (k + 1) < 256 by omega)))
              have HCK := Lib.hid (cutK_succ R X0 k)
              obtain ⟨L1, hL1⟩ : ∃ L1, ins R (k + 1) = L1 := ⟨_, rfl⟩
              rw [hL1] at HI1 HI2 HBK HCK
              obtain ⟨L2, hL2⟩ : ∃ L2, ins L1 (X0 - (k + 1)) = L2 := ⟨_, rfl⟩
              rw [hL2] at HI2 HBK HCK
              have e1 : xs.length + k + 1 ≤ 17592186044416 := by omega
              have e2 : (xs.length + k + 1) * 16 ≤ 140737488355328 := by omega
              have HX6 := Lib.hid XX
              clear hL1 hL2 XX hrb hcap hx hconv hsx hgd hs HAT HSS HB HE HR hY2
              go_wp2_with fail
              refine wp_region_held_drew (S := (fun _ => True)) (by kernel_rfl) (by first | exact trivial | ((try dsimp only); exact trivial)) (fun hH0 => ?_)
              refine wpAnyH_take (i := 0) (v := ?v1) rfl (by kernel_rfl) (by kernel_rfl) (by kernel_rfl) (fun _ _ _ h => h) (Or.inl ⟨by rfl, ?hy1⟩) (by assumption) ?r1
              case hy1 => (intro w9 hSw; (try dsimp only at hSw); go_simp; try with_reducible rfl)
              try simp only [Act.put, List.setIfInBounds_toArray, List.set_cons_zero, List.set_cons_succ]
              refine wpAnyH_take (i := 1) (v := ?v2) rfl (by kernel_rfl) (by kernel_rfl) (by kernel_rfl) (fun _ _ _ h => h) (Or.inl ⟨by rfl, ?hy2⟩) (by assumption) ?r2
              case hy2 => (intro w9 hSw; (try dsimp only at hSw); go_simp; try with_reducible rfl)
              try simp only [Act.put, List.setIfInBounds_toArray, List.set_cons_zero, List.set_cons_succ]
              refine wpAnyH_take (i := 2) (v := ?v3) rfl (by kernel_rfl) (by kernel_rfl) (by kernel_rfl) (fun _ _ _ h => h) (Or.inl ⟨by rfl, ?hy3⟩) (by assumption) ?r3
              case hy3 => (intro w9 hSw; (try dsimp only at hSw); go_simp; try with_reducible rfl)
              try simp only [Act.put, List.setIfInBounds_toArray, List.set_cons_zero, List.set_cons_succ]
              refine wpAnyH_take (i := 3) (v := ?v4) rfl (by kernel_rfl) (by kernel_rfl) (by kernel_rfl) (fun _ _ _ h => h) (Or.inl ⟨by rfl, ?hy4⟩) (by assumption) ?r4
              case hy4 => (intro w9 hSw; (try dsimp only at hSw); go_simp; try with_reducible rfl)
              try simp only [Act.put, List.setIfInBounds_toArray, List.set_cons_zero, List.set_cons_succ]
              refine wpAnyH_take (i := 5) (v := ?v5) rfl (by kernel_rfl) (by kernel_rfl) (by kernel_rfl) (fun _ _ _ h => h) (Or.inl ⟨by rfl, ?hy5⟩) (by assumption) ?r5
              case hy5 => (intro w9 hSw; (try dsimp only at hSw); go_simp; try with_reducible rfl)
              try simp only [Act.put, List.setIfInBounds_toArray, List.set_cons_zero, List.set_cons_succ]
              refine wpAnyH_take (i := 6) (v := ?v6) rfl (by kernel_rfl) (by kernel_rfl) (by kernel_rfl) (fun _ _ _ h => h) (Or.inl ⟨by rfl, ?hy6⟩) (by assumption) ?r6
              case hy6 => (intro w9 hSw; (try dsimp only at hSw); go_simp; try with_reducible rfl)
              try simp only [Act.put, List.setIfInBounds_toArray, List.set_cons_zero, List.set_cons_succ]
              refine wpAnyH_take (i := 7) (v := ?v7) rfl (by kernel_rfl) (by kernel_rfl) (by kernel_rfl) (fun _ _ _ h => h) (Or.inl ⟨by rfl, ?hy7⟩) (by assumption) ?r7
              case hy7 => (intro w9 hSw; (try dsimp only at hSw); go_simp; try with_reducible rfl)
              try simp only [Act.put, List.setIfInBounds_toArray, List.set_cons_zero, List.set_cons_succ]
              refine wpAnyH_take (i := 8) (v := ?v8) rfl (by kernel_rfl) (by kernel_rfl) (by kernel_rfl) (fun _ _ _ h => h) (Or.inl ⟨by rfl, ?hy8⟩) (by assumption) ?r8
              case hy8 => (intro w9 hSw; (try dsimp only at hSw); go_simp; try with_reducible rfl)
              try simp only [Act.put, List.setIfInBounds_toArray, List.set_cons_zero, List.set_cons_succ]
              refine wpAnyH_take (i := 9) (v := ?v9) rfl (by kernel_rfl) (by kernel_rfl) (by kernel_rfl) (fun _ _ _ h => h) (Or.inl ⟨by rfl, ?hy9⟩) (by assumption) ?r9
              case hy9 => (intro w9 hSw; (try dsimp only at hSw); go_simp; try with_reducible rfl)
              try simp only [Act.put, List.setIfInBounds_toArray, List.set_cons_zero, List.set_cons_succ]
              refine wpAnyH_take (i := 10) (v := ?v10) rfl (by kernel_rfl) (by kernel_rfl) (by kernel_rfl) (fun _ _ _ h => h) (Or.inl ⟨by rfl, ?hy10⟩) (by assumption) ?r10
              case hy10 => (intro w9 hSw; (try dsimp only at hSw); go_simp; try with_reducible rfl)
              try simp only [Act.put, List.setIfInBounds_toArray, List.set_cons_zero, List.set_cons_succ]
              refine wpAnyH_ready (rs := [4]) (by kernel_rfl) (by simp) ?_
              refine AllReadyH.cons rfl (fun K9 hK => ?_) AllReadyH.nil
              go_simp
              go_at_call 36; refine (HI1.out _ (by repeat' (first | with_reducible exact Ext.refl _ | with_reducible apply Ext.alloc | with_reducible apply Ext.drew))).mono ?_; rintro e w5 ⟨u5, rfl, hR5, Y5⟩; have X5 : Ext wr w5 := Ext.trans (by repeat' (first | with_reducible exact Ext.refl _ | with_reducible apply Ext.alloc | with_reducible apply Ext.drew)) Y5
              refine hK.out _ _ (by first | exact trivial | ((try dsimp only); exact trivial)) (fun hH1 => ?_)
              clear hK K9 hH0
              have hH0 := hH1
              clear hH1
              try simp only [Act.put, List.setIfInBounds_toArray, List.set_cons_zero, List.set_cons_succ]
              refine wpAnyH_ready (rs := [11]) (by kernel_rfl) (by simp) ?_
              refine AllReadyH.cons rfl (fun K9 hK => ?_) AllReadyH.nil
              go_simp
              go_at_call 36; (have h2 := HI2.out _ _ hR5); refine Calls.mono h2 ?_; clear h2; rintro e w6 ⟨u6, rfl, hR6, Y6⟩; have X6 : Ext wr w6 := X5.trans Y6; obtain ⟨b6, o6, c6, rfl, hb6⟩ := HBK.out _ _ hR6
              refine hK.out _ _ (by first | exact trivial | ((try dsimp only); exact trivial)) (fun hH1 => ?_)
              clear hK K9 hH0
              have hH0 := hH1
              clear hH1
              try simp only [Act.put, List.setIfInBounds_toArray, List.set_cons_zero, List.set_cons_succ]
              refine wpAnyH_ready (rs := [12]) (by kernel_rfl) (by simp) ?_
              refine AllReadyH.cons rfl (fun K9 hK => ?_) AllReadyH.nil
              go_simp
              refine hK.out _ _ (by first | exact trivial | ((try dsimp only); exact trivial)) (fun hH1 => ?_)
              clear hK K9 hH0
              have hH0 := hH1
              clear hH1
              try simp only [Act.put, List.setIfInBounds_toArray, List.set_cons_zero, List.set_cons_succ]
              refine wpAnyH_ready (rs := [13]) (by kernel_rfl) (by simp) ?_
              refine AllReadyH.cons rfl (fun K9 hK => ?_) AllReadyH.nil
              go_simp
              refine hK.out _ _ (by first | exact trivial | ((try dsimp only); exact trivial)) (fun hH1 => ?_)
              clear hK K9 hH0
              have hH0 := hH1
              clear hH1
              try simp only [Act.put, List.setIfInBounds_toArray, List.set_cons_zero, List.set_cons_succ]
              refine wpAnyH_ready (rs := [14]) (by kernel_rfl) (by simp) ?_
              refine AllReadyH.cons rfl (fun K9 hK => ?_) AllReadyH.nil
              refine step_app (s := .tmp 53) (x := .tmp 66) rfl rfl ts_ei_strs rfl (own_ext HO4.out (X6.alloc _)) rfl (src_new w6 _ _ rfl) e1 e2 (Nat.le_trans (HX6.out.trans X6).size (by simp)) ?_; intro v8 w8 hown8 hgrew8; have X8 : Ext wo w8 := hgrew8.extNew ((HX6.out.trans X6).alloc _) (own_ext HO4.out (X6.alloc _)) (Nat.le_refl _); have HR8 := hgrew8.row (u := .slice (some ⟨w1.heap.size, 0, none⟩) R.length CP) (us := R.map encU) ⟨HRX.out.1.ext (X6.alloc _), HRX.out.2⟩
              refine hK.out _ _ (by first | exact trivial | ((try dsimp only); exact trivial)) (fun hH1 => ?_)
              clear hK K9 hH0
              have hH0 := hH1
              clear hH1
              try simp only [Act.put, List.setIfInBounds_toArray, List.set_cons_zero, List.set_cons_succ]
              refine wpAnyH_take (i := 15) (v := ?v11) rfl (by kernel_rfl) (by kernel_rfl) (by kernel_rfl) (fun _ _ _ h => h) (Or.inl ⟨by rfl, ?hy11⟩) (by assumption) ?r11
              case hy11 => (intro w9 hSw; (try dsimp only at hSw); go_simp; try with_reducible rfl)
              try simp only [Act.put, List.setIfInBounds_toArray, List.set_cons_zero, List.set_cons_succ]
              refine wpAnyH_done (by kernel_rfl) ?_ _
              all_goals
                have hown9 : Hid (w8.ownsRow wo.heap.size 9 1 v8 (xs.length + (k + 1)) ((xs ++ cutK R X0 (k + 1)).map encB)) := by
                  show World.ownsRow _ _ _ _ _ _ _
                  rw [HCK.out, ← List.append_assoc, List.map_append, ← Nat.add_assoc]
                  exact hown8
                have HR9 := Lib.hid HR8
                have HX9 := Lib.hid X8
                clear hown8 hgrew8 HR8 X8 X6 hb6
                go_wp2_with fail
                go_roundw
                case rel => exact ⟨k + 1, by omega, by go_num, hown9.out, HR9.out, HX9.out⟩
                case measure => simp [intOf]; omega
            · have hkK : k = K := by omega
              subst hkK
              have c3 : ¬ 2 * ((k : Int) + 1) < (X0 : Int) := by omega
              have c4 : k ≤ 64 := by omega
              have HX9 := Lib.hid XX
              clear XX hK
              go_wp2_with fail
              go_roundw
              case rel =>
                refine ⟨i + 1, xs ++ cutK R X0 k, by omega, by go_num, HE2.out.symm, ?_, ?_, HX9.out⟩
                · show World.ownsRow _ _ _ _ _ _ _
                  rw [List.length_append, cutK_length]
                  exact HO4.out
                · show _ ≤ _
                  rw [List.length_append, cutK_length]
                  omega
              case measure => simp [intOf]; omega
        · have hie : i = S.size := by omega
          have hge : ¬ (i : Int) < (S.size : Int) := by omega
          have hxs : xs = sN l := by rw [HE.out, hie, HSZ.out, ← sN_eq]
          have hll := HL.out
          have HXS := Lib.hid hxs
          clear hxs hie
          go_wp2_with fail
          go_ret
          exact ⟨_, rfl, by rw [← HXS.out]; exact HO.out, X⟩
end Go.Proofs.Ytnmcljjfepngeaa
