/- walks of the reference: text, NatAdd, NatSub, NatCmp; of the law: first, natural -/
import Derived.Test.YtecfphohmgbddaaGreatDoorNatQ
namespace Go.Proofs.YtecfphohmgbddaaGreatDoor
open Go.RowKit
set_option linter.unusedVariables false

theorem info_u8' : (Tryz.prog.info? 5).map (fun i => (i.zero, i.size, i.bytes)) = some (some (.int .u8 0), 1, 1) := by kernel_rfl
theorem ei_u8' : EI Tryz.prog 125 5 (.int .u8 0) 1 1 := ⟨Tryz.underlying125, info_parts info_u8', rfl, by decide⟩
theorem info_int' : (Tryz.prog.info? 3).map (fun i => (i.zero, i.size, i.bytes)) = some (some (.int .i64 0), 1, 8) := by kernel_rfl
theorem ei_ints' : EI Tryz.prog 75 3 (.int .i64 0) 1 8 := ⟨Tryz.underlying75, info_parts info_int', rfl, by decide⟩

def encB (d : Nat) : Value := .int .u8 d
def encI (d : Nat) : Value := .int .i64 d
/-- the numbers of a text of digits -/
def bn (ds : List Nat) : List Nat := ds.reverse.map (48 + ·)

theorem bl_bn {ds : List Nat} (h : D9 ds) : (bl ds).map (fun b => (b.toNat : Nat)) = bn ds := by
  unfold bl bn
  rw [List.map_map]
  apply List.map_congr_left
  intro d hd
  exact byte48 (h d (List.mem_reverse.1 hd))
theorem bn_take {ds : List Nat} {i d : Nat} (h : ds.take (i + 1) = ds.take i ++ [d]) : bn (ds.take (i + 1)) = (48 + d) :: bn (ds.take i) := by
  rw [h]; simp [bn]
theorem bn_length (ds : List Nat) : (bn ds).length = ds.length := by simp [bn]

abbrev DigV (w : World) (v : Value) (ds : List Nat) : Prop := RowOf encI w v ds

set_option maxHeartbeats 1600000 in
set_option maxRecDepth 100000 in
theorem dtext_any (v : Value) (ds : List Nat) (w : World) (hv : DigV w v ds) (hd : D9 ds) (hl : ds.length ≤ 1073741824) :
    Calls Tryz.prog 70 #[v] w fun e w' => e = .returned (.string (decT (v10 ds))) ∧ Ext w w' := by
  obtain ⟨wo, rfl⟩ : ∃ wo : World, wo = w := ⟨_, rfl⟩
  have HT := Lib.hid (text_dd hd)
  have hts : decT (v10 ds) = ⟨(Lib.decDigits (v10 ds)).toArray⟩ := rfl
  rw [hts]
  generalize Lib.decDigits (v10 ds) = F at *
  obtain ⟨ao, c, rfl, hlen, hc⟩ := hv.open
  have HC := Lib.hid hc
  have HD := Lib.hid hd
  clear hc hd hv hts
  go_enter Tryz.func70, Tryz.ntmps70
  go_wp2_with (first
    | (at_make; refine wp_make1 rfl rfl ei_u8' rfl rfl rfl ds.length rfl rfl (by omega) (by omega) ?_; intro w2 hO2 hX2))
  go_loopw [11] (fun iv wr => ∃ (i : Nat), i ≤ ds.length ∧ iv = .int .i64 i ∧ wr.ownsRow wo.heap.size 5 1 (.slice (some ⟨wo.heap.size, 0, none⟩) ds.length ds.length) ds.length ((List.replicate (ds.length - i) 0 ++ bn (ds.take i)).map encB) ∧ Ext wo wr) (fun iv _ => ds.length - (intOf iv).toNat)
  case atStart => exact ⟨0, Nat.zero_le _, rfl, own_cast hO2 (by simp [encB, bn]) rfl, hX2⟩
  case round =>
    obtain ⟨i, hi, rfl, HO, X⟩ := hrel
    by_cases hlt : i < ds.length
    · obtain ⟨d, d1, d2, d3⟩ := get_lt hlt
      obtain ⟨b, off, rfl, hc0⟩ := (HC.out.ext X).at d1
      have hcell : wr.cell? ⟨b, off + i, none⟩ = some (.int .i64 d) := hc0
      have hd9 := HD.out d (List.mem_of_getElem? d1.out)
      have hdi : (d : Int) ≤ 9 := by omega
      have hki : (i : Int) < (ds.length : Int) := by omega
      obtain ⟨j, hj⟩ : ∃ j, ds.length - 1 - i = j := ⟨_, rfl⟩
      have hjl : j < ds.length := by omega
      have hji : (ds.length : Int) - 1 - (i : Int) = (j : Int) := by omega
      have hdm : (48 + (d : Int)) % 256 = 48 + (d : Int) := by omega
      have c1 := own_cell HO (j := j) (x := .int .u8 0) (by show _ = _; rw [List.map_append, List.map_replicate, List.getElem?_append_left (by simp; omega), List.getElem?_replicate, if_pos (by omega)]; rfl)
      have f1 := HO.frozenAt j
      have s1 := HO.stored j (.int .u8 (48 + (d : Int)))
      have hset : ((List.replicate (ds.length - i) 0 ++ bn (ds.take i)).map encB).set j (.int .u8 (48 + (d : Int))) = (List.replicate (ds.length - (i + 1)) 0 ++ bn (ds.take (i + 1))).map encB := by
        rw [bn_take d3.out, show ds.length - i = j + 1 by omega, show ds.length - (i + 1) = j by omega, List.replicate_succ', List.append_assoc, List.map_append, List.set_append_right _ _ (by simp)]
        simp [encB]
      rw [hset] at s1
      have H1 := Lib.hid s1.1
      clear hc0 hj s1 hset hd9
      go_wp2_with fail
      go_roundw
      case rel => exact ⟨i + 1, by omega, by go_num, H1.out, X.setCell (Nat.le_refl _) _⟩
      case measure => simp [intOf]; omega
    · have hil : i = ds.length := by omega
      subst hil
      have hcell : ∀ j (hj : j < (bl ds).length), wr.cell? ((⟨wo.heap.size, 0, none⟩ : Addr).add j) = some (.int .u8 ((bl ds)[j].toNat : Int)) := by
        intro j hj
        have hbj : (bn ds)[j]? = some ((bl ds)[j].toNat) := by
          rw [← bl_bn HD.out, List.getElem?_map, List.getElem?_eq_getElem hj]; rfl
        have := own_cell HO (j := j) (x := .int .u8 ((bl ds)[j].toNat : Nat)) (by show _ = _; rw [Nat.sub_self, List.take_length]; simp only [List.replicate_zero, List.nil_append, List.getElem?_map, hbj]; rfl)
        by_cases hj0 : j = 0
        · subst hj0; simpa [Addr.add] using this
        · simpa [Addr.add, hj0] using this
      have hbl : (bl ds).length = ds.length := by simp [bl]
      have hback := run_convert_bytes_back (P := Tryz.prog) wr 125 9 5 ⟨wo.heap.size, 0, none⟩ ds.length (bl ds) Tryz.underlying125 Tryz.underlying5 Tryz.underlying9 hcell
      rw [hbl] at hback
      obtain ⟨T, hT⟩ : ∃ T : ByteArray, (⟨(bl ds).toArray⟩ : ByteArray) = T := ⟨_, rfl⟩
      rw [hT] at hback
      have hTs : T.size = ds.length := by rw [← hT, ← hbl]; simp [ByteArray.size]
      have hTl : T.data.toList = bl ds := by rw [← hT]
      have hS : Hid (stripL ((⟨#[48]⟩ : ByteArray) ++ T).data.toList = F) := by
        show _ = _
        rw [show ((⟨#[48]⟩ : ByteArray) ++ T).data.toList = 48 :: T.data.toList by simp, hTl]; exact HT.out
      have HS := Lib.hid (fun W => strip_any ((⟨#[48]⟩ : ByteArray) ++ T) W (by rw [ByteArray.size_append, hTs]; show 1 + ds.length ≤ _; omega) F hS)
      clear hTl hT hbl hcell hS
      go_wp2_with fail
      refine (HS.out _).mono ?_
      rintro e w3 ⟨rfl, X3⟩
      go_wp2_with fail
      go_ret
      exact ⟨rfl, X.trans X3⟩
end Go.Proofs.YtecfphohmgbddaaGreatDoor
