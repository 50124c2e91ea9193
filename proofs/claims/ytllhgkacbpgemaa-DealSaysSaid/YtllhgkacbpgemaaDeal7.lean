/- walks of the package deal: Missing -/
import Derived.Test.YtllhgkacbpgemaaDeal6
namespace Go.Proofs.Ytllhgkacbpgemaa
open Go.RowKit

def waitB (s : Int) (p : PV) : Bool := (s == 0 && !p.sealed) || (s == 1 && !p.opened)
/-- the players ahead of a place for whom all wait -/
def missTo (s : Int) (l : List PV) : Nat → List Int
  | 0 => []
  | k + 1 => missTo s l k ++ (match l[k]? with | some p => if waitB s p then [(k : Int)] else [] | none => [])
def missF (s : Int) (l : List PV) : List Int := missTo s l l.length

theorem missTo_len (s : Int) (l : List PV) : ∀ k, (missTo s l k).length ≤ k := by
  intro k
  induction k with
  | zero => simp [missTo]
  | succ k ih =>
    simp only [missTo, List.length_append]
    cases l[k]? with
    | none => simp; omega
    | some p => by_cases h : waitB s p <;> simp [h] <;> omega

theorem own_n {w : World} {B : Nat} {e : TypeId} {v : Value} {n : Nat} {vs : List Value} (h : w.ownsRow B e 1 v n vs) : vs.length = n := by simpa using h.1

theorem missTo_yes {s : Int} {l : List PV} {k : Nat} {p : PV} (h : Hid (l[k]? = some p)) (hw : waitB s p = true) : missTo s l (k + 1) = missTo s l k ++ [(k : Int)] := by
  simp [missTo, h.out, hw]
theorem missTo_no {s : Int} {l : List PV} {k : Nat} {p : PV} (h : Hid (l[k]? = some p)) (hw : waitB s p = false) : missTo s l (k + 1) = missTo s l k := by
  simp [missTo, h.out, hw]

set_option maxHeartbeats 1600000 in
set_option maxRecDepth 100000 in
theorem missing_any (B tb pb : Nat) (n : Int) (l : List PV) (cheat : Int) (w : World) (hv : Tab w B tb pb n l cheat) :
    Calls Try.prog 55 #[.pointer (some ⟨tb, 0, none⟩)] w fun e w' => ∃ u, e = .returned u ∧ Ints w' u (missF (stageF l cheat) l) ∧ Ext w w' := by
  have HS := Lib.hid (stage_any B tb pb n l cheat w hv)
  have HV := Lib.hid hv
  have hlen := hv.len
  clear hv
  obtain ⟨s, hs⟩ : ∃ s, Hid (stageF l cheat = s) := ⟨_, rfl⟩
  obtain ⟨s2, hs2⟩ : ∃ s2, Hid (stageF l cheat = s2) := ⟨_, rfl⟩
  have HE : Hid (s2 = s) := hs2.out.symm.trans hs.out
  rw [hs2.out]
  rw [hs.out] at HS
  have hcs : s = 0 ∨ s = 1 ∨ ((s == 0) = false ∧ (s == 1) = false) := by
    by_cases h0 : s = 0
    · exact .inl h0
    · by_cases h1 : s = 1
      · exact .inr (.inl h1)
      · exact .inr (.inr ⟨by simp [h0], by simp [h1]⟩)
  rcases hcs with rfl | rfl | ⟨hs0, hs1⟩
  all_goals
    go_enter Try.func55, Try.ntmps55
    go_wp2_with fail
    refine HS.out.mono ?_
    rintro e w1 ⟨rfl, hx⟩
    have c1 := (HV.out.ext hx).c1
    go_wp2_with fail
    go_loopw [4, 14] (fun u i wr => ∃ (k m : Nat), k ≤ l.length ∧ i = .int .i64 k ∧ Ext w wr ∧ m ≤ k ∧ wr.ownsRow w.heap.size 3 1 u m ((missTo s2 l k).map (Value.int .i64))) (fun _ i _ => l.length - (intOf i).toNat)
    case atStart => exact ⟨0, 0, Nat.zero_le _, rfl, hx, Nat.le_refl _, World.ownsRow_nil _ _ _ _⟩
    case round =>
      obtain ⟨k, m, hk, rfl, HX, hm, HO⟩ := hrel
      have hsz := HX.size
      by_cases hlt : k < l.length
      · obtain ⟨p, h1, _, _⟩ := get_lt hlt
        obtain ⟨c0, c1, c2, c3⟩ := (HV.out.ext HX).p h1
        obtain ⟨a, b, mk, da, dl, dc⟩ := p
        simp only [PV.draws] at c0 c1 c2 c3
        cases a <;> cases b
        all_goals
          go_wp2_with (at_builtin; refine wp_app1 rfl rfl ei_ints (own_ext HO ((Ext.refl wr).alloc _)) rfl rfl (by simp) rfl (by omega) (by omega) (by simp; omega) ?_; intro v' w' hown hgrew)
          go_roundw
          case rel =>
            first
              | exact ⟨k + 1, m, by omega, by go_num, HX.alloc _, by omega, by rw [missTo_no h1 (by rw [HE.out]; first | rfl | simp [waitB, *])]; exact own_ext HO ((Ext.refl wr).alloc _)⟩
              | exact ⟨k + 1, m + 1, by omega, by go_num, hgrew.extNew (HX.alloc _) (own_ext HO ((Ext.refl wr).alloc _)) (Nat.le_refl _), by omega, by rw [missTo_yes h1 (by rw [HE.out]; first | rfl | simp [waitB, *]), List.map_append]; exact hown⟩
          case measure => simp [intOf]; omega
      · have hkl : k = l.length := by omega
        subst hkl
        go_wp2_with fail
        go_ret
        exact ⟨_, rfl, own_rowOf HO (by omega), HX⟩
end Go.Proofs.Ytllhgkacbpgemaa
