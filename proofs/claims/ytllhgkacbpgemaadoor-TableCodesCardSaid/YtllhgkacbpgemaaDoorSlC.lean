/- walks shared by the laws: slices.Grow of nil, slices.Concat at ints -/
import Derived.Test.YtllhgkacbpgemaaDoorSlB
import Derived.Lib.AppendZerosOnto
namespace Go.Proofs.YtllhgkacbpgemaaDoor
open Go.RowKit

/-- a slice of the call's own without elements, with room -/
theorem own_room (w : World) (e : TypeId) (cap : Nat) (cur : Array Value) (hc : cap ≤ maxLen) (hs : cur.size = cap * 1) (g : Nat) (hg : g = w.heap.size) :
    (w.alloc (.cells cur e)).ownsRow w.heap.size e 1 (.slice (some ⟨g, 0, none⟩) 0 cap) 0 [] := by
  subst hg
  exact ⟨rfl, .inr ⟨w.heap.size, cap, cur, rfl, Nat.le_refl _, Array.getElem?_push_size, Nat.zero_le _, hc, hs, by simp⟩⟩

/-- append of a made slice to nil -/
theorem wp_appz {P : Program} {rest : List Oper} {oa : Array Oper} {o : Oper} {a : Act} {Q : Exit → Act → World → Prop} {w : World} (hg : o.guard = none) {s x : Operand} {t tn e : TypeId} {z : Value} {bytes : Nat} {kn kq : IntKind}
    (ho : o.op = .call { callee := .builtin .append, args := #[s, x], argTypes := #[t, tn] }) (ei : EI P t e z 1 bytes) (htn : P.underlying tn = some (.int kn)) (hs : a.eval s = .slice none 0 0) {k : Nat} (hx : a.eval x = .int kq k)
    (h0 : 0 < k) (hlen : k ≤ 17592186044416) (hby : k * bytes ≤ 140737488355328)
    (h : ∀ cap (cur : Array Value), k ≤ cap → cap ≤ maxLen → cur.size = cap * 1 → wpList P oa Q rest (a.put o.dst (.slice (some ⟨w.heap.size, 0, none⟩) k cap)) (w.drew.alloc (.cells cur e))) : wpList P oa Q (o :: rest) a w := by
  refine wpList_plain hg fun K hK => ?_
  obtain ⟨i, hi, hz, hs1, hb⟩ := ei.info
  have hz1 := ei.zc
  subst hb
  have hr := Lib.run_append_grow_zeros (P := P) w t tn o.type e i z kq kn ei.und htn hi hz none 0 0 [] (by exact run_firstCells_none w.drew i.size 0 0 0) k h0 (by omega) (by omega) (by omega) (by omega) (growslice_fits (by omega) (by rw [Nat.zero_add]; exact hby))
  simp only [Nat.zero_add] at hr
  unfold Oper.wp execOp
  simp only [ho, resolve, invoke, builtin, Sem.run_bind, Sem.run_pure, Result.andThen_ok, List.map_toArray, List.map_cons, List.map_nil, hs, hx, hr]
  refine hK _ _ (h _ _ (grownCap_ge _ _ _ _) (grownCap_le_maxLen _ _ _ _ (by unfold maxLen; omega)) ?_)
  have hge := grownCap_ge w k 0 e
  simp [Builtin.zeroCells, hz1]
  omega

set_option maxHeartbeats 400000 in
set_option maxRecDepth 100000 in
theorem grow_nil (k : Nat) (w : World) (hk : k ≤ 17592186044416) :
    Calls Tryd.prog 41 #[.slice none 0 0, .int .i64 k] w fun e w' => ∃ u, e = .returned u ∧ w'.ownsRow w.heap.size 3 1 u 0 [] ∧ Ext w w' := by
  by_cases h0 : k = 0
  · subst h0
    go_enter Tryd.func41, Tryd.ntmps41
    go_wp2_with fail
    go_ret
    exact ⟨_, rfl, World.ownsRow_nil _ _ _ _, Ext.refl _⟩
  · have h1 : 0 < k := by omega
    have h1' : 0 < (k : Int) := by omega
    clear h0
    go_enter Tryd.func41, Tryd.ntmps41
    go_wp2_with (at_builtin; refine wp_appz rfl rfl ei_ints Tryd.underlying3 rfl rfl h1 hk (by omega) ?_; intro cap cur hcap hcm hcs)
    go_ret
    exact ⟨_, rfl, own_mono (own_room w.drew _ cap cur hcm hcs _ rfl) (by exact Nat.le_refl _), ((Ext.refl w).drew).alloc _⟩

/-- the sum of the lengths -/
def lsum (xss : List (List Int)) : Nat := (xss.map List.length).sum
theorem lsum_snoc {xss : List (List Int)} {k : Nat} {x : List Int} (h : Hid (xss.take (k + 1) = xss.take k ++ [x])) : lsum (xss.take (k + 1)) = lsum (xss.take k) + x.length := by
  rw [h.out]; simp [lsum]
theorem lsum_take (xss : List (List Int)) (k : Nat) : lsum (xss.take k) ≤ lsum xss := by
  have e : lsum xss = lsum (xss.take k) + lsum (xss.drop k) := by
    unfold lsum
    rw [← List.sum_append, ← List.map_append, List.take_append_drop]
  omega
theorem flatten_len (xss : List (List Int)) : xss.flatten.length = lsum xss := by simp [lsum, List.length_flatten]

set_option maxHeartbeats 800000 in
set_option maxRecDepth 100000 in
theorem concat_ints (v : Value) (xss : List (List Int)) (w : World) (hv : Rows (Value.int .i64) w v xss) (hsum : lsum xss ≤ 17592186044416) :
    Calls Tryd.prog 20 #[v] w fun e w' => ∃ u, e = .returned u ∧ w'.ownsRow w.heap.size 3 1 u (lsum xss) (xss.flatten.map (Value.int .i64)) ∧ Ext w w' := by
  obtain ⟨us, ⟨ao, c, rfl, _, hlen, _, hc⟩, hl, hr⟩ := hv
  have HC := Lib.hid hc; have HR := Lib.hid hr; have HL := Lib.hid hl
  clear hc hr hl
  obtain ⟨T, hT⟩ : ∃ T, Hid (lsum xss = T) := ⟨_, rfl⟩
  rw [hT.out] at hsum ⊢
  have HG := Lib.hid (fun W => grow_nil T W hsum)
  go_enter Tryd.func20, Tryd.ntmps20
  go_wp2_with fail
  go_loop [3, 11] (fun s i => ∃ k m : Nat, k ≤ us.length ∧ m ≤ T ∧ i = .int .i64 k ∧ s = .int .i64 m ∧ Hid (lsum (xss.take k) = m)) (fun _ i => us.length - (intOf i).toNat)
  case atStart => exact ⟨0, 0, Nat.zero_le _, Nat.zero_le _, rfl, rfl, rfl⟩
  case round =>
    obtain ⟨k, m, hk, hm, rfl, rfl, HI⟩ := hrel
    by_cases hlt : k < us.length
    · obtain ⟨u, h1, _, _⟩ := get_lt hlt
      obtain ⟨x, g1, _, g3⟩ := get_lt (xs := xss) (k := k) (by rw [← HL.out]; exact hlt)
      obtain ⟨b, off, rfl, hcell⟩ := HC.out k u h1.out
      obtain ⟨ao2, c2, rfl, hl2, _⟩ := (HR.out k u x h1.out g1.out).open
      have hs1 := lsum_snoc g3
      have hs2 := lsum_take xss (k + 1)
      rw [hs1, HI.out, hT.out] at hs2
      rw [HI.out] at hs1
      have hs1 := Lib.hid hs1
      go_wp2_with fail
      go_round
      case rel => exact ⟨k + 1, m + x.length, by omega, hs2, by go_num, by go_num, hs1.out⟩
      case measure => simp [intOf]; omega
    · obtain ⟨_, h1⟩ := get_ge (xs := xss) (k := k) (by rw [← HL.out]; exact hlt)
      have hmT : m = T := by rw [← HI.out, h1.out, hT.out]
      subst hmT
      clear hm
      go_wp2_with fail
      refine (HG.out _).mono ?_
      rintro e w' ⟨u, rfl, hO, hX⟩
      go_wp2_with fail
      go_loopw [6, 27] (fun u i wr => ∃ k n : Nat, k ≤ us.length ∧ n ≤ m ∧ i = .int .i64 k ∧ Hid (lsum (xss.take k) = n) ∧ Ext w wr ∧ wr.ownsRow w.heap.size 3 1 u n ((xss.take k).flatten.map (Value.int .i64))) (fun _ i _ => us.length - (intOf i).toNat)
      case atStart => exact ⟨0, 0, Nat.zero_le _, Nat.zero_le _, rfl, rfl, hX, hO⟩
      case round =>
        obtain ⟨k, n, hk, hn, rfl, HN, HX, HO⟩ := hrel
        have hsz := HX.size
        by_cases hlt : k < us.length
        · obtain ⟨u2, h1, _, _⟩ := get_lt hlt
          obtain ⟨x, g1, _, g3⟩ := get_lt (xs := xss) (k := k) (by rw [← HL.out]; exact hlt)
          obtain ⟨b, off, rfl, hcell0⟩ := HC.out k u2 h1.out
          have hcell := HX.cell hcell0
          clear hcell0
          have hrow := (HR.out k u2 x h1.out g1.out).ext HX
          have hsrc := hrow.src (fun _ => rfl)
          obtain ⟨ao2, c2, rfl, hl2, _⟩ := hrow.open
          have hsrc := Lib.hid hsrc
          clear hrow
          have hs1 := lsum_snoc g3
          have hs2 := lsum_take xss (k + 1)
          rw [hs1, HN.out, hT.out] at hs2
          rw [HN.out] at hs1
          have hs1 := Lib.hid hs1
          go_wp2_with (at_builtin; refine wp_app rfl rfl ei_ints rfl HO rfl hsrc.out (by omega) (by omega) (by omega) ?_; intro v' w' hown hgrew)
          go_roundw
          case rel => exact ⟨k + 1, n + x.length, by omega, hs2, by go_num, hs1, hgrew.extNew HX HO (Nat.le_refl _), by rw [g3.out]; simpa using hown⟩
          case measure => simp [intOf]; omega
        · obtain ⟨_, h1⟩ := get_ge (xs := xss) (k := k) (by rw [← HL.out]; exact hlt)
          have hnm : n = m := by rw [← HN.out, h1.out, hT.out]
          subst hnm
          go_wp2_with fail
          go_ret
          exact ⟨_, rfl, by rw [h1.out] at HO; exact HO, HX⟩
end Go.Proofs.YtllhgkacbpgemaaDoor
