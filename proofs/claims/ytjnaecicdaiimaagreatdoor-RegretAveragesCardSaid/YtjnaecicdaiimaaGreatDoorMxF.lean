/- walk: matrix.Transpose -/
import Derived.Test.YtjnaecicdaiimaaGreatDoorMxC
namespace Go.Proofs.YtjnaecicdaiimaaGreatDoor
open Go.RowKit
set_option linter.unusedVariables false

theorem ei_vecs : EI Tryz.prog 36 33 (.string ⟨#[]⟩) 1 16 := ⟨Tryz.underlying36, info_parts info_rat, rfl, by decide⟩
def tcol (m : List (List ByteArray)) (k : Nat) : List ByteArray := m.map (·.getD k ⟨#[]⟩)
def transS (m : List (List ByteArray)) : List (List ByteArray) := (List.range (wideL m)).map (tcol m)

set_option maxHeartbeats 1600000 in
set_option maxRecDepth 100000 in
theorem trans_err (v : Value) (m : List (List ByteArray)) (w : World) (hv : Rows Value.string w v m) (hs : ∀ l ∈ m, ∀ s ∈ l, s.size ≤ 9223372036854775806) (he : matE m ≠ 0) :
    Calls Tryz.prog 33 #[v] w fun e w' => e = .returned (.tuple #[.slice none 0 0, .int .i64 (matE m)]) ∧ Ext w w' := by
  have HC1 := Lib.hid (mCheck_any v m w hv hs _ rfl)
  obtain ⟨us, hr, hul, hel⟩ := hv
  obtain ⟨ao, c, rfl, _, hlen, _, hc⟩ := hr
  generalize matE m = p at *
  have hb : (p != 0) = true := by simp [he]
  clear hc hel hul hs he
  go_enter Tryz.func33, Tryz.ntmps33
  go_wp2_with fail
  refine HC1.out.mono ?_
  rintro e w1 ⟨rfl, X1⟩
  go_wp2_with fail
  go_ret2
  exact ⟨rfl, X1⟩

set_option maxHeartbeats 3200000 in
set_option maxRecDepth 100000 in
theorem trans_ok (v : Value) (m : List (List ByteArray)) (w : World) (hv : Rows Value.string w v m) (hs : ∀ l ∈ m, ∀ s ∈ l, s.size ≤ 9223372036854775806) (he : matE m = 0) :
    Calls Tryz.prog 33 #[v] w fun e w' => ∃ u, e = .returned (.tuple #[u, .int .i64 0]) ∧ Rows Value.string w' u (transS m) ∧ Ext w w' := by
  obtain ⟨hm40, hok1⟩ := matE_zero hs he
  have HC1 := Lib.hid (mCheck_any v m w hv hs 0 he)
  have HW1 := Lib.hid (fun W (hx : Ext w W) => mWidth_any v m W (hv.ext hx))
  obtain ⟨us, hr, hul, hel⟩ := hv
  obtain ⟨ao, c, rfl, _, hlen, _, hc⟩ := hr
  have HC := Lib.hid hc
  have HEL := Lib.hid hel
  have HUL := Lib.hid hul
  have HWD := Lib.hid (fun l hl => (hok1 l hl).1)
  have hu1 : us.length ≤ 40 := by omega
  have hw40 : wideL m ≤ 40 := by
    cases hb : m with
    | nil => exact Nat.zero_le _
    | cons r t =>
      have := (hok1 r (by rw [hb]; exact List.mem_cons_self ..)).2.1
      exact this
  have HML : Hid ((transS m).length = wideL m) := by show _ = _; unfold transS; rw [List.length_map, List.length_range]
  have HMG : Hid (∀ i, i < wideL m → (transS m)[i]? = some (tcol m i)) := fun i hi => by unfold transS; rw [List.getElem?_map, List.getElem?_range hi]; rfl
  generalize transS m = M at *
  generalize wideL m = n at *
  clear hc hel hul hs he hok1 hm40
  go_enter Tryz.func33, Tryz.ntmps33
  go_wp2_with fail
  refine HC1.out.mono ?_
  rintro e w1 ⟨rfl, X1⟩
  go_wp2_with fail
  refine (HW1.out _ X1).mono ?_
  rintro e w2 ⟨rfl, X2⟩
  have XW := X1.trans X2
  clear X1 X2 HC1 HW1
  go_wp2_with fail
  go_loopw [5, 17] (fun ov iv wr => ∃ (i : Nat) (xs : List Value), i ≤ n ∧ iv = .int .i64 i ∧ Hid (wr.ownsRow w2.heap.size 36 1 ov i xs) ∧ Hid (RowsX w2.heap.size ov.ownBlock wr xs ((M.take i).map (·.map Value.string))) ∧ Ext w2 wr) (fun _ iv _ => n - (intOf iv).toNat)
  case atStart => exact ⟨0, [], Nat.zero_le _, rfl, World.ownsRow_nil _ _ _ _, RowsX.nil _ _ _, Ext.refl _⟩
  case round =>
    obtain ⟨i, xs, hi, rfl, HO, HRX, X⟩ := hrel
    obtain ⟨wi, rfl⟩ : ∃ wi : World, wi = wr := ⟨_, rfl⟩
    by_cases hlt : i < n
    · have hki : (i : Int) < (n : Int) := by omega
      have HTK : Hid (M.take (i + 1) = M.take i ++ [tcol m i]) := by
        show _ = _
        have h1 := HMG.out i hlt
        obtain ⟨h2, h3⟩ := List.getElem?_eq_some_iff.1 h1
        rw [List.take_succ_eq_append_getElem h2, h3]
      generalize M.take i = M1 at *
      have HKL : Hid ((tcol m i).length = us.length) := by show _ = _; unfold tcol; rw [List.length_map]; exact HUL.out.symm
      have HKG : Hid (∀ (j : Nat) (r : List ByteArray), m[j]? = some r → (tcol m i)[j]? = some (r.getD i ⟨#[]⟩)) := fun j r h => by unfold tcol; rw [List.getElem?_map, h]; rfl
      generalize tcol m i = col at *
      go_wp2_with fail
      go_loopw [7, 22] (fun cv jv wr => ∃ (j : Nat), j ≤ us.length ∧ jv = .int .i64 j ∧ Hid (wr.ownsRow wi.heap.size 33 1 cv j ((col.take j).map Value.string)) ∧ Ext wi wr) (fun _ jv _ => us.length - (intOf jv).toNat)
      case atStart => exact ⟨0, Nat.zero_le _, rfl, World.ownsRow_nil _ _ _ _, Ext.refl _⟩
      case round =>
        obtain ⟨j, hj, rfl, HC2, Y⟩ := hrel
        by_cases hlt2 : j < us.length
        · obtain ⟨u, d1, d2, d3⟩ := get_lt hlt2
          obtain ⟨r, q1, q2, q3⟩ := get_lt (xs := m) (k := j) (by rw [← HUL.out]; exact hlt2)
          have XX := (XW.trans X).trans Y
          obtain ⟨b, off, rfl, hc0⟩ := HC.out.ext XX j u d1.out
          have hcell : wr.cell? ⟨b, off + j, none⟩ = some u := hc0
          have hrw := HWD.out r (List.mem_of_getElem? q1.out)
          obtain ⟨ao2, c2, rfl, hlen2, hQ⟩ := ((HEL.out j u r d1.out q1.out).ext XX).open
          obtain ⟨q, p1, _, _⟩ := get_lt (show i < r.length by omega)
          obtain ⟨b2, off2, rfl, hq0⟩ := hQ.at p1
          have hqcell : wr.cell? ⟨b2, off2 + i, none⟩ = some (.string q) := hq0
          have hkj : (j : Int) < (us.length : Int) := by omega
          have hkr : (i : Int) < (r.length : Int) := by omega
          have HTJ : Hid ((col.take (j + 1)).map Value.string = (col.take j).map Value.string ++ [.string q]) := by
            show _ = _
            have h1 := HKG.out j r q1.out
            rw [List.getD_eq_getElem?_getD, p1.out] at h1
            obtain ⟨h2, h3⟩ := List.getElem?_eq_some_iff.1 h1
            rw [List.take_succ_eq_append_getElem h2, h3, List.map_append]
            rfl
          generalize (col.take j).map Value.string = C1 at *
          have hsz := Y.size
          have HCO := HC2.out
          clear hc0 hq0 hlt2 hrw hQ HC2
          go_wp2_with (at_builtin; refine wp_app1 (s := .tmp 26) (x := .tmp 31) (y := .string q) rfl rfl ei_vecs HCO rfl rfl rfl rfl (by omega) (by omega) (by omega) ?_; intro v' w' hown hgrew)
          have HE := Lib.hid (hgrew.extNew Y HCO (Nat.le_refl _))
          rw [← HTJ.out] at hown
          have HOW := Lib.hid hown
          go_roundw
          case rel => exact ⟨j + 1, by omega, by go_num, HOW, HE.out⟩
          case measure => simp [intOf] <;> omega
        · have hjl : us.length = j := by omega
          have hcc : col.take j = col := by rw [← hjl, ← HKL.out]; exact List.take_length
          have HC3 := HC2.out
          rw [hcc] at HC3
          have hrow := own_row HC3 (by omega)
          have hfr := own_fr (vs := col.map Value.string) HC3 (fun hne => by
            have := HC3.1
            have := List.length_pos_iff.2 hne
            omega)
          obtain ⟨yo, yc, rfl, _, _, _, _⟩ := (show Row _ _ _ from hrow)
          have HO4 := own_ext HO.out Y
          have XA := X.trans Y
          have hsz := XA.size
          have hwr : wi.heap.size ≤ wr.heap.size := Y.size
          have HLT := Lib.hid (fun k hk => ((HO.out).lt k hk).2)
          have HRX3 := Lib.hid ((HRX.out.ext Y).snoc ⟨hrow, hfr.away HLT.out⟩ (hfr.mono X.size))
          generalize (col.map Value.string).length = n1 at *
          clear hcc HC3 HC2 hrow hfr HO HRX hjl
          go_wp2_with (at_builtin; refine wp_app1 (s := .tmp 34) (x := .tmp 36) (y := .slice yo n1 yc) rfl rfl ei_mat HO4 rfl rfl rfl rfl (by omega) (by omega) (by omega) ?_; intro v' w' hown hgrew)
          have HRY0 := HRX3.out.grew ⟨hgrew.by', hgrew.blk⟩
          have HRY := Lib.hid (show RowsX w2.heap.size v'.ownBlock w' (xs ++ [.slice yo n1 yc]) ((M.take (i + 1)).map (·.map Value.string)) by rw [HTK.out, List.map_append]; exact HRY0)
          have HE := Lib.hid (hgrew.extNew XA HO4 (Nat.le_refl _))
          have HOW := Lib.hid hown
          clear HRY0
          go_roundw
          case rel => exact ⟨i + 1, xs ++ [.slice yo n1 yc], by omega, by go_num, HOW, HRY, HE.out⟩
          case measure => simp [intOf] <;> omega
    · have hil : n = i := by omega
      have hmm : M.take i = M := by rw [← hil, ← HML.out]; exact List.take_length
      have HR0 := HRX.out
      rw [hmm] at HR0
      have HR := Lib.hid (rowsX_rows HR0 (own_row HO.out (by omega)))
      have XZ := XW.trans X
      clear hlt hmm HO HRX HR0
      go_wp2_with fail
      go_ret2
      exact ⟨_, rfl, HR.out, XZ⟩
end Go.Proofs.YtjnaecicdaiimaaGreatDoor
