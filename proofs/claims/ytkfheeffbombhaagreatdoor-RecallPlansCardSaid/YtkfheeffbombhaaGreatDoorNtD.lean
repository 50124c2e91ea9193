/- texts merged: NatT NatX NatY NatU -/
import Derived.Test.YtkfheeffbombhaaGreatDoorNtC
/- walks: NatCmp of the reference; first, natural; the law NatSums -/
namespace Go.Proofs.YtkfheeffbombhaaGreatDoor
open Go.RowKit
set_option linter.unusedVariables false

set_option maxHeartbeats 800000 in
set_option maxRecDepth 100000 in
theorem rNatCmp_any (a b : ByteArray) (w : World) (ca : Canon a.data.toList) (cb : Canon b.data.toList) (hla : a.size ≤ 1000000) (hlb : b.size ≤ 1000000) :
    Calls Tryz.prog 141 #[.string a, .string b] w fun e w' => e = .returned (.int .i64 (cmpZ (numB a) (numB b))) ∧ w = w' := by
  obtain ⟨q, hq⟩ : ∃ q, cmpZ (numB a) (numB b) = q := ⟨_, rfl⟩
  rw [hq]
  have hq2 := hq
  unfold cmpZ at hq2
  clear hq
  by_cases h1 : a.size < b.size
  · have := canon_lt ca cb (by rw [bsz, bsz]; exact h1)
    rw [if_pos (by unfold numB; exact this)] at hq2
    subst hq2
    have h1i : (a.size : Int) < (b.size : Int) := by omega
    clear this ca cb h1
    go_enter Tryz.func141, Tryz.ntmps141
    go_wp2_with fail
    go_ret
    exact ⟨rfl, rfl⟩
  · have h1i : (b.size : Int) ≤ (a.size : Int) := by omega
    by_cases h2 : b.size < a.size
    · have := canon_lt cb ca (by rw [bsz, bsz]; exact h2)
      rw [if_neg (by unfold numB; omega), if_pos (by unfold numB; exact this)] at hq2
      subst hq2
      have h2i : (b.size : Int) < (a.size : Int) := by omega
      clear this ca cb h1 h2 h1i
      go_enter Tryz.func141, Tryz.ntmps141
      go_wp2_with fail
      go_ret
      exact ⟨rfl, rfl⟩
    · have h2i : (a.size : Int) ≤ (b.size : Int) := by omega
      have hless := bytes_less ca.1 cb.1 (by rw [bsz, bsz]; omega)
      rw [← Lib.toList_data a, ← Lib.toList_data b] at hless
      by_cases h3 : numB a < numB b
      · rw [if_pos h3] at hq2
        subst hq2
        have hb : Op.bytesLess a.toList b.toList = true := by rw [hless]; simp only [Lib.toList_data]; exact decide_eq_true h3
        clear hless ca cb h1 h2 h3
        go_enter Tryz.func141, Tryz.ntmps141
        go_wp2_with fail
        go_ret
        exact ⟨rfl, rfl⟩
      · rw [if_neg h3] at hq2
        have hb : Op.bytesLess a.toList b.toList = false := by rw [hless]; simp only [Lib.toList_data]; exact decide_eq_false h3
        by_cases h4 : numB b < numB a
        · rw [if_pos h4] at hq2
          subst hq2
          have he : (a.toList == b.toList) = false := by
            rw [beq_eq_false_iff_ne]
            intro e
            rw [Lib.toList_data, Lib.toList_data] at e
            unfold numB at h4
            rw [e] at h4
            omega
          clear hless ca cb h1 h2 h3 h4
          go_enter Tryz.func141, Tryz.ntmps141
          go_wp2_with fail
          go_ret
          exact ⟨rfl, rfl⟩
        · rw [if_neg h4] at hq2
          subst hq2
          have he : (a.toList == b.toList) = true := by
            rw [beq_iff_eq, Lib.toList_data, Lib.toList_data]
            exact canon_eq ca cb (by unfold numB at h3 h4; omega)
          clear hless ca cb h1 h2 h3 h4
          go_enter Tryz.func141, Tryz.ntmps141
          go_wp2_with fail
          go_ret
          exact ⟨rfl, rfl⟩

def firstF : List Int → Int
  | [] => 0
  | x :: t => if x ≠ 0 then x else firstF t

end Go.Proofs.YtkfheeffbombhaaGreatDoor
/- plain: the reference's division, one digit of the text after the other -/
namespace Go.Proofs.YtkfheeffbombhaaGreatDoor
open Go.RowKit
set_option linter.unusedVariables false

theorem numB_decT (n : Nat) : numB (decT n) = n := by unfold numB; rw [decT_list, decF_dd]
theorem canon_decT (n : Nat) : Canon (decT n).data.toList := by rw [decT_list]; exact dd_canon n
theorem strip0 {l : List UInt8} (h : AllD l) : stripL (48 :: l) = Lib.decDigits (decF 0 l) := by
  rw [stripL_dd (fun b hb => by
    rcases List.mem_cons.1 hb with rfl | hb
    · decide
    · exact h b hb) (by simp), decF_cons]
  have : (0 * 10 + ((48 : UInt8).toNat - 48)) = 0 := by decide
  rw [this]
theorem canon_pos {l : List UInt8} (h : Canon l) (h0 : decF 0 l ≠ 0) : tenP (l.length - 1) ≤ decF 0 l := by
  have hd := canon_dd h
  have hne : 0 < l.length := List.length_pos_iff.2 h.2.1
  rcases Nat.lt_or_ge (decF 0 l) (tenP (l.length - 1)) with hlt | hge
  · exfalso
    by_cases h1 : l.length = 1
    · rw [h1] at hlt
      have : tenP (1 - 1) = 1 := rfl
      omega
    · obtain ⟨k, hk⟩ : ∃ k, l.length - 1 = k + 1 := ⟨l.length - 2, by omega⟩
      rw [hk] at hlt
      have := dd_len_lt hlt
      rw [← hd] at this
      omega
  · exact hge
theorem dd_mono {x y : Nat} (h : x ≤ y) : (Lib.decDigits x).length ≤ (Lib.decDigits y).length := by
  have h1 := decF_lt (dd_allD y)
  rw [decF_dd] at h1
  obtain ⟨k, hk⟩ : ∃ k, (Lib.decDigits y).length = k + 1 := ⟨(Lib.decDigits y).length - 1, by have := List.length_pos_iff.2 (dd_ne y); omega⟩
  rw [hk] at h1 ⊢
  exact dd_len_lt (Nat.lt_of_le_of_lt h h1)
theorem decF_snoc (l : List UInt8) (c : UInt8) : decF 0 (l ++ [c]) = decF 0 l * 10 + (c.toNat - 48) := by
  rw [decF_append, decF_cons, decF_nil]
theorem AllD.snoc {l : List UInt8} {c : UInt8} (h : AllD l) (hc : 48 ≤ c.toNat ∧ c.toNat ≤ 57) : AllD (l ++ [c]) := by
  intro b hb
  rcases List.mem_append.1 hb with hb | hb
  · exact h b hb
  · rw [List.mem_singleton] at hb; subst hb; exact hc

/-- the state of the division: quotient's digits so far, rest x -/
def DvI (al : List UInt8) (B i : Nat) (qs : List UInt8) (x : Nat) : Prop := AllD qs ∧ x < B ∧ decF 0 (al.take i) = decF 0 qs * B + x

theorem DvI.start {al bs : List UInt8} {n : Nat} (ha : AllD al) (hb : Canon bs) (h0 : decF 0 bs ≠ 0) (hn : n ≤ bs.length - 1) : DvI al (decF 0 bs) n [] (decF 0 (al.take n)) := by
  refine ⟨fun b hb => (by cases hb), ?_, by simp [decF_nil]⟩
  have h1 := decF_lt (ha.take n)
  have h2 : (10 : Nat) ^ (al.take n).length ≤ 10 ^ (bs.length - 1) := Nat.pow_le_pow_right (by omega) (by rw [List.length_take]; omega)
  have h3 := canon_pos hb h0
  unfold tenP at h3
  omega
theorem take_snoc {al : List UInt8} {i : Nat} {c : UInt8} (h : al[i]? = some c) : al.take (i + 1) = al.take i ++ [c] := by
  obtain ⟨h1, h2⟩ := List.getElem?_eq_some_iff.1 h
  rw [List.take_succ_eq_append_getElem h1, h2]
theorem DvI.step {al : List UInt8} {B i x t r : Nat} {qs : List UInt8} {c : UInt8} (h : DvI al B i qs x) (ha : AllD al) (hc : al[i]? = some c) (hr : r < B) (ht : r + t * B = x * 10 + (c.toNat - 48)) (ht9 : t ≤ 9) :
    DvI al B (i + 1) (qs ++ [(48 + t).toUInt8]) r := by
  obtain ⟨h1, h2, h3⟩ := h
  have hb := byte48 ht9
  refine ⟨h1.snoc (by rw [hb]; omega), hr, ?_⟩
  rw [take_snoc hc, decF_snoc, decF_snoc, hb, h3, Nat.add_mul, Nat.add_mul, Nat.mul_right_comm, show 48 + t - 48 = t by omega]
  omega
theorem DvI.small {al : List UInt8} {B i x t r : Nat} {qs : List UInt8} {c : UInt8} (h : DvI al B i qs x) (ha : AllD al) (hc : al[i]? = some c) (ht : r + t * B = x * 10 + (c.toNat - 48)) : t ≤ 9 := by
  obtain ⟨h1, h2, h3⟩ := h
  have hc9 := ha c (List.mem_of_getElem? hc)
  rcases Nat.lt_or_ge 9 t with h | h
  · exfalso
    have := Nat.mul_le_mul_right B (show 10 ≤ t from h)
    omega
  · exact h
theorem DvI.stop {al : List UInt8} {B i x : Nat} {qs : List UInt8} (h : DvI al B i qs x) (hi : al.length = i) : AllD qs ∧ decF 0 qs = decF 0 al / B ∧ x = decF 0 al % B := by
  obtain ⟨h1, h2, h3⟩ := h
  rw [← hi, List.take_length] at h3
  have := (Nat.div_mod_unique (a := decF 0 al) (b := B) (c := x) (d := decF 0 qs) (by omega)).2 ⟨by rw [h3, Nat.mul_comm]; omega, h2⟩
  exact ⟨h1, this.1.symm, this.2.symm⟩
theorem encode_dig {t : Nat} (h : t ≤ 9) : Utf8.encode (48 + (t : Int)) = ⟨#[(48 + t).toUInt8]⟩ := by
  have : t = 0 ∨ t = 1 ∨ t = 2 ∨ t = 3 ∨ t = 4 ∨ t = 5 ∨ t = 6 ∨ t = 7 ∨ t = 8 ∨ t = 9 := by omega
  rcases this with rfl | rfl | rfl | rfl | rfl | rfl | rfl | rfl | rfl | rfl <;> rfl
/-- the length of what is divided next -/
theorem next_len {x y k : Nat} {bs : List UInt8} (hx : x < decF 0 bs) (hb : AllD bs) (hy : y ≤ x * 10 + 9) : (Lib.decDigits y).length ≤ bs.length + 1 := by
  have h1 := decF_lt hb
  apply dd_len_lt
  rw [Nat.pow_succ]
  omega
end Go.Proofs.YtkfheeffbombhaaGreatDoor
/- walks of the reference: NatDiv, NatGcd -/
namespace Go.Proofs.YtkfheeffbombhaaGreatDoor
open Go.RowKit
set_option linter.unusedVariables false

theorem ext_one {a : ByteArray} {i : Nat} {c : UInt8} (h : a.data.toList[i]? = some c) : (a.extract i (i + 1)).data.toList = [c] := by
  obtain ⟨h1, h2⟩ := List.getElem?_eq_some_iff.1 h
  rw [ByteArray.data_extract, Array.toList_extract, List.extract_eq_take_drop, show i + 1 - i = 1 by omega]
  rw [List.drop_eq_getElem_cons h1, h2]
  rfl

set_option maxHeartbeats 3200000 in
set_option maxRecDepth 100000 in
theorem rNatDiv_any (a b : ByteArray) (w : World) (ha : AllD a.data.toList) (cb : Canon b.data.toList) (hb0 : numB b ≠ 0) (hla : a.size ≤ 900000) (hlb : b.size ≤ 900000) :
    Calls Tryz.prog 110 #[.string a, .string b] w fun e w' => e = .returned (.tuple #[.string (decT (numB a / numB b)), .string (decT (numB a % numB b))]) ∧ Ext w w' := by
  obtain ⟨wo, rfl⟩ : ∃ wo : World, wo = w := ⟨_, rfl⟩
  have hsb : 0 < b.size := by rw [← bsz]; exact List.length_pos_iff.2 cb.2.1
  obtain ⟨n, hn⟩ : ∃ n, min a.size (b.size - 1) = n := ⟨_, rfl⟩
  have hni : max (0 : Int) (min (a.size : Int) ((b.size : Int) - 1)) = (n : Int) := by omega
  have hna : n ≤ a.size := by omega
  have hnai : (n : Int) ≤ (a.size : Int) := by omega
  have hlai : (a.size : Int) ≤ 900000 := by omega
  have hlbi : (b.size : Int) ≤ 900000 := by omega
  have hlb1 : (1 : Int) ≤ (b.size : Int) := by omega
  obtain ⟨B, hB⟩ : ∃ B, numB b = B := ⟨_, rfl⟩
  obtain ⟨A, hA⟩ : ∃ A, numB a = A := ⟨_, rfl⟩
  have hst := DvI.start (n := n) ha cb hb0 (by rw [bsz]; omega)
  have hBd : decF 0 b.data.toList = B := hB
  have hAd : decF 0 a.data.toList = A := hA
  rw [hBd] at hst
  have HT0 := strip0 (ha.take n)
  generalize decF 0 (a.data.toList.take n) = x0 at *
  have HS0 := Lib.hid (fun W => strip_any ((⟨#[48]⟩ : ByteArray) ++ a.extract 0 n) W (by rw [ByteArray.size_append, ByteArray.size_extract]; show 1 + _ ≤ _; omega) (Lib.decDigits x0) (by
    show _ = _
    rw [show ((⟨#[48]⟩ : ByteArray) ++ a.extract 0 n).data.toList = 48 :: (a.extract 0 n).data.toList by simp, ext_take]; exact HT0))
  have HCMP := Lib.hid (fun W y (hy : (Lib.decDigits y).length ≤ 1000000) => rNatCmp_any (decT y) b W (canon_decT y) cb (by rw [decT_size]; exact hy) (by omega))
  have HSUB := Lib.hid (fun W y (hy : (Lib.decDigits y).length ≤ 1000000) hle => rNatSub_any (decT y) b W (canon_decT y).1 cb.1 (by rw [decT_size]; exact hy) (by omega) hle)
  simp only [numB_decT, hB] at HCMP HSUB
  have HLEN := Lib.hid (fun x y (hx : x < B) (hy : y ≤ x * 10 + 9) => next_len (k := 0) (bs := b.data.toList) (by rw [hBd]; exact hx) cb.1 hy)
  rw [bsz] at HLEN
  rw [hA, hB]
  have HST := Lib.hid hst
  have HAD := Lib.hid ha
  have HA := Lib.hid hAd
  have hdT : ∀ y, (⟨(Lib.decDigits y).toArray⟩ : ByteArray) = decT y := fun _ => rfl
  simp only [hdT] at HS0
  have HB0 : Hid (B ≠ 0) := by show _ ≠ _; rw [← hB]; exact hb0
  clear hst ha hAd HT0 hBd cb hb0 hB hA hn hdT
  go_enter Tryz.func110, Tryz.ntmps110
  go_wp2_with fail
  refine (HS0.out _).mono ?_
  rintro e w1 ⟨rfl, X1⟩
  clear hni
  go_wp2_with fail
  go_loopw [7, 8, 9] (fun qv rv iv wr => ∃ (i x : Nat) (q : ByteArray), i ≤ a.size ∧ iv = .int .i64 i ∧ rv = .string (decT x) ∧ qv = .string q ∧ Hid (q.size ≤ i) ∧ Hid (DvI a.data.toList B i q.data.toList x) ∧ Ext wo wr) (fun _ _ iv _ => a.size - (intOf iv).toNat)
  case atStart => exact ⟨n, x0, ⟨#[]⟩, hna, rfl, rfl, rfl, Nat.zero_le _, HST.out, X1⟩
  case round =>
    obtain ⟨i, x, q, hi, rfl, rfl, rfl, HQ, HI, X⟩ := hrel
    obtain ⟨wr0, rfl⟩ : ∃ wr0 : World, wr0 = wr := ⟨_, rfl⟩
    by_cases hlt : i < a.size
    · have hki : (i : Int) < (a.size : Int) := by omega
      obtain ⟨c, c1, _, _⟩ := get_lt (show i < a.data.toList.length by rw [bsz]; exact hlt)
      have hc := HAD.out c (List.mem_of_getElem? c1.out)
      obtain ⟨Y, hY⟩ : ∃ Y, x * 10 + (c.toNat - 48) = Y := ⟨_, rfl⟩
      have hxB := HI.out.2.1
      have hYx : Y ≤ x * 10 + 9 := by omega
      have hx9 := HLEN.out x x hxB (by omega)
      have hY9 := HLEN.out x Y hxB (by omega)
      have hEl := ext_one c1.out
      obtain ⟨E, hE⟩ : ∃ E, a.extract i (i + 1) = E := ⟨_, rfl⟩
      rw [hE] at hEl
      have hTl : (decT x ++ E).data.toList = Lib.decDigits x ++ [c] := by rw [ByteArray.data_append, Array.toList_append, decT_list, hEl]
      have hEs : E.size = 1 := by rw [← bsz, hEl]; rfl
      have hSx : (decT x).size ≤ 900001 := by rw [decT_size]; omega
      have HS1 := Lib.hid (fun W => strip_any (decT x ++ E) W (by rw [ByteArray.size_append]; omega) (Lib.decDigits Y) (by
        show _ = _
        rw [hTl, stripL_dd (AllD.snoc (dd_allD x) hc) (by simp), decF_snoc, decF_dd, hY]))
      have HST1 := Lib.hid (fun (t r : Nat) (hr : r < B) (ht : r + t * B = Y) (ht9 : t ≤ 9) => HI.out.step HAD.out c1.out hr (ht.trans hY.symm) ht9)
      have HSM := Lib.hid (fun (t r : Nat) (ht : r + t * B = Y) => HI.out.small HAD.out c1.out (ht.trans hY.symm))
      have hT2 : (⟨(Lib.decDigits Y).toArray⟩ : ByteArray) = decT Y := rfl
      rw [hT2] at HS1
      have HSX := Lib.hid hSx
      have hSxi : ((decT x).size : Int) ≤ 900001 := by omega
      have hEsi : (E.size : Int) ≤ 1 := by omega
      clear hEl hTl hSx hT2 hx9 hc hY hlt hEs
      go_wp2_with fail
      refine (HS1.out _).mono ?_
      rintro e w1 ⟨rfl, X1⟩
      have X2 := X.trans X1
      clear X X1 hE HS1
      go_wp2_with fail
      go_loopg [8, 10] Y (fun r rv dv wr => ∃ (t : Nat), rv = .string (decT r) ∧ dv = .int .u8 (48 + (t : Int)) ∧ t ≤ 9 ∧ Hid (r + t * B = Y) ∧ r ≤ Y ∧ Ext wo wr)
      case atStart => exact ⟨0, rfl, rfl, Nat.zero_le _, by show _ = _; omega, Nat.le_refl _, X2⟩
      case round =>
        obtain ⟨t, rfl, rfl, ht9, HR, hrY, X⟩ := hrel
        have hr9 := HLEN.out x gk hxB (by omega)
        have HC := Lib.hid (fun W => HCMP.out W gk (by omega))
        have hti : (t : Int) ≤ 9 := by omega
        by_cases hlt : gk < B
        · rw [show cmpZ gk B = -1 from if_pos hlt] at HC
          have HEN := Lib.hid (HST1.out t gk hlt HR.out ht9)
          have henc := encode_dig ht9
          obtain ⟨D, hD⟩ : ∃ D : ByteArray, (⟨#[(48 + t).toUInt8]⟩ : ByteArray) = D := ⟨_, rfl⟩
          rw [hD] at henc
          have hDl : D.data.toList = [(48 + t).toUInt8] := by rw [← hD]
          have hDs : D.size = 1 := by rw [← bsz, hDl]; rfl
          have HEN2 : Hid (DvI a.data.toList B (i + 1) (q ++ D).data.toList gk) := by
            show DvI _ _ _ _ _
            rw [ByteArray.data_append, Array.toList_append, hDl]; exact HEN.out
          have HQ2 : Hid ((q ++ D).size ≤ i + 1) := by show _ ≤ _; rw [ByteArray.size_append]; have := HQ.out; omega
          have hqi : (q.size : Int) ≤ 900000 := by have := HQ.out; omega
          have hDi : (D.size : Int) ≤ 1 := by omega
          clear hlt hDl hD HEN hr9 hDs
          go_wp2_with fail
          refine (HC.out _).mono ?_
          rintro e w2 ⟨rfl, rfl⟩
          go_wp2_with fail
          go_roundw
          case rel => exact ⟨i + 1, gk, q ++ D, by omega, by go_num, rfl, rfl, HQ2, HEN2.out, X⟩
          case measure => simp [intOf]; omega
        · obtain ⟨z, hz⟩ : ∃ z, cmpZ gk B = z := ⟨_, rfl⟩
          rw [hz] at HC
          have hz0 : 0 ≤ z := by rw [← hz]; unfold cmpZ; rw [if_neg hlt]; split <;> omega
          have HSB := Lib.hid (fun W => HSUB.out W gk (by omega) (by omega))
          have hB0 := HB0.out
          obtain ⟨r2, hr2⟩ : ∃ r2, gk - B = r2 := ⟨_, rfl⟩
          rw [hr2] at HSB
          have hR2 : r2 + (t + 1) * B = Y := by rw [Nat.add_mul]; have := HR.out; omega
          have ht2 := HSM.out (t + 1) r2 hR2
          have HR2 := Lib.hid hR2
          have hlt2 : Hid (r2 < gk) := by show _ < _; omega
          have hrY2 : r2 ≤ Y := by omega
          clear hR2 hr2 hB0 hz hlt hr9
          go_wp2_with fail
          refine (HC.out _).mono ?_
          rintro e w2 ⟨rfl, rfl⟩
          go_wp2_with fail
          refine (HSB.out _).mono ?_
          rintro e w3 ⟨rfl, X3⟩
          go_wp2_with fail
          go_roundg r2
          case rel => exact ⟨t + 1, rfl, by go_num, ht2, HR2, hrY2, X.trans X3⟩
          case measure => exact hlt2.out
    · have hil : a.size = i := by omega
      subst hil
      obtain ⟨s1, s2, s3⟩ := HI.out.stop (bsz a)
      rw [HA.out] at s2 s3
      have hq := HQ.out
      have HSQ := Lib.hid (fun W => strip_any ((⟨#[48]⟩ : ByteArray) ++ q) W (by rw [ByteArray.size_append]; show 1 + _ ≤ _; omega) (Lib.decDigits (A / B)) (by
        show _ = _
        rw [show ((⟨#[48]⟩ : ByteArray) ++ q).data.toList = 48 :: q.data.toList by simp, strip0 s1, s2]))
      have hT2 : (⟨(Lib.decDigits (A / B)).toArray⟩ : ByteArray) = decT (A / B) := rfl
      rw [hT2] at HSQ
      have HX := Lib.hid s3
      have hqi : (q.size : Int) ≤ 900000 := by omega
      clear s1 s2 s3 hT2 hlt hq
      go_wp2_with fail
      refine (HSQ.out _).mono ?_
      rintro e w1 ⟨rfl, X1⟩
      go_wp2_with fail
      go_ret2
      exact ⟨by rw [← HX.out]; rfl, X.trans X1⟩

theorem decT_zero_iff {n : Nat} : (decT n = ⟨#[48]⟩) ↔ n = 0 := by
  constructor
  · intro h
    have := numB_decT n
    rw [h] at this
    rw [← this]; rfl
  · rintro rfl
    rw [decT, dd_small (by omega)]; rfl

set_option maxHeartbeats 1600000 in
set_option maxRecDepth 100000 in
theorem rNatGcd_any (n m : Nat) (w : World) (hn : (Lib.decDigits n).length ≤ 900000) (hm : (Lib.decDigits m).length ≤ 900000) :
    Calls Tryz.prog 109 #[.string (decT n), .string (decT m)] w fun e w' => e = .returned (.string (decT (Nat.gcd n m))) ∧ Ext w w' := by
  obtain ⟨wo, rfl⟩ : ∃ wo : World, wo = w := ⟨_, rfl⟩
  obtain ⟨F, hF⟩ : ∃ F, Nat.gcd n m = F := ⟨_, rfl⟩
  rw [hF]
  have HF := Lib.hid hF
  have HD := Lib.hid (fun W x y (hx : (Lib.decDigits x).length ≤ 900000) (hy : (Lib.decDigits y).length ≤ 900000) (h0 : y ≠ 0) => rNatDiv_any (decT x) (decT y) W (canon_decT x).1 (canon_decT y) (by rw [numB_decT]; exact h0) (by rw [decT_size]; exact hx) (by rw [decT_size]; exact hy))
  simp only [numB_decT] at HD
  clear hF
  go_enter Tryz.func109, Tryz.ntmps109
  go_wp2_with fail
  go_loopg [0, 1] m (fun y av bv wr => ∃ (x : Nat), av = .string (decT x) ∧ bv = .string (decT y) ∧ (Lib.decDigits x).length ≤ 900000 ∧ (Lib.decDigits y).length ≤ 900000 ∧ Hid (Nat.gcd x y = F) ∧ Ext wo wr)
  case atStart => exact ⟨n, rfl, rfl, hn, hm, HF, Ext.refl _⟩
  case round =>
    obtain ⟨x, rfl, rfl, hx, hy, HG, X⟩ := hrel
    obtain ⟨T, hT⟩ : ∃ T, decT gk = T := ⟨_, rfl⟩
    have HT := Lib.hid hT
    by_cases h0 : gk = 0
    · subst h0
      have hz := decT_zero_iff.2 (rfl : (0 : Nat) = 0)
      have hxF : Hid (decT F = decT x) := by show _ = _; rw [← HG.out, Nat.gcd_zero_right]
      have hb : (T.toList == [48]) = true := by rw [← hT, hz, Lib.toList_data]; rfl
      rw [hT]
      clear hT hz
      go_wp2_with fail
      go_ret
      exact ⟨by rw [hxF.out]; rfl, X⟩
    · have hb : (T.toList == [48]) = false := by
        rw [beq_eq_false_iff_ne]
        intro e
        apply h0
        apply decT_zero_iff.1
        rw [hT]
        rw [Lib.toList_data] at e
        exact bytes_of_list e
      have HDD := Lib.hid (fun W => HD.out W x gk hx hy h0)
      have hG2 : Nat.gcd gk (x % gk) = F := by rw [← HG.out, Nat.gcd_comm x gk, Nat.gcd_rec gk x, Nat.gcd_comm]
      have HG2 := Lib.hid hG2
      have hlt : Hid (x % gk < gk) := Nat.mod_lt _ (by omega)
      have hr9 : (Lib.decDigits (x % gk)).length ≤ 900000 := by
        exact Nat.le_trans (dd_mono (Nat.mod_le _ _)) hx
      obtain ⟨r, hr⟩ : ∃ r, x % gk = r := ⟨_, rfl⟩
      rw [hr] at HG2 hlt hr9 HDD
      obtain ⟨qq, hqq⟩ : ∃ qq, x / gk = qq := ⟨_, rfl⟩
      rw [hqq] at HDD
      rw [hT] at HDD ⊢
      clear hG2 hr hqq h0 hT
      go_wp2_with fail
      refine (HDD.out _).mono ?_
      rintro e w1 ⟨rfl, X1⟩
      go_wp2_with fail
      go_roundg r
      case rel => exact ⟨gk, by rw [HT.out], rfl, hy, hr9, HG2, X.trans X1⟩
      case measure => exact hlt.out
end Go.Proofs.YtkfheeffbombhaaGreatDoor
/- the walk of the law NatSums -/
namespace Go.Proofs.YtkfheeffbombhaaGreatDoor
open Go.RowKit
set_option linter.unusedVariables false

end Go.Proofs.YtkfheeffbombhaaGreatDoor
