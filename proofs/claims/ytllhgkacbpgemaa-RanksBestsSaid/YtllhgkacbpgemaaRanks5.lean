/- walks of what sorts ranks: slices.insertionSortCmpFunc, pdqsortCmpFunc and SortFunc of few elements -/
import Derived.Test.YtllhgkacbpgemaaRanks4
import Derived.IntWalk
namespace Go.Proofs.Ytllhgkacbpgemaa
open Go.RowKit
set_option linter.unusedVariables false

/-- insertion into a sorted beginning, read from its end -/
def insRev (cf : Nat → Nat → Int) (x : Nat) : List Nat → List Nat
  | [] => [x]
  | y :: r => if cf x y < 0 then y :: insRev cf x r else x :: y :: r
def isortR (cf : Nat → Nat → Int) (l : List Nat) : List Nat := l.foldl (fun acc x => insRev cf x acc) []
def isort (cf : Nat → Nat → Int) (l : List Nat) : List Nat := (isortR cf l).reverse

theorem insRev_len (cf : Nat → Nat → Int) (x : Nat) : ∀ r, (insRev cf x r).length = r.length + 1
  | [] => rfl
  | y :: r => by
    unfold insRev
    split
    · simp [insRev_len cf x r]
    · rfl
theorem insRev_mem {cf : Nat → Nat → Int} {x z : Nat} : ∀ {r}, z ∈ insRev cf x r → z = x ∨ z ∈ r
  | [], h => by simp [insRev] at h; exact .inl h
  | y :: r, h => by
    unfold insRev at h
    split at h
    · rcases List.mem_cons.1 h with h | h
      · exact .inr (by simp [h])
      · rcases insRev_mem h with h | h
        · exact .inl h
        · exact .inr (by simp [h])
    · simpa using h

abbrev encN (x : Nat) : Value := .int .i64 x

theorem swap_back (A B : List Value) (a b : Value) : ((A ++ a :: b :: B).set (A.length + 1) a).set A.length b = A ++ b :: a :: B := by
  rw [List.set_append_right _ _ (by omega), List.set_append_right _ _ (by omega)]
  simp

/-- what a comparison does in the worlds that the sort passes -/
structure CmpOk (g : Nat) (caps : Array Value) (cf : Nat → Nat → Int) (blk : Nat) (S : Nat → Prop) (Good : World → Prop) : Prop where
  ext : ∀ W W', Good W → Ext W W' → Good W'
  set' : ∀ W (p : Addr) u, Good W → p.block = blk → Good (W.setCell p u)
  run : ∀ W x y, Good W → S x → S y → Calls Try.prog g (#[encN x, encN y] ++ caps) W fun e W' => e = .returned (.int .i64 (cf x y)) ∧ Ext W W'

set_option maxHeartbeats 1600000 in
set_option maxRecDepth 100000 in
theorem insertionSort_any (g : Nat) (caps : Array Value) (cf : Nat → Nat → Int) (blk n cap B : Nat) (xs : List Nat) (S : Nat → Prop) (Good : World → Prop) (w0 w : World)
    (eg : ∀ args W, (callFunc g args).run Try.prog W = .ok (.enter g args) W)
    (hC : CmpOk g caps cf blk S Good) (hG : Good w) (hS : ∀ x ∈ xs, S x) (hw : Ext w0 w) (hB : w0.heap.size ≤ blk)
    (hO : w.ownsRow B 3 1 (.slice (some ⟨blk, 0, none⟩) n cap) n (xs.map encN)) (hn : n ≤ 12) :
    Calls Try.prog 95 #[.slice (some ⟨blk, 0, none⟩) n cap, .int .i64 0, .int .i64 n, .func (.func g) #[] caps] w fun e w' =>
      e = .returned (.tuple #[]) ∧ w'.ownsRow B 3 1 (.slice (some ⟨blk, 0, none⟩) n cap) n ((isort cf xs).map encN) ∧ Ext w0 w' ∧ Good w' := by
  have hl : xs.length = n := by simpa using hO.1
  obtain ⟨F, hF⟩ : ∃ F, Hid (isortR cf xs = F) := ⟨_, rfl⟩
  have hFi : isort cf xs = F.reverse := by rw [isort, hF.out]
  rw [hFi]
  have HL := Lib.hid hl
  have HS := Lib.hid hS
  have HG0 := Lib.hid hG
  have HO0 := Lib.hid hO
  have HW0 := Lib.hid hw
  clear hl hFi hS hG hO hw
  go_enter Try.func95, Try.ntmps95
  go_wp2_with fail
  go_loopw [8] (fun i wr => ∃ (k : Nat) (acc rest : List Nat), k ≤ n + 1 ∧ 1 ≤ k ∧ i = .int .i64 k ∧ Good wr ∧ Ext w0 wr ∧ wr.ownsRow B 3 1 (.slice (some ⟨blk, 0, none⟩) n cap) n ((acc.reverse ++ rest).map encN) ∧ Hid (acc.length = min k n) ∧ Hid (rest.foldl (fun acc x => insRev cf x acc) acc = F) ∧ Hid ((∀ x ∈ acc, S x) ∧ ∀ x ∈ rest, S x)) (fun i _ => n + 1 - (intOf i).toNat)
  case atStart =>
    cases xs with
    | nil =>
      have h0 : n = 0 := HL.out.symm
      exact ⟨1, [], [], by omega, Nat.le_refl _, rfl, HG0.out, HW0.out, HO0.out, by show _ = _; rw [h0]; rfl, hF.out, by exact ⟨(fun x h => by cases h), (fun x h => by cases h)⟩⟩
    | cons x xs =>
      have h0 : xs.length + 1 = n := HL.out
      exact ⟨1, [x], xs, by omega, Nat.le_refl _, rfl, HG0.out, HW0.out, HO0.out, by show _ = _; simp; omega, hF.out, by exact ⟨(fun y h => HS.out y (by simp at h; simp [h])), (fun y h => HS.out y (by simp [h]))⟩⟩
  case round =>
    obtain ⟨k, acc, rest, hk, hk1, rfl, HGr, HX, HO, HA, HF2, HSS⟩ := hrel
    by_cases hlt : k < n
    · have hlen := HO.1
      have hra : acc.length = k := by have := HA.out; omega
      have hrl : rest.length = n - k := by simp at hlen; omega
      cases rest with
      | nil => simp at hrl; omega
      | cons x rest =>
        have hF3 := HF2.out
        rw [List.foldl_cons] at hF3
        have HF3 := Lib.hid hF3
        have hki : (k : Int) < (n : Int) := by omega
        have HRA := Lib.hid hra
        have HGr' := Lib.hid HGr
        have HOr := Lib.hid HO
        clear hF3 hlen hra hrl HO HF2 HA HGr
        obtain ⟨wo, rfl⟩ : ∃ wo : World, wo = wr := ⟨_, rfl⟩
        go_wp2_with fail
        go_loopw [9] (fun j wr => ∃ (m : Nat) (R Q : List Nat), m ≤ k ∧ j = .int .i64 m ∧ Good wr ∧ Ext w0 wr ∧ Hid (R.length = m) ∧ Hid (acc = Q ++ R) ∧ Hid (insRev cf x acc = Q ++ insRev cf x R) ∧ wr.ownsRow B 3 1 (.slice (some ⟨blk, 0, none⟩) n cap) n ((R.reverse ++ x :: (Q.reverse ++ rest)).map encN)) (fun j _ => (intOf j).toNat)
        case atStart => exact ⟨k, acc, [], Nat.le_refl _, rfl, HGr'.out, HX, HRA.out, rfl, rfl, by simpa using HOr.out⟩
        case round =>
          obtain ⟨m, R, Q, hm, rfl, HG2, HX2, HR, HQ, HI, HO2⟩ := hrel
          cases R with
          | nil =>
            have hm0 : m = 0 := HR.out.symm
            subst hm0
            have hi := HI.out
            rw [insRev] at hi
            have HOf : Hid (wr.ownsRow B 3 1 (.slice (some ⟨blk, 0, none⟩) n cap) n (((insRev cf x acc).reverse ++ rest).map encN)) := by
              show World.ownsRow _ _ _ _ _ _ _
              rw [hi]; simpa using HO2
            have HLf : Hid ((insRev cf x acc).length = min (k + 1) n) := by show _ = _; rw [insRev_len, HRA.out]; omega
            have HSf : Hid ((∀ y ∈ insRev cf x acc, S y) ∧ ∀ y ∈ rest, S y) := ⟨fun y hy => by
              rcases insRev_mem hy with h | h
              · subst h; exact HSS.out.2 y (by simp)
              · exact HSS.out.1 y h, fun y hy => HSS.out.2 y (by simp [hy])⟩
            have HG2' := Lib.hid HG2
            clear hi HO2 HG2
            go_wp2_with fail
            go_quiet (fail)
            go_wp2_with fail
            go_roundw
            case rel => exact ⟨k + 1, insRev cf x acc, rest, by omega, by omega, by go_num, hC.ext _ _ HG2'.out ((Ext.refl wr).drewN _), HX2.drewN _, own_ext HOf.out ((Ext.refl wr).drewN _), HLf, HF3.out, HSf.out⟩
            case measure => simp [intOf]; omega
          | cons y R =>
            obtain ⟨p, hp⟩ : ∃ p, Hid (R.length = p) := ⟨_, rfl⟩
            have hmp : m = p + 1 := by have := HR.out; simp at this; have := hp.out; omega
            subst hmp
            have hcast : (((p + 1 : Nat) : Int)) = (p : Int) + 1 := by omega
            rw [hcast]
            clear hcast
            have hO3 : wr.ownsRow B 3 1 (.slice (some ⟨blk, 0, none⟩) n cap) n (R.reverse.map encN ++ encN y :: encN x :: (Q.reverse ++ rest).map encN) := by simpa using HO2
            have hAl : (R.reverse.map encN).length = p := by simp [hp.out]
            obtain ⟨A, hA⟩ : ∃ A, Hid (R.reverse.map encN = A) := ⟨_, rfl⟩
            obtain ⟨T, hT⟩ : ∃ T, Hid ((Q.reverse ++ rest).map encN = T) := ⟨_, rfl⟩
            rw [hA.out] at hO3 hAl
            rw [hT.out] at hO3
            have HAL := Lib.hid hAl
            have cx := own_cell hO3 (j := p + 1) (x := encN x) (by show _ = _; rw [List.getElem?_append_right (by omega), hAl]; simp)
            have cy := own_cell hO3 (j := p) (x := encN y) (by show _ = _; rw [List.getElem?_append_right (by omega), hAl]; simp)
            have hpn : p + 1 < n := by have := hO3.1; simp [hAl] at this; omega
            have hi := HI.out
            rw [insRev] at hi
            have hSx : S x := HSS.out.2 x (by simp)
            have hSy : S y := HSS.out.1 y (by rw [HQ.out]; simp)
            have HRUN := Lib.hid (fun (W : World) (hW : Ext wr W) => hC.run W x y (hC.ext _ _ HG2 hW) hSx hSy)
            have HG3 := Lib.hid HG2
            have HO4 := Lib.hid hO3
            have hp1 : (0 : Int) ≤ (p : Int) := by omega
            have hp2 : (p : Int) + 1 < (n : Int) := by omega
            have hp3 : (p : Int) < (n : Int) := by omega
            have hp4 : (0 : Int) < (p : Int) + 1 := by omega
            have hp5 : (0 : Int) ≤ (p : Int) + 1 := by omega
            by_cases hlt2 : cf x y < 0
            · rw [if_pos hlt2] at hi
              have hQ2 : Hid (acc = (Q ++ [y]) ++ R) := by show _ = _; rw [HQ.out]; simp
              have hI2 : Hid (insRev cf x acc = (Q ++ [y]) ++ insRev cf x R) := by show _ = _; rw [hi]; simp
              clear hi HO2 HG2 hO3 hAl hSx hSy
              go_wp2_with fail
              have e1 : IntKind.i64.wrap ((p : Int) + 1 - 1) = (p : Int) := by rw [Int.add_sub_cancel]; exact IntWalk.i64_in _ (by omega)
              have e2 : IntKind.i64.wrap (p : Int) = (p : Int) := IntWalk.i64_in _ (by omega)
              have e3 : ((p : Int) + 1).toNat = p + 1 := by omega
              go_region_held3 (fun w' => w'.cell? ⟨blk, p, none⟩ = some (encN y) ∧ w'.cell? ⟨blk, p + 1, none⟩ = some (encN x)) (first | exact ⟨cy, cx⟩ | exact ⟨hx3.cell cy, hx3.cell cx⟩ | go_keep) ((refine (HRUN.out _ (by exact (Ext.refl _).drew)).mono ?_; rintro e w' ⟨rfl, hx3⟩))
              all_goals
                clear e1 e2 e3
                obtain ⟨w4, hw4⟩ : ∃ w4, w4 = w' := ⟨_, rfl⟩
                have X := (Ext.refl wr).drew.trans hx3
                have HO5 := own_ext HO4.out X
                have c1 := X.cell cx
                have c2 := X.cell cy
                have f1 := HO5.frozenAt (p + 1)
                have f2 := HO5.frozenAt p
                have s1 := HO5.stored (p + 1) (encN y)
                obtain ⟨z3, hz3, _, _⟩ := get_lt (xs := (A ++ encN y :: encN x :: T).set (p + 1) (encN y)) (k := p) (by rw [List.length_set, List.length_append, HAL.out]; simp)
                have c3 := own_cell s1.1 (j := p) hz3
                have s2 := s1.1.stored p (encN x)
                rw [show (A ++ encN y :: encN x :: T).set (p + 1) (encN y) = ((A ++ encN y :: encN x :: T).set (A.length + 1) (encN y)) by rw [HAL.out], show ∀ l : List Value, l.set p (encN x) = l.set A.length (encN x) by rw [HAL.out]; exact fun _ => rfl, swap_back A T (encN y) (encN x)] at s2
                have H2 := Lib.hid s2.1
                have hrow2 : (R.reverse ++ x :: ((Q ++ [y]).reverse ++ rest)).map encN = A ++ encN x :: encN y :: T := by rw [← hA.out, ← hT.out]; simp
                have hrow2 := Lib.hid hrow2
                clear s1 s2 cx cy HO5 hw4
                go_wp2_with fail
                have e1 : IntKind.i64.wrap ((p : Int) + 1 - 1) = (p : Int) := by rw [Int.add_sub_cancel]; exact IntWalk.i64_in _ (by omega)
                have e2 : IntKind.i64.wrap (p : Int) = (p : Int) := IntWalk.i64_in _ (by omega)
                have e3 : ((p : Int) + 1).toNat = p + 1 := by omega
                go_region
                all_goals clear e1 e2 e3
                all_goals go_wp2_with fail
                go_roundw
                case rel => exact ⟨p, R, Q ++ [y], by omega, by go_num, hC.set' _ _ _ (hC.set' _ _ _ (hC.ext _ _ HG3.out (X.drewN _)) rfl) rfl, (((HX2.trans X).drewN _).setCell hB _).setCell hB _, hp.out, hQ2.out, hI2.out, by rw [hrow2.out]; exact H2.out⟩
                case measure => simp [intOf]
            · rw [if_neg hlt2] at hi
              have hb : decide (cf x y < 0) = false := by simpa using hlt2
              have hge : 0 ≤ cf x y := by omega
              have HOf : Hid (wr.ownsRow B 3 1 (.slice (some ⟨blk, 0, none⟩) n cap) n (((insRev cf x acc).reverse ++ rest).map encN)) := by
                show World.ownsRow _ _ _ _ _ _ _
                rw [hi]; simpa using HO2
              have HLf : Hid ((insRev cf x acc).length = min (k + 1) n) := by show _ = _; rw [insRev_len, HRA.out]; omega
              have HSf : Hid ((∀ y ∈ insRev cf x acc, S y) ∧ ∀ y ∈ rest, S y) := ⟨fun y hy => by
                rcases insRev_mem hy with h | h
                · subst h; exact HSS.out.2 y (by simp)
                · exact HSS.out.1 y h, fun y hy => HSS.out.2 y (by simp [hy])⟩
              clear hi HO2 HG2 hO3 hAl hlt2 hSx hSy
              go_wp2_with fail
              have e1 : IntKind.i64.wrap ((p : Int) + 1 - 1) = (p : Int) := by rw [Int.add_sub_cancel]; exact IntWalk.i64_in _ (by omega)
              have e2 : IntKind.i64.wrap (p : Int) = (p : Int) := IntWalk.i64_in _ (by omega)
              have e3 : ((p : Int) + 1).toNat = p + 1 := by omega
              go_region_held3 (fun w' => w'.cell? ⟨blk, p, none⟩ = some (encN y) ∧ w'.cell? ⟨blk, p + 1, none⟩ = some (encN x)) (first | exact ⟨cy, cx⟩ | exact ⟨hx3.cell cy, hx3.cell cx⟩ | go_keep) ((refine (HRUN.out _ (by exact (Ext.refl _).drew)).mono ?_; rintro e w' ⟨rfl, hx3⟩))
              all_goals
                clear e1 e2 e3
                have X := (Ext.refl wr).drew.trans hx3
                go_wp2_with fail
                go_roundw
                case rel => exact ⟨k + 1, insRev cf x acc, rest, by omega, by omega, by go_num, hC.ext _ _ HG3.out X, HX2.trans X, own_ext HOf.out X, HLf, HF3.out, HSf.out⟩
                case measure => simp [intOf]; omega
    · have hk2 : k = n ∨ k = n + 1 := by omega
      have hlen := HO.1
      have hra : acc.length = n := by have := HA.out; omega
      have hrest : rest = [] := by
        have : rest.length = 0 := by simp at hlen; omega
        exact List.eq_nil_of_length_eq_zero this
      subst hrest
      have hF3 : acc = F := HF2.out
      subst hF3
      have hd : decide ((k : Int) < (n : Int)) = false := by simp; omega
      have HOr : Hid (wr.ownsRow B 3 1 (.slice (some ⟨blk, 0, none⟩) n cap) n (acc.reverse.map encN)) := by simpa [Hid] using HO
      have HGr' := Lib.hid HGr
      clear hk2 hlen hra HO HGr HA HF2
      go_wp2_with fail
      go_end0
      exact ⟨rfl, HOr.out, HX, HGr'.out⟩
end Go.Proofs.Ytllhgkacbpgemaa
