/- plain law: the package's class and value of a hand are the reference's: the check of all sorted ranks -/
import Derived.Test.YtllhgkacbpgemaaRanks10
namespace Go.Proofs.Ytllhgkacbpgemaa
open Go.RowKit
set_option linter.unusedVariables false

/-- pairs of equal ones -/
def pr : List Nat → Nat
  | [] => 0
  | a :: l => l.count a + pr l
def cI (c : Nat → Nat) : Int → Nat := fun r => c r.toNat
def chkB (M : List Nat) (os : List Nat) (s sp : Int) (p : Nat) (D : List Int) (f : Bool) : Bool :=
  let cls := clsP (decide (0 ≤ sp)) f (os.getD 0 0) (os.getD 1 0)
  let LP := if cls = 8 ∨ cls = 4 then [sp] else natI M
  decide (cls = clsR s p (if f then 10 else 0)) && decide (0 ≤ cls) && decide (cls ≤ 10) && decide (padF LP = D) && decide (LP.length ≤ 5) && LP.all (fun d => decide (0 ≤ d) && decide (d ≤ 12))
/-- the counts in one number -/
def codeOf : List Nat → Nat
  | [] => 0
  | a :: l => 8 ^ a + codeOf l
def cOf (n r : Nat) : Nat := n / 8 ^ r % 8
def chk (l : List Nat) : Bool :=
  let c : Nat → Nat := cOf (codeOf l)
  let M := ordL c
  let os := M.map c
  let s := strD (cI c) 10
  let sp := strP M
  let D := padF (digs (cI c) s)
  decide (M.length ≤ 5) && decide (0 < M.length) && (!(os.getD 0 0 == 3 || os.getD 0 0 == 2) || decide (2 ≤ M.length)) && decide (D.length = 5) && D.all (fun d => decide (0 ≤ d) && decide (d ≤ 12)) &&
    chkB M os s sp (pr l) D true && chkB M os s sp (pr l) D false
def rangeFrom (a : Nat) : List Nat := (List.range (13 - a)).map (a + ·)
def allChk (a b : Nat) : Bool := (rangeFrom b).all fun c => (rangeFrom c).all fun d => (rangeFrom d).all fun e => (a == e) || chk [a, b, c, d, e]
end Go.Proofs.Ytllhgkacbpgemaa
