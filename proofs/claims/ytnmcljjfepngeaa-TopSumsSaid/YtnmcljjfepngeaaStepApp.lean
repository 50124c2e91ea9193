/- append in a region that draws -/
import Derived.Test.YtnmcljjfepngeaaLibB
namespace Go.Proofs.Ytnmcljjfepngeaa
open Go.RowKit
set_option linter.unusedVariables false

/-- append in a region that draws -/
theorem step_app {P : Program} {ops : Array Oper} {o : Oper} {a : Act} {w : World} {K : Act → World → Prop} {Q : Exit → Act → World → Prop} {E : Prop} (hg : o.guard = none) {s x : Operand} {t e : TypeId} {z : Value} {sz bytes : Nat}
    (ho : o.op = .call { callee := .builtin .append, args := #[s, x], argTypes := #[t, t] }) (ei : EI P t e z sz bytes) {B : Nat} {v : Value} {n : Nat} {xs : List Value} (hs : a.eval s = v)
    (hown : w.ownsRow B e sz v n xs) {u : Value} {m : Nat} {news : List Value} (hx : a.eval x = u) (hsrc : Src w u m sz news) (hlen : n + m ≤ 17592186044416) (hby : (n + m) * bytes ≤ 140737488355328) (hB : B ≤ w.heap.size)
    (h : ∀ v' w', w'.ownsRow B e sz v' (n + m) (xs ++ news) → Grew w v w' v' → K (a.put o.dst v') w') : if Region.wanted o (yielded ops a.tmps) = true then Oper.wp P o a w K Q else E := by
  have hw : Region.wanted o (yielded ops a.tmps) = true := by simp [Region.wanted, hg]
  rw [if_pos hw]
  obtain ⟨v', w', hr, h2, h3⟩ := run_app (P := P) (ty := o.type) ei hown hsrc hlen hby hB
  unfold Oper.wp execOp
  simp only [ho, resolve, invoke, builtin, Sem.run_bind, Sem.run_pure, Result.andThen_ok, List.map_toArray, List.map_cons, List.map_nil, hs, hx, hr]
  exact h v' w' h2 h3

end Go.Proofs.Ytnmcljjfepngeaa
