/- the walk of CardsDeals, at every input -/
import Derived.Test.YtllhgkacbpgemaaDoorCardsD
namespace Go.Proofs.YtllhgkacbpgemaaDoor
open Go.RowKit

theorem deals_walk (v : Value) (xs : List Int) (k p q : Int) (w : World) (hsh : w.ShapedOpen Tryd.prog) (hv : Ints w v xs) :
    Calls Tryd.prog 4 #[v, .int .i64 k, .int .i64 p, .int .i64 q] w fun e w' => e = .returned (.bool true) ∧ Ext w w' := by
  by_cases h : deckErr xs = 0
  · exact deals_ok v xs k p q w hsh hv h
  · exact deals_err v xs k p q w hsh hv h
end Go.Proofs.YtllhgkacbpgemaaDoor
