/-
  No cell of these rows narrows 'for every input' (looked for: loops, veiled, ifaces, maps, wideKeys, modest, calm, conditions, laid).
  DERIVED. THE GIVEN ROWS OF THIS SEAT. 7 by the template 'for every input the law returns true; each argument reads behind the call as it read before'; 0 by the template 'total and deterministic' (their statements: YtllhgkacbpgemaaTotals.lean).
  GIVEN WITH THE SEED: the statements are not yours to turn. If you find one false, say at which input.
  Laid BY PROGRAM, IN A SANDBOX (cutbox-rows.mjs): the forced cells as the released guide's own fill.sh prints them over the translation d5c7176630e41339… (all of the seat's roots in one cut). By AI agents, Wed Nov 11 2026. No macro, syntax, notation, axiom, sorry.
-/
import Derived.Test.YtllhgkacbpgemaaChecked
import GoSem.Claim
import GoSem.ClaimJoined
import GoSem.ClaimMapViews
import Derived.JoinedTies
import Derived.KernelRfl
namespace Go.Proofs.Ytllhgkacbpgemaa
/- THE CELL 'sum', in the pinned program and in every row, IS THE sha256 OF THE DUMP (.gsa) THAT YtllhgkacbpgemaaProg.lean LOADS. Nothing in Lean hashes anything: it is a label: what it is worth is what the hold of that sum in a sandbox is worth. -/
noncomputable def Try.pinned : Pinned := { name := "ytllhgkacbpgemaa", sum := "d5c7176630e4133938f2ddcac18b0de98048c124ae4c6467fa0ecf3da2e15fa6", checked := Try.checked }
namespace Rows
def none {H : Type} : Left H := { results := [], args := [] }

/-- 'gamehalllaw2.IndexCounts': WHATEVER THE INPUT: true; the input reads as it did. -/
def indexCountsSpec : ChangeSpec := { name := "indexCounts", fn := fun _ => fun
  | [d1, d2] => { results := [.lit (.bool true)], args := [d1, d2] }
  | _ => none }
def indexCountsRow : OpenClaim := { program := "ytllhgkacbpgemaa", sum := "d5c7176630e4133938f2ddcac18b0de98048c124ae4c6467fa0ecf3da2e15fa6", func := "gamehall/gamehalllaw2.IndexCounts", spec := "indexCounts", unfollowed := true, recurses := true, apart := false }
def IndexCountsSaid : Prop := indexCountsRow.holds Try.pinned (OpenSpec.ofChange indexCountsSpec)

/-- ITS FALSE NEIGHBOUR: 'it returns false'. Refute it at one input. -/
def indexCountsWrong : ChangeSpec := { name := "indexCounts", fn := fun _ => fun
  | [d1, d2] => { results := [.lit (.bool false)], args := [d1, d2] }
  | _ => none }
def IndexCountsWrongFalsely : Prop := indexCountsRow.holds Try.pinned (OpenSpec.ofChange indexCountsWrong)

/-- 'gamehalllaw2.IndexRanks': WHATEVER THE INPUT: true; the input reads as it did. -/
def indexRanksSpec : ChangeSpec := { name := "indexRanks", fn := fun _ => fun
  | [d1, d2] => { results := [.lit (.bool true)], args := [d1, d2] }
  | _ => none }
def indexRanksRow : OpenClaim := { program := "ytllhgkacbpgemaa", sum := "d5c7176630e4133938f2ddcac18b0de98048c124ae4c6467fa0ecf3da2e15fa6", func := "gamehall/gamehalllaw2.IndexRanks", spec := "indexRanks", unfollowed := true, recurses := true, apart := false }
def IndexRanksSaid : Prop := indexRanksRow.holds Try.pinned (OpenSpec.ofChange indexRanksSpec)

/-- ITS FALSE NEIGHBOUR: 'it returns false'. Refute it at one input. -/
def indexRanksWrong : ChangeSpec := { name := "indexRanks", fn := fun _ => fun
  | [d1, d2] => { results := [.lit (.bool false)], args := [d1, d2] }
  | _ => none }
def IndexRanksWrongFalsely : Prop := indexRanksRow.holds Try.pinned (OpenSpec.ofChange indexRanksWrong)

/-- 'gamehalllaw2.DealCombines': WHATEVER THE INPUT: true; the input reads as it did. -/
def dealCombinesSpec : ChangeSpec := { name := "dealCombines", fn := fun _ => fun
  | [d1, d2, d3] => { results := [.lit (.bool true)], args := [d1, d2, d3] }
  | _ => none }
def dealCombinesRow : OpenClaim := { program := "ytllhgkacbpgemaa", sum := "d5c7176630e4133938f2ddcac18b0de98048c124ae4c6467fa0ecf3da2e15fa6", func := "gamehall/gamehalllaw2.DealCombines", spec := "dealCombines", unfollowed := true, recurses := true, apart := false }
def DealCombinesSaid : Prop := dealCombinesRow.holds Try.pinned (OpenSpec.ofChange dealCombinesSpec)

/-- ITS FALSE NEIGHBOUR: 'it returns false'. Refute it at one input. -/
def dealCombinesWrong : ChangeSpec := { name := "dealCombines", fn := fun _ => fun
  | [d1, d2, d3] => { results := [.lit (.bool false)], args := [d1, d2, d3] }
  | _ => none }
def DealCombinesWrongFalsely : Prop := dealCombinesRow.holds Try.pinned (OpenSpec.ofChange dealCombinesWrong)

/-- 'gamehalllaw2.DealSays': WHATEVER THE INPUT: true; the input reads as it did. -/
def dealSaysSpec : ChangeSpec := { name := "dealSays", fn := fun _ => fun
  | [d1, d2, d3] => { results := [.lit (.bool true)], args := [d1, d2, d3] }
  | _ => none }
def dealSaysRow : OpenClaim := { program := "ytllhgkacbpgemaa", sum := "d5c7176630e4133938f2ddcac18b0de98048c124ae4c6467fa0ecf3da2e15fa6", func := "gamehall/gamehalllaw2.DealSays", spec := "dealSays", unfollowed := true, recurses := true, apart := false }
def DealSaysSaid : Prop := dealSaysRow.holds Try.pinned (OpenSpec.ofChange dealSaysSpec)

/-- ITS FALSE NEIGHBOUR: 'it returns false'. Refute it at one input. -/
def dealSaysWrong : ChangeSpec := { name := "dealSays", fn := fun _ => fun
  | [d1, d2, d3] => { results := [.lit (.bool false)], args := [d1, d2, d3] }
  | _ => none }
def DealSaysWrongFalsely : Prop := dealSaysRow.holds Try.pinned (OpenSpec.ofChange dealSaysWrong)

/-- 'gamehalllaw2.RanksHands': WHATEVER THE INPUT: true; the input reads as it did. -/
def ranksHandsSpec : ChangeSpec := { name := "ranksHands", fn := fun _ => fun
  | [d] => { results := [.lit (.bool true)], args := [d] }
  | _ => none }
def ranksHandsRow : OpenClaim := { program := "ytllhgkacbpgemaa", sum := "d5c7176630e4133938f2ddcac18b0de98048c124ae4c6467fa0ecf3da2e15fa6", func := "gamehall/gamehalllaw2.RanksHands", spec := "ranksHands", unfollowed := true, recurses := true, apart := false }
def RanksHandsSaid : Prop := ranksHandsRow.holds Try.pinned (OpenSpec.ofChange ranksHandsSpec)

/-- ITS FALSE NEIGHBOUR: 'it returns false'. Refute it at one input. -/
def ranksHandsWrong : ChangeSpec := { name := "ranksHands", fn := fun _ => fun
  | [d] => { results := [.lit (.bool false)], args := [d] }
  | _ => none }
def RanksHandsWrongFalsely : Prop := ranksHandsRow.holds Try.pinned (OpenSpec.ofChange ranksHandsWrong)

/-- 'gamehalllaw2.RanksWinners': WHATEVER THE INPUT: true; the input reads as it did. -/
def ranksWinnersSpec : ChangeSpec := { name := "ranksWinners", fn := fun _ => fun
  | [d] => { results := [.lit (.bool true)], args := [d] }
  | _ => none }
def ranksWinnersRow : OpenClaim := { program := "ytllhgkacbpgemaa", sum := "d5c7176630e4133938f2ddcac18b0de98048c124ae4c6467fa0ecf3da2e15fa6", func := "gamehall/gamehalllaw2.RanksWinners", spec := "ranksWinners", unfollowed := true, recurses := true, apart := false }
def RanksWinnersSaid : Prop := ranksWinnersRow.holds Try.pinned (OpenSpec.ofChange ranksWinnersSpec)

/-- ITS FALSE NEIGHBOUR: 'it returns false'. Refute it at one input. -/
def ranksWinnersWrong : ChangeSpec := { name := "ranksWinners", fn := fun _ => fun
  | [d] => { results := [.lit (.bool false)], args := [d] }
  | _ => none }
def RanksWinnersWrongFalsely : Prop := ranksWinnersRow.holds Try.pinned (OpenSpec.ofChange ranksWinnersWrong)

/-- 'gamehalllaw2.RanksBests': WHATEVER THE INPUT: true; the input reads as it did. -/
def ranksBestsSpec : ChangeSpec := { name := "ranksBests", fn := fun _ => fun
  | [d] => { results := [.lit (.bool true)], args := [d] }
  | _ => none }
def ranksBestsRow : OpenClaim := { program := "ytllhgkacbpgemaa", sum := "d5c7176630e4133938f2ddcac18b0de98048c124ae4c6467fa0ecf3da2e15fa6", func := "gamehall/gamehalllaw2.RanksBests", spec := "ranksBests", unfollowed := true, recurses := true, apart := false }
def RanksBestsSaid : Prop := ranksBestsRow.holds Try.pinned (OpenSpec.ofChange ranksBestsSpec)

/-- ITS FALSE NEIGHBOUR: 'it returns false'. Refute it at one input. -/
def ranksBestsWrong : ChangeSpec := { name := "ranksBests", fn := fun _ => fun
  | [d] => { results := [.lit (.bool false)], args := [d] }
  | _ => none }
def RanksBestsWrongFalsely : Prop := ranksBestsRow.holds Try.pinned (OpenSpec.ofChange ranksBestsWrong)

/- THE SECOND FORM. 'bulk': how many values and letters a reading holds, each counted each time it is reached (what is shared counts as often as it is met; a slice's spare places count too). A statement '..UptoSaid' is the law's where the arguments, and the package variables that the reading takes, are together of bulk at most 1048576: NARROWER than '..Said'. Prove '..Said' where nothing that the law and all that it calls make is longer than what came in: it says more and counts as full. Else prove '..UptoSaid'. A law counts once. -/
mutual
def uptoBulk {H : Type} : DataW H → Nat
  | .lit (.string bytes) => bytes.length + 1
  | .lit _ => 1
  | .nil => 1
  | .ptr d => uptoBulk d + 1
  | .slice elems spare => uptoBulkAll elems + uptoBulkAll spare + 1
  | .agg parts => uptoBulkAll parts + 1
  | .iface _ d => uptoBulk d + 1
  | .map entries => uptoBulkEntries entries + 1
  | .held _ => 1
def uptoBulkAll {H : Type} : List (DataW H) → Nat
  | [] => 0
  | d :: r => uptoBulk d + uptoBulkAll r
def uptoBulkEntries {H : Type} : List (Lit × DataW H) → Nat
  | [] => 0
  | x :: r => uptoBulkEntry x + uptoBulkEntries r
def uptoBulkEntry {H : Type} : Lit × DataW H → Nat
  | (.string bytes, d) => bytes.length + uptoBulk d + 1
  | (_, d) => uptoBulk d + 1
 end
def uptoSmall : (H : Type) → List (DataW H) → Bool := fun _ ds => decide (uptoBulkAll ds ≤ 1048576)
def OpenSpec.upto (s : _root_.Go.ChangeSpec) : _root_.Go.OpenSpec := { _root_.Go.OpenSpec.ofChange s with cond := some uptoSmall }

/-- 'gamehalllaw2.IndexCounts', WHERE WHAT IT READS IS OF BULK AT MOST 1048576: true; the input reads as it did. -/
def indexCountsUptoRow : OpenClaim := { program := "ytllhgkacbpgemaa", sum := "d5c7176630e4133938f2ddcac18b0de98048c124ae4c6467fa0ecf3da2e15fa6", func := "gamehall/gamehalllaw2.IndexCounts", spec := "indexCounts", unfollowed := true, recurses := true, apart := false, narrowed := true }
def IndexCountsUptoSaid : Prop := indexCountsUptoRow.holds Try.pinned (OpenSpec.upto indexCountsSpec)

/-- 'gamehalllaw2.IndexRanks', WHERE WHAT IT READS IS OF BULK AT MOST 1048576: true; the input reads as it did. -/
def indexRanksUptoRow : OpenClaim := { program := "ytllhgkacbpgemaa", sum := "d5c7176630e4133938f2ddcac18b0de98048c124ae4c6467fa0ecf3da2e15fa6", func := "gamehall/gamehalllaw2.IndexRanks", spec := "indexRanks", unfollowed := true, recurses := true, apart := false, narrowed := true }
def IndexRanksUptoSaid : Prop := indexRanksUptoRow.holds Try.pinned (OpenSpec.upto indexRanksSpec)

/-- 'gamehalllaw2.DealCombines', WHERE WHAT IT READS IS OF BULK AT MOST 1048576: true; the input reads as it did. -/
def dealCombinesUptoRow : OpenClaim := { program := "ytllhgkacbpgemaa", sum := "d5c7176630e4133938f2ddcac18b0de98048c124ae4c6467fa0ecf3da2e15fa6", func := "gamehall/gamehalllaw2.DealCombines", spec := "dealCombines", unfollowed := true, recurses := true, apart := false, narrowed := true }
def DealCombinesUptoSaid : Prop := dealCombinesUptoRow.holds Try.pinned (OpenSpec.upto dealCombinesSpec)

/-- 'gamehalllaw2.DealSays', WHERE WHAT IT READS IS OF BULK AT MOST 1048576: true; the input reads as it did. -/
def dealSaysUptoRow : OpenClaim := { program := "ytllhgkacbpgemaa", sum := "d5c7176630e4133938f2ddcac18b0de98048c124ae4c6467fa0ecf3da2e15fa6", func := "gamehall/gamehalllaw2.DealSays", spec := "dealSays", unfollowed := true, recurses := true, apart := false, narrowed := true }
def DealSaysUptoSaid : Prop := dealSaysUptoRow.holds Try.pinned (OpenSpec.upto dealSaysSpec)

/-- 'gamehalllaw2.RanksHands', WHERE WHAT IT READS IS OF BULK AT MOST 1048576: true; the input reads as it did. -/
def ranksHandsUptoRow : OpenClaim := { program := "ytllhgkacbpgemaa", sum := "d5c7176630e4133938f2ddcac18b0de98048c124ae4c6467fa0ecf3da2e15fa6", func := "gamehall/gamehalllaw2.RanksHands", spec := "ranksHands", unfollowed := true, recurses := true, apart := false, narrowed := true }
def RanksHandsUptoSaid : Prop := ranksHandsUptoRow.holds Try.pinned (OpenSpec.upto ranksHandsSpec)

/-- 'gamehalllaw2.RanksWinners', WHERE WHAT IT READS IS OF BULK AT MOST 1048576: true; the input reads as it did. -/
def ranksWinnersUptoRow : OpenClaim := { program := "ytllhgkacbpgemaa", sum := "d5c7176630e4133938f2ddcac18b0de98048c124ae4c6467fa0ecf3da2e15fa6", func := "gamehall/gamehalllaw2.RanksWinners", spec := "ranksWinners", unfollowed := true, recurses := true, apart := false, narrowed := true }
def RanksWinnersUptoSaid : Prop := ranksWinnersUptoRow.holds Try.pinned (OpenSpec.upto ranksWinnersSpec)

/-- 'gamehalllaw2.RanksBests', WHERE WHAT IT READS IS OF BULK AT MOST 1048576: true; the input reads as it did. -/
def ranksBestsUptoRow : OpenClaim := { program := "ytllhgkacbpgemaa", sum := "d5c7176630e4133938f2ddcac18b0de98048c124ae4c6467fa0ecf3da2e15fa6", func := "gamehall/gamehalllaw2.RanksBests", spec := "ranksBests", unfollowed := true, recurses := true, apart := false, narrowed := true }
def RanksBestsUptoSaid : Prop := ranksBestsUptoRow.holds Try.pinned (OpenSpec.upto ranksBestsSpec)

end Rows
end Go.Proofs.Ytllhgkacbpgemaa
