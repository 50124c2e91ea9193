/- walks: long; the law NatProducts -/
import Derived.Test.YtcggohkbmhdohaaGreatDoorNtDE
import Derived.Test.YtcggohkbmhdohaaGreatDoorRtA
namespace Go.Proofs.YtcggohkbmhdohaaGreatDoor
open Go.RowKit
set_option linter.unusedVariables false
theorem cell_new (w:World) (x:Value) (e:TypeId):(w.alloc (.cells #[x] e)).cell? ⟨w.heap.size,0,none⟩=some x:=by simp [World.cell?_alloc_new]
theorem lit_strs (w:World) (e:TypeId) (xs:List ByteArray) (h:xs.length ≤ 17592186044416) :
 Strs (w.alloc (.cells (xs.map Value.string).toArray e)) (.slice (some ⟨w.heap.size,0,none⟩) xs.length xs.length) xs:=by
 have:=World.ownsRow_lit (base:=w.heap.size) (e:=e) (size:=1) w (xs.map Value.string).toArray xs.length (Nat.le_refl _) (by unfold maxLen; omega) (by simp)
 exact own_rowOf this h
theorem lit_strs_at (w:World) (e:TypeId) (xs:List ByteArray) (h:xs.length ≤ 17592186044416) (k:Nat) (hk:k=w.heap.size) :
 Strs (w.alloc (.cells (xs.map Value.string).toArray e)) (.slice (some ⟨k,0,none⟩) xs.length xs.length) xs:=by
 subst hk; exact lit_strs w e xs h
end Go.Proofs.YtcggohkbmhdohaaGreatDoor
