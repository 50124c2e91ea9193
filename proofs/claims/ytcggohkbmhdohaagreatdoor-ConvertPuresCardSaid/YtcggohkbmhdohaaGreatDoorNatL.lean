/- from a row's laid variables to the walks' premise TabPow -/
import Derived.Test.YtcggohkbmhdohaaGreatDoorWkB
import Derived.Test.YtcggohkbmhdohaaGreatDoorTied
import Derived.Stop.LaidErr
import Derived.LaidSub
import Derived.MakeChecks
namespace Go.Proofs.YtcggohkbmhdohaaGreatDoor
open Go.ChangeShapes Go.WideShapes Go.ChangeAt Go.RowKit
set_option linter.unusedVariables false
theorem laid_tab {P:Program} {name:String} {k:IntKind} {zs:List Int} {r:List (String × DataW Unit)} {W:World} {t e:TypeId} {n:Nat}
 (h:laidMet P ((name,Lib.tabData k zs) :: r) W) (hK:((P.globalNamed name).bind fun g => (P.globals[g]?).map (·.type))=some t)
 (ht:P.underlying t=some (.array n e)) (he:P.underlying e=some (.int k)) (hce:P.cellsOf e=1) (hct:P.cellsOf t=n):Lib.TabIs P W name k zs:=by
 obtain ⟨ps,⟨g0,t0,cs0,f0,p0,q0,hg0,ht0,hv0,hd0,_,e0⟩,_⟩:=h
 rw [hg0,Option.bind_some,ht0] at hK
 obtain rfl:=Option.some.inj hK
 unfold Lib.TabIs
 rw [hv0,← Lib.cells_of_tab ht he hce hct hd0]
theorem tabPow_of_laid {l:List (String × DataW Unit)} {W:World} (h:laidMetH Tryz.prog l W) (hp:(l.all fun x => x.2.handleName?.isNone)=true)
 (h1 : (l.filter fun x => x.1 == "internal/strconv.uint64pow10") = [("internal/strconv.uint64pow10", Rows.laid_internal_strconv_uint64pow10)]) : TabPow W := by
 rw [MakeChecks.laidMetH_plain _ _ _ hp] at h
 have k1 := h.filter (fun x => x.1 == "internal/strconv.uint64pow10")
 rw [h1] at k1
 exact laid_tab (n:=20) (e:=191) (t:=262) k1 (by kernel_rfl) (by kernel_rfl) (by kernel_rfl) (by kernel_rfl) (by kernel_rfl)
end Go.Proofs.YtcggohkbmhdohaaGreatDoor
