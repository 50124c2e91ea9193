/- from a row's laid variables to the walks' premise -/
import Derived.Test.YtecfphohmgbddaaDoorTableA
import Derived.Test.YtecfphohmgbddaaDoorTied
import Derived.Stop.LaidErr
import Derived.LaidSub
import Derived.MakeChecks
namespace Go.Proofs.YtecfphohmgbddaaDoor
open Go.ChangeShapes Go.WideShapes Go.ChangeAt Go.RowKit
set_option linter.unusedVariables false

theorem laid_iface {P : Program} {n nm : String} {d : DataW Unit} {r : List (String × DataW Unit)} {W : World} {ti : TypeId} {ms : Array (String × TypeId)}
    (h : laidMet P ((n, .iface nm d) :: r) W) (hK : ((P.globalNamed n).bind fun g => (P.globals[g]?).map (·.type)) = some ti) (hi : P.underlying ti = some (.interface ms)) :
    ∃ tp p, W.var? P n = some #[.iface tp p] := by
  obtain ⟨ps, ⟨g0, t0, cs0, f0, p0, q0, hg0, ht0, hv0, hd0, _, e0⟩, _⟩ := h
  rw [hg0, Option.bind_some, ht0] at hK
  obtain rfl := Option.some.inj hK
  obtain ⟨l0⟩ := cs0
  obtain ⟨_, u, v, rfl, _⟩ := iface_of_trod hi hd0
  exact ⟨u, v, hv0⟩

theorem laid_tab {P : Program} {name : String} {k : IntKind} {zs : List Int} {r : List (String × DataW Unit)} {W : World} {t e : TypeId} {n : Nat}
    (h : laidMet P ((name, Lib.tabData k zs) :: r) W) (hK : ((P.globalNamed name).bind fun g => (P.globals[g]?).map (·.type)) = some t)
    (ht : P.underlying t = some (.array n e)) (he : P.underlying e = some (.int k)) (hce : P.cellsOf e = 1) (hct : P.cellsOf t = n) : Lib.TabIs P W name k zs := by
  obtain ⟨ps, ⟨g0, t0, cs0, f0, p0, q0, hg0, ht0, hv0, hd0, _, e0⟩, _⟩ := h
  rw [hg0, Option.bind_some, ht0] at hK
  obtain rfl := Option.some.inj hK
  unfold Lib.TabIs
  rw [hv0, ← Lib.cells_of_tab ht he hce hct hd0]

theorem strV_of_laid {l : List (String × DataW Unit)} {W : World} (h : laidMetH Tryd.prog l W) (hp : (l.all fun x => x.2.handleName?.isNone) = true)
    (h1 : (l.filter fun x => x.1 == "internal/strconv.uint64pow10") = [("internal/strconv.uint64pow10", Rows.laid_internal_strconv_uint64pow10)])
    (h2 : (l.filter fun x => x.1 == "strconv.ErrSyntax") = [("strconv.ErrSyntax", Rows.laid_strconv_ErrSyntax)])
    (h3 : (l.filter fun x => x.1 == "strconv.ErrRange") = [("strconv.ErrRange", Rows.laid_strconv_ErrRange)]) : StrV W := by
  rw [MakeChecks.laidMetH_plain _ _ _ hp] at h
  have k1 := h.filter (fun x => x.1 == "internal/strconv.uint64pow10")
  have k2 := h.filter (fun x => x.1 == "strconv.ErrSyntax")
  have k3 := h.filter (fun x => x.1 == "strconv.ErrRange")
  rw [h1] at k1
  rw [h2] at k2
  rw [h3] at k3
  refine ⟨?_, ?_, ?_⟩
  · exact laid_tab (n := 20) (e := 78) (t := 103) k1 (by kernel_rfl) (by kernel_rfl) (by kernel_rfl) (by kernel_rfl) (by kernel_rfl)
  · exact laid_iface (ti := 53) k2 (by kernel_rfl) Tryd.underlying53
  · exact laid_iface (ti := 53) k3 (by kernel_rfl) Tryd.underlying53
end Go.Proofs.YtecfphohmgbddaaDoor
