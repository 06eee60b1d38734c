/- What the glob laws' proofs share: what the rows' list gives, where MaxLen lies, a world for the witness. -/
import Derived.Test.YtdjfakampjbgeaaDoorCards
import Derived.Test.YtdjfakampjbgeaaDoorTie
import Derived.Test.YtdjfakampjbgeaaDoorErrNum
import Derived.Test.YtdjfakampjbgeaaDoorGbI
import Derived.ProofKit
import Derived.OpenShut
import Derived.ShutString
import Derived.ChangeOld
import Derived.LaidHandle
import Derived.Deep.DeepHandedRow
import Derived.Shelf.Strings.Shaped
namespace Go.Proofs.YtdjfakampjbgeaaDoor
open Go.ChangeShapes Go.WideShapes Go.ChangeAt Go.RowKit Go.Shelf

theorem et : Tryd.prog.globalNamed "errors.errorType" = some 0 := by kernel_rfl
theorem rt : (Tryd.prog.cutTypes.find? (·.1 == "internal/reflectlite.rtype")).map (·.2) = some 127 := by kernel_rfl
theorem oneRow : ((List.range 199).filter fun t => Tryd.prog.rowNamed t [101, 114, 114, 111, 114]) = [25] := by kernel_rfl
theorem tsize : Tryd.prog.types.size = 199 := by kernel_rfl
def laidL : List (String × DataW Unit) := [("errors.errorType", Rows.laid_errors_errorType)]
theorem laid_filter : (laidL.filter fun x => x.2.handleName?.isSome) = [("errors.errorType", Rows.laid_errors_errorType)] := by rfl
/-- what the row's list gives: the variable's one cell. -/
theorem errVar {W : World} (h : laidMetH Tryd.prog laidL W) : ErrVar W := by
  unfold laidMetH at h
  rw [laid_filter] at h
  have hh := h.2 _ (List.mem_singleton.2 rfl)
  obtain ⟨name, u, ty, e1, e2, e3, e4, e5⟩ := hh
  have en : name = [101, 114, 114, 111, 114] := (Option.some.inj e1).symm
  subst en
  obtain rfl := Option.some.inj (rt.symm.trans e2)
  have hm : ty ∈ (List.range 199).filter fun t => Tryd.prog.rowNamed t [101, 114, 114, 111, 114] := List.mem_filter.2 ⟨List.mem_range.2 (by rw [← tsize]; exact e3), e4⟩
  rw [oneRow] at hm
  obtain rfl := List.mem_singleton.1 hm
  have hq : typeHandle Tryd.prog 25 = .pointer (some ⟨4, 25, none⟩) := by kernel_rfl
  rw [hq] at e5
  unfold ErrVar
  simpa using World.var?_cell et e5 0
shelf_lay LaysM.n145 Nm 145 at Tryd as Tryd.laysM145
/-- MaxLen lies where it lies in every world of the right shape. -/
theorem maxl {W : World} (h : W.ShapedOpen Tryd.prog) : Maxl W := Tryd.laysM145.s1_3 W h
def setCells_ (cs : List Value) : Obj → Obj
  | .cells _ t frozen => .cells cs.toArray t frozen
  | o => o
/-- a world for the witness: the settled one, the variable holding what its initialiser lays. -/
noncomputable def laidWorld (os : Os) : World :=
  { World.holding Tryd.prog os ⟨#[], #[], []⟩ with heap := (World.holding Tryd.prog os ⟨#[], #[], []⟩).heap.modify 0 (setCells_ [.iface 127 (.agg #[.pointer (some ⟨4, 25, none⟩)])]) }
end Go.Proofs.YtdjfakampjbgeaaDoor
