/- What the proofs of laws over lists share: the three variables that the rows list. -/
import Derived.Test.YtdjfakampjbgeaaGreatDoorGqV
namespace Go.Proofs.YtdjfakampjbgeaaGreatDoor
open Go.ChangeShapes Go.WideShapes Go.RowKit

def laidL3 : List (String × DataW Unit) := [("unicode/utf8.acceptRanges", Rows.laid_unicode_utf8_acceptRanges), ("errors.errorType", Rows.laid_errors_errorType), ("unicode/utf8.first", Rows.laid_unicode_utf8_first)]
theorem laid_filter3 : (laidL3.filter fun x => x.2.handleName?.isSome) = [("errors.errorType", Rows.laid_errors_errorType)] := by rfl
/-- what the row's list gives: the variable's one cell. -/
theorem errVar3 {W : World} (h : laidMetH Tryz.prog laidL3 W) : ErrVar W := by
  unfold laidMetH at h
  rw [laid_filter3] at h
  have hh := h.2 _ (List.mem_singleton.2 rfl)
  obtain ⟨name, u, ty, e1, e2, e3, e4, e5⟩ := hh
  have en : name = [101, 114, 114, 111, 114] := (Option.some.inj e1).symm
  subst en
  obtain rfl := Option.some.inj (rt.symm.trans e2)
  have hm : ty ∈ (List.range 204).filter fun t => Tryz.prog.rowNamed t [101, 114, 114, 111, 114] := List.mem_filter.2 ⟨List.mem_range.2 (by rw [← tsize]; exact e3), e4⟩
  rw [oneRow] at hm
  obtain rfl := List.mem_singleton.1 hm
  have hq : typeHandle Tryz.prog 28 = .pointer (some ⟨4, 28, none⟩) := by kernel_rfl
  rw [hq] at e5
  unfold ErrVar
  simpa using World.var?_cell et e5 0
def flat1 : DataW Unit → List Value
  | .lit (.int k a) => [.int k a]
  | _ => []
def flat2 : DataW Unit → List Value
  | .agg l => l.flatMap flat1
  | _ => []
def arCells : List Value := match (Rows.laid_unicode_utf8_acceptRanges : DataW Unit) with
  | .agg l => l.flatMap flat2
  | _ => []
def fiCells : List Value := flat2 Rows.laid_unicode_utf8_first
/-- a world for the witness: the settled one, the variables holding what their initialisers lay. -/
noncomputable def laidWorld3 (os : Os) : World :=
  { World.holding Tryz.prog os ⟨#[], #[], []⟩ with heap := (((World.holding Tryz.prog os ⟨#[], #[], []⟩).heap.modify 0 (setCells_ [.iface 128 (.agg #[.pointer (some ⟨4, 28, none⟩)])])).modify 3 (setCells_ arCells)).modify 2 (setCells_ fiCells) }
end Go.Proofs.YtdjfakampjbgeaaGreatDoor
