/- What the proofs of laws over lists share: the three variables; a slice of texts among the arguments, opened. -/
import Derived.Test.YtdjfakampjbgeaaDoorGqV
import Derived.Test.YtdjfakampjbgeaaDoorGoH
import Derived.SliceStrings
namespace Go.Proofs.YtdjfakampjbgeaaDoor
open Go.ChangeShapes Go.WideShapes Go.RowKit

theorem laidOut : laidOutB Tryd.prog = true := by kernel_rfl
theorem bulk_part {H : Type} {d : DataW H} {l : List (DataW H)} (h : d ∈ l) : Rows.uptoBulk d ≤ Rows.uptoBulkAll l := by
  induction l with
  | nil => cases h
  | cons x r ih =>
    simp only [Rows.uptoBulkAll]
    rcases List.mem_cons.1 h with e | e
    · subst e; omega
    · have := ih e; omega
theorem open_texts {H : Type} {enc : TypeId × Value → H} {W : World} {a : Option Addr} {n c : Nat} {d : DataW H} {ps : List MemPlace} (h : DataW.Trod enc Tryd.prog W 0 (fun _ => true) true 28 (.slice a n c) d ps) :
    ∃ T : List (List UInt8), n = T.length ∧ ArgT W a T ∧ ∀ x ∈ T, x.length + 1 ≤ Rows.uptoBulk d := by
  obtain ⟨fuel, hf⟩ := h
  rcases open_strings Tryd.underlying28 Tryd.underlying9 (by kernel_rfl) hf with ⟨hcs, hx⟩ | ⟨a', len, cap, ss, hcs, _, hl, _, hz, hx, hcell, _⟩
  · simp [Value.cells] at hcs
    obtain ⟨rfl, rfl, rfl⟩ := hcs
    exact ⟨[], rfl, fun j hj => absurd hj (by simp), fun x hx => by cases hx⟩
  · simp [Value.cells] at hcs
    obtain ⟨rfl, rfl, rfl⟩ := hcs
    simp only [if_true] at hz
    have hlen : ((ss.take n).map bl).length = n := by rw [List.length_map, List.length_take]; omega
    refine ⟨(ss.take n).map bl, hlen.symm, fun j hj => ?_, fun x hxm => ?_⟩
    · have hj2 : j < ss.length := by omega
      refine ⟨a', rfl, ?_⟩
      rw [hcell j hj2]
      have e1 : ss.getD j ByteArray.empty = ss[j] := by simp [List.getD, List.getElem?_eq_getElem hj2]
      rw [e1]
      simp [bs_bl]
    · obtain ⟨s, hs, rfl⟩ := List.mem_map.1 hxm
      have hd : d = .slice (strs (ss.take n)) (strs (ss.drop n)) := congrArg Prod.fst hx
      have hm : (DataW.lit (.string s.data.toList) : DataW H) ∈ strs (ss.take n) := List.mem_map.2 ⟨s, hs, rfl⟩
      have h1 := bulk_part hm
      have h2 : Rows.uptoBulk (DataW.lit (H := H) (.string s.data.toList)) = s.data.toList.length + 1 := by simp [Rows.uptoBulk]
      rw [h2] at h1
      rw [hd]
      simp only [Rows.uptoBulk]
      have h3 : (bl s).length = s.data.toList.length := rfl
      omega
def laidL3 : List (String × DataW Unit) := [("unicode/utf8.acceptRanges", Rows.laid_unicode_utf8_acceptRanges), ("errors.errorType", Rows.laid_errors_errorType), ("unicode/utf8.first", Rows.laid_unicode_utf8_first)]
theorem laid_filter3 : (laidL3.filter fun x => x.2.handleName?.isSome) = [("errors.errorType", Rows.laid_errors_errorType)] := by rfl
/-- what the row's list gives: the variable's one cell. -/
theorem errVar3 {W : World} (h : laidMetH Tryd.prog laidL3 W) : ErrVar W := by
  unfold laidMetH at h
  rw [laid_filter3] at h
  have hh := h.2 _ (List.mem_singleton.2 rfl)
  obtain ⟨name, u, ty, e1, e2, e3, e4, e5⟩ := hh
  have en : name = [101, 114, 114, 111, 114] := (Option.some.inj e1).symm
  subst en
  obtain rfl := Option.some.inj (rt.symm.trans e2)
  have hm : ty ∈ (List.range 199).filter fun t => Tryd.prog.rowNamed t [101, 114, 114, 111, 114] := List.mem_filter.2 ⟨List.mem_range.2 (by rw [← tsize]; exact e3), e4⟩
  rw [oneRow] at hm
  obtain rfl := List.mem_singleton.1 hm
  have hq : typeHandle Tryd.prog 25 = .pointer (some ⟨4, 25, none⟩) := by kernel_rfl
  rw [hq] at e5
  unfold ErrVar
  simpa using World.var?_cell et e5 0
def flat1 : DataW Unit → List Value
  | .lit (.int k a) => [.int k a]
  | _ => []
def flat2 : DataW Unit → List Value
  | .agg l => l.flatMap flat1
  | _ => []
def arCells : List Value := match (Rows.laid_unicode_utf8_acceptRanges : DataW Unit) with
  | .agg l => l.flatMap flat2
  | _ => []
def fiCells : List Value := flat2 Rows.laid_unicode_utf8_first
/-- a world for the witness: the settled one, the variables holding what their initialisers lay. -/
noncomputable def laidWorld3 (os : Os) : World :=
  { World.holding Tryd.prog os ⟨#[], #[], []⟩ with heap := (((World.holding Tryd.prog os ⟨#[], #[], []⟩).heap.modify 0 (setCells_ [.iface 127 (.agg #[.pointer (some ⟨4, 25, none⟩)])])).modify 3 (setCells_ arCells)).modify 2 (setCells_ fiCells) }
end Go.Proofs.YtdjfakampjbgeaaDoor
