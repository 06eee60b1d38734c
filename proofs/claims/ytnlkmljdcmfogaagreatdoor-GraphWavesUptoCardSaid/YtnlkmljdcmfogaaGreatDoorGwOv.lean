/- What the proofs of the laws over build files share: the three variables that the rows list, where MaxLen lies, a world for the witness. -/
import Derived.Test.YtnlkmljdcmfogaaGreatDoorCards
import Derived.Test.YtnlkmljdcmfogaaGreatDoorTie
import Derived.Test.YtnlkmljdcmfogaaGreatDoorGwZ
import Derived.Test.YtnlkmljdcmfogaaGreatDoorGwJ
import Derived.ProofKit
import Derived.OpenShut
import Derived.ShutString
import Derived.ChangeOld
import Derived.LaidHandle
import Derived.Deep.DeepHandedRow
import Derived.Shelf.Strings.Shaped
import Derived.SliceStrings
import Derived.Lib.LaidU8T
namespace Go.Proofs.YtnlkmljdcmfogaaGreatDoor
open Go.ChangeShapes Go.WideShapes Go.ChangeAt Go.RowKit Go.Shelf

theorem laidOut : laidOutB Tryz.prog = true := by kernel_rfl
theorem bulk_part {H : Type} {d : DataW H} {l : List (DataW H)} (h : d ∈ l) : Rows.uptoBulk d ≤ Rows.uptoBulkAll l := by
  induction l with
  | nil => cases h
  | cons x r ih =>
    simp only [Rows.uptoBulkAll]
    rcases List.mem_cons.1 h with e | e
    · subst e; omega
    · have := ih e; omega
theorem et : Tryz.prog.globalNamed "errors.errorType" = some 0 := by kernel_rfl
theorem rt : (Tryz.prog.cutTypes.find? (·.1 == "internal/reflectlite.rtype")).map (·.2) = some 357 := by kernel_rfl
theorem oneRow : ((List.range 447).filter fun t => Tryz.prog.rowNamed t [101, 114, 114, 111, 114]) = [40] := by kernel_rfl
theorem tsize : Tryz.prog.types.size = 447 := by kernel_rfl
def laidL3 : List (String × DataW Unit) := [("unicode/utf8.acceptRanges", Rows.laid_unicode_utf8_acceptRanges), ("errors.errorType", Rows.laid_errors_errorType), ("unicode/utf8.first", Rows.laid_unicode_utf8_first)]
theorem laid_filter3 : (laidL3.filter fun x => x.2.handleName?.isSome) = [("errors.errorType", Rows.laid_errors_errorType)] := by rfl
theorem laid_plain3 : (laidL3.filter fun x => x.2.handleName?.isNone) = [("unicode/utf8.acceptRanges", Rows.laid_unicode_utf8_acceptRanges), ("unicode/utf8.first", Rows.laid_unicode_utf8_first)] := by rfl
/-- what the row's list gives: the error type's cell, and Go's two tables of UTF-8. -/
theorem errVar3 {W : World} (h : laidMetH Tryz.prog laidL3 W) : ErrVar W := by
  unfold laidMetH at h
  rw [laid_filter3] at h
  have hh := h.2 _ (List.mem_singleton.2 rfl)
  obtain ⟨name, u, ty, e1, e2, e3, e4, e5⟩ := hh
  have en : name = [101, 114, 114, 111, 114] := (Option.some.inj e1).symm
  subst en
  obtain rfl := Option.some.inj (rt.symm.trans e2)
  have hm : ty ∈ (List.range 447).filter fun t => Tryz.prog.rowNamed t [101, 114, 114, 111, 114] := List.mem_filter.2 ⟨List.mem_range.2 (by rw [← tsize]; exact e3), e4⟩
  rw [oneRow] at hm
  obtain rfl := List.mem_singleton.1 hm
  have hq : typeHandle Tryz.prog 40 = .pointer (some ⟨4, 40, none⟩) := by kernel_rfl
  rw [hq] at e5
  unfold ErrVar
  simpa using World.var?_cell et e5 0
set_option maxRecDepth 1000000 in
theorem tabs3 {W : World} (h : laidMetH Tryz.prog laidL3 W) : Tabs W := by
  unfold laidMetH at h
  rw [laid_filter3] at h
  have h1 := h.1
  rw [laid_plain3] at h1
  exact utf8Tabs_of_readsT (ρ := Tryz.lays196_ren) (U8Types.of196 Tryz.lays196) ⟨by kernel_rfl, by kernel_rfl, by kernel_rfl, by kernel_rfl, by kernel_rfl, by kernel_rfl, by kernel_rfl⟩ (Lib.laidMet.reads h1 (.tail _ (.head _))) (Lib.laidMet.reads h1 (.head _))
def Tryz.laysM145_ren : Go.Shelf.Ren := ⟨fun | 145 => 183 | 220 => 240 | 219 => 267 | 217 => 262 | 225 => 279 | 224 => 280 | 267 => 281 | 266 => 277 | 314 => 285 | n => n, fun | 9 => 9 | 4 => 4 | 59 => 317 | 3 => 3 | 5 => 5 | 46 => 277 | 146 => 415 | 51 => 340 | n => n, fun | 1 => 3 | n => n⟩
theorem Tryz.laysM145 : Go.Proofs.LaysM.n145 Tryz.prog Tryz.laysM145_ren := {
  mixed := by kernel_rfl
  f145 := Tryz.func183.trans (congrArg some (by kernel_rfl))
  f217 := Tryz.func262.trans (congrArg some (by kernel_rfl))
  f219 := Tryz.func267.trans (congrArg some (by kernel_rfl))
  f220 := Tryz.func240.trans (congrArg some (by kernel_rfl))
  f224 := Tryz.func280.trans (congrArg some (by kernel_rfl))
  f225 := Tryz.func279.trans (congrArg some (by kernel_rfl))
  f266 := Tryz.func277.trans (congrArg some (by kernel_rfl))
  f267 := Tryz.func281.trans (congrArg some (by kernel_rfl))
  f314 := Tryz.func285.trans (congrArg some (by kernel_rfl))
  t3 := Tryz.underlying3
  a3 := Tryz.isAgg3
  z3 := Tryz.sizeOf3
  v3 := Tryz.zeroValue3
  t4 := Tryz.underlying4
  a4 := Tryz.isAgg4
  z4 := Tryz.sizeOf4
  v4 := Tryz.zeroValue4
  t5 := Tryz.underlying5
  a5 := Tryz.isAgg5
  z5 := Tryz.sizeOf5
  v5 := Tryz.zeroValue5
  t9 := Tryz.underlying9
  a9 := Tryz.isAgg9
  z9 := Tryz.sizeOf9
  v9 := Tryz.zeroValue9
  t46 := Tryz.underlying277
  a46 := Tryz.isAgg277
  z46 := Tryz.sizeOf277
  v46 := Tryz.zeroValue277
  t51 := Tryz.underlying340
  a51 := Tryz.isAgg340
  z51 := Tryz.sizeOf340
  v51 := Tryz.zeroValue340
  t59 := Tryz.underlying317
  a59 := Tryz.isAgg317
  z59 := Tryz.sizeOf317
  v59 := Tryz.zeroValue317
  t146 := Tryz.underlying415
  a146 := Tryz.isAgg415
  z146 := Tryz.sizeOf415
  v146 := Tryz.zeroValue415
  g1 := by kernel_rfl
  i3 := by kernel_rfl
  i4 := by kernel_rfl
  i5 := by kernel_rfl
  i9 := by kernel_rfl
  i46 := by kernel_rfl
  i51 := by kernel_rfl
  i59 := by kernel_rfl
  i146 := by kernel_rfl
  m1 := by kernel_rfl
  s1_3 := fun w h => Go.Proofs.cell_of_shapedOpen_int (zero := #[.int .i64 0]) (t := 3) h (of_decide_eq_true (by kernel_rfl)) (by kernel_rfl) rfl (by kernel_rfl) (by kernel_rfl) Tryz.underlying3 }
/-- MaxLen lies where it lies in every world of the right shape. -/
theorem maxl {W : World} (h : W.ShapedOpen Tryz.prog) : Maxl W := Tryz.laysM145.s1_3 W h
def setCells_ (cs : List Value) : Obj → Obj
  | .cells _ t frozen => .cells cs.toArray t frozen
  | o => o
def flat1 : DataW Unit → List Value
  | .lit (.int k a) => [.int k a]
  | _ => []
def flat2 : DataW Unit → List Value
  | .agg l => l.flatMap flat1
  | _ => []
def arCells : List Value := match (Rows.laid_unicode_utf8_acceptRanges : DataW Unit) with
  | .agg l => l.flatMap flat2
  | _ => []
def fiCells : List Value := flat2 Rows.laid_unicode_utf8_first
/-- a world for the witness: the settled one, the variables holding what their initialisers lay. -/
noncomputable def laidWorld3 (os : Os) : World :=
  { World.holding Tryz.prog os ⟨#[], #[], []⟩ with heap := (((World.holding Tryz.prog os ⟨#[], #[], []⟩).heap.modify 0 (setCells_ [.iface 357 (.agg #[.pointer (some ⟨4, 40, none⟩)])])).modify 2 (setCells_ arCells)).modify 1 (setCells_ fiCells) }
/-- the law, of a plan whose lengths are bounded. -/
theorem lawWavesW (f : PM) (w : World) (h1 : f.Ok w) (h2 : PlLe 1048576 f) (hT : Tabs w) (hV : ErrVar w) (hM : Maxl w) : Calls Tryz.prog 4 #[f.val] w fun e w' => e = .returned (.bool true) ∧ Below w.heap.size w w' :=
  lawWaves_any f w h1 hT hM hV (by have := h2.1; omega) (fun n hn => by have := h2.2.1 n hn; omega) (by have := h2.2.2.1; omega) (by have := h2.2.2.2; omega)
end Go.Proofs.YtnlkmljdcmfogaaGreatDoor
