/- What the ustar laws' proofs share: what the rows' list gives, a world for the witness, headers and entries as arguments. -/
import Derived.Test.YtfhfahlocpmdkaaDoorCards
import Derived.Test.YtfhfahlocpmdkaaDoorTie
import Derived.Test.YtfhfahlocpmdkaaDoorUsD
import Derived.Test.YtfhfahlocpmdkaaDoorErrNum
import Derived.Test.YtfhfahlocpmdkaaDoorAgg
import Derived.ProofKit
import Derived.OpenShut
import Derived.ShutString
import Derived.ChangeOld
import Derived.LaidHandle
import Derived.Deep.DeepHandedRow
import Derived.Deep.Slices
namespace Go.Proofs.YtfhfahlocpmdkaaDoor
open Go.ChangeShapes Go.WideShapes Go.ChangeAt Go.RowKit Go.Deep

theorem et : Tryd.prog.globalNamed "errors.errorType" = some 0 := by kernel_rfl
theorem rt : (Tryd.prog.cutTypes.find? (·.1 == "internal/reflectlite.rtype")).map (·.2) = some 102 := by kernel_rfl
theorem oneRow : ((List.range 167).filter fun t => Tryd.prog.rowNamed t [101, 114, 114, 111, 114]) = [27] := by kernel_rfl
theorem tsize : Tryd.prog.types.size = 167 := by kernel_rfl
def laidL : List (String × DataW Unit) := [("unicode/utf8.acceptRanges", Rows.laid_unicode_utf8_acceptRanges), ("errors.errorType", Rows.laid_errors_errorType), ("unicode/utf8.first", Rows.laid_unicode_utf8_first)]
theorem laid_filter : (laidL.filter fun x => x.2.handleName?.isSome) = [("errors.errorType", Rows.laid_errors_errorType)] := by rfl
/-- what the row's list gives: the variable's one cell. -/
theorem errVar {W : World} (h : laidMetH Tryd.prog laidL W) : ErrVar W := by
  unfold laidMetH at h
  rw [laid_filter] at h
  have hh := h.2 _ (List.mem_singleton.2 rfl)
  obtain ⟨name, u, ty, e1, e2, e3, e4, e5⟩ := hh
  have en : name = [101, 114, 114, 111, 114] := (Option.some.inj e1).symm
  subst en
  obtain rfl := Option.some.inj (rt.symm.trans e2)
  have hm : ty ∈ (List.range 167).filter fun t => Tryd.prog.rowNamed t [101, 114, 114, 111, 114] := List.mem_filter.2 ⟨List.mem_range.2 (by rw [← tsize]; exact e3), e4⟩
  rw [oneRow] at hm
  obtain rfl := List.mem_singleton.1 hm
  have hq : typeHandle Tryd.prog 27 = .pointer (some ⟨4, 27, none⟩) := by kernel_rfl
  rw [hq] at e5
  unfold ErrVar
  simpa using World.var?_cell et e5 0

def flat1 : DataW Unit → List Value
  | .lit (.int k a) => [.int k a]
  | _ => []
def flat2 : DataW Unit → List Value
  | .agg l => l.flatMap flat1
  | _ => []
def arCells : List Value := match (Rows.laid_unicode_utf8_acceptRanges : DataW Unit) with
  | .agg l => l.flatMap flat2
  | _ => []
def fiCells : List Value := flat2 Rows.laid_unicode_utf8_first
def setCells_ (cs : List Value) : Obj → Obj
  | .cells _ t frozen => .cells cs.toArray t frozen
  | o => o
/-- a world for the witness: the settled one, the variables holding what their initialisers lay. -/
noncomputable def laidWorld (os : Os) : World :=
  { World.holding Tryd.prog os ⟨#[], #[], []⟩ with heap := (((World.holding Tryd.prog os ⟨#[], #[], []⟩).heap.modify 0 (setCells_ [.iface 102 (.agg #[.pointer (some ⟨4, 27, none⟩)])])).modify 3 (setCells_ arCells)).modify 2 (setCells_ fiCells) }

/-- a header, as a datum. -/
def hdD {H : Type} (h : Us.Hd) : DataW H := .agg [.lit (.string h.path), .lit (.int .i64 h.mode), .lit (.int .i64 h.uid), .lit (.int .i64 h.gid), .lit (.int .i64 h.size), .lit (.int .i64 h.time), .lit (.int .u8 (h.type.toNat : Int)), .lit (.string h.link), .lit (.string h.user), .lit (.string h.group), .lit (.int .i64 h.major), .lit (.int .i64 h.minor)]
structure HdOk (h : Us.Hd) : Prop where
  l0 : (bs h.path).size ≤ maxLen
  l7 : (bs h.link).size ≤ maxLen
  l8 : (bs h.user).size ≤ maxLen
  l9 : (bs h.group).size ≤ maxLen
  i1 : (Lit.int .i64 h.mode).wf = true
  i2 : (Lit.int .i64 h.uid).wf = true
  i3 : (Lit.int .i64 h.gid).wf = true
  i4 : (Lit.int .i64 h.size).wf = true
  i5 : (Lit.int .i64 h.time).wf = true
  i6 : (Lit.int .u8 (h.type.toNat : Int)).wf = true
  i10 : (Lit.int .i64 h.major).wf = true
  i11 : (Lit.int .i64 h.minor).wf = true
theorem hd_one : ∃ f0 f1 f2 f3 f4 f5 f6 f7 f8 f9 f10 f11 : Field, Tryd.prog.underlying 23 = some (.struct #[f0, f1, f2, f3, f4, f5, f6, f7, f8, f9, f10, f11]) ∧ oneCellFields Tryd.prog #[f0, f1, f2, f3, f4, f5, f6, f7, f8, f9, f10, f11] = true ∧ Tryd.prog.cellsOf 23 = 12 ∧
    f0.type = 9 ∧ f1.type = 2 ∧ f2.type = 2 ∧ f3.type = 2 ∧ f4.type = 2 ∧ f5.type = 2 ∧ f6.type = 5 ∧ f7.type = 9 ∧ f8.type = 9 ∧ f9.type = 9 ∧ f10.type = 2 ∧ f11.type = 2 :=
  ⟨_, _, _, _, _, _, _, _, _, _, _, _, Tryd.underlying23, by kernel_rfl, by kernel_rfl, rfl, rfl, rfl, rfl, rfl, rfl, rfl, rfl, rfl, rfl, rfl, rfl⟩
section
variable {H : Type} {enc : TypeId × Value → H} {w : World} {base : Nat} {spare : Nat → Bool} {held : Bool}
theorem cell_string {n : Nat} {v : Value} {y : DataW H × List MemPlace} (h : DataW.trod enc Tryd.prog w base spare held n 9 [v] = some y) : ∃ l : List UInt8, v = .string (bs l) ∧ y = (.lit (.string l), []) ∧ (bs l).size ≤ maxLen := by
  obtain ⟨s, h1, h2, h3⟩ := DataW.trod_string Tryd.underlying9 h
  refine ⟨bl s, ?_, h2, by rw [bs_bl]; exact h3⟩
  rw [bs_bl]
  injection h1
theorem cell_i64 {n : Nat} {v : Value} {y : DataW H × List MemPlace} (h : DataW.trod enc Tryd.prog w base spare held n 2 [v] = some y) : ∃ x : Int, v = .int .i64 x ∧ y = (.lit (.int .i64 x), []) ∧ (Lit.int .i64 x).wf = true := by
  obtain ⟨x, h1, h2, h3⟩ := DataW.trod_int Tryd.underlying2 h
  exact ⟨x, by injection h1, h2, h3⟩
theorem cell_u8 {n : Nat} {v : Value} {y : DataW H × List MemPlace} (h : DataW.trod enc Tryd.prog w base spare held n 5 [v] = some y) : ∃ c : UInt8, v = .int .u8 (c.toNat : Int) ∧ y = (.lit (.int .u8 (c.toNat : Int)), []) ∧ (Lit.int .u8 (c.toNat : Int)).wf = true := by
  obtain ⟨x, h1, h2, h3⟩ := DataW.trod_int Tryd.underlying5 h
  have hr : 0 ≤ x ∧ x ≤ 255 := by
    simp only [Lit.wf, Bool.and_eq_true, decide_eq_true_eq] at h3
    exact h3
  have e : (((UInt8.ofNat x.toNat).toNat : Nat) : Int) = x := by
    rw [UInt8.toNat_ofNat']; omega
  refine ⟨UInt8.ofNat x.toNat, ?_, by rw [e]; exact h2, by rw [e]; exact h3⟩
  rw [e]
  injection h1
set_option maxRecDepth 100000 in
theorem open_hd {r : Reach} {b0 : Nat} {v : Value} {d : DataW H} {p : List MemPlace} (hv : Value.okWide Tryd.prog w r b0 23 v) (h : DataW.Trod enc Tryd.prog w base spare held 23 v d p) :
    ∃ h : Us.Hd, v = .agg (hdC h) ∧ d = hdD h ∧ p = [] ∧ HdOk h := by
  obtain ⟨f0, f1, f2, f3, f4, f5, f6, f7, f8, f9, f10, f11, hu, hone, hC, e0, e1, e2, e3, e4, e5, e6, e7, e8, e9, e10, e11⟩ := hd_one
  obtain ⟨v0, v1, v2, v3, v4, v5, v6, v7, v8, v9, v10, v11, y0, y1, y2, y3, y4, y5, y6, y7, y8, y9, y10, y11, n, rfl, rfl, rfl, t0, t1, t2, t3, t4, t5, t6, t7, t8, t9, t10, t11⟩ := open_agg12 hu hone hC hv h
  rw [e0] at t0; rw [e1] at t1; rw [e2] at t2; rw [e3] at t3; rw [e4] at t4; rw [e5] at t5; rw [e6] at t6; rw [e7] at t7; rw [e8] at t8; rw [e9] at t9; rw [e10] at t10; rw [e11] at t11
  obtain ⟨s0, rfl, rfl, l0⟩ := cell_string t0
  obtain ⟨x1, rfl, rfl, i1⟩ := cell_i64 t1
  obtain ⟨x2, rfl, rfl, i2⟩ := cell_i64 t2
  obtain ⟨x3, rfl, rfl, i3⟩ := cell_i64 t3
  obtain ⟨x4, rfl, rfl, i4⟩ := cell_i64 t4
  obtain ⟨x5, rfl, rfl, i5⟩ := cell_i64 t5
  obtain ⟨c6, rfl, rfl, i6⟩ := cell_u8 t6
  obtain ⟨s7, rfl, rfl, l7⟩ := cell_string t7
  obtain ⟨s8, rfl, rfl, l8⟩ := cell_string t8
  obtain ⟨s9, rfl, rfl, l9⟩ := cell_string t9
  obtain ⟨x10, rfl, rfl, i10⟩ := cell_i64 t10
  obtain ⟨x11, rfl, rfl, i11⟩ := cell_i64 t11
  exact ⟨⟨s0, x1, x2, x3, x4, x5, c6, s7, s8, s9, x10, x11⟩, rfl, rfl, rfl, l0, l7, l8, l9, i1, i2, i3, i4, i5, i6, i10, i11⟩
set_option maxRecDepth 100000 in
theorem shut_hd {h : Us.Hd} (ok : HdOk h) : DataW.Trod enc Tryd.prog w base spare held 23 (.agg (hdC h)) (hdD h) [] := by
  obtain ⟨f0, f1, f2, f3, f4, f5, f6, f7, f8, f9, f10, f11, hu, hone, hC, e0, e1, e2, e3, e4, e5, e6, e7, e8, e9, e10, e11⟩ := hd_one
  have st : ∀ {l : List UInt8}, (bs l).size ≤ maxLen → ∃ n, DataW.trod enc Tryd.prog w base spare held n 9 [.string (bs l)] = some (.lit (.string l), []) := fun hl => shut_string_cell Tryd.underlying9 hl
  have it : ∀ {x : Int}, (Lit.int .i64 x).wf = true → ∃ n, DataW.trod enc Tryd.prog w base spare held n 2 [.int .i64 x] = some (.lit (.int .i64 x), []) := fun hx => ⟨1, trod_int_mk 0 Tryd.underlying2 hx⟩
  have ut : ∀ {x : Int}, (Lit.int .u8 x).wf = true → ∃ n, DataW.trod enc Tryd.prog w base spare held n 5 [.int .u8 x] = some (.lit (.int .u8 x), []) := fun hx => ⟨1, trod_int_mk 0 Tryd.underlying5 hx⟩
  exact shut_agg12 hu hone hC (by rw [e0]; exact st ok.l0) (by rw [e1]; exact it ok.i1) (by rw [e2]; exact it ok.i2) (by rw [e3]; exact it ok.i3) (by rw [e4]; exact it ok.i4) (by rw [e5]; exact it ok.i5) (by rw [e6]; exact ut ok.i6) (by rw [e7]; exact st ok.l7) (by rw [e8]; exact st ok.l8) (by rw [e9]; exact st ok.l9) (by rw [e10]; exact it ok.i10) (by rw [e11]; exact it ok.i11)
end
/-- its texts are no longer than its bulk. -/
theorem hd_bulk {H : Type} (h : Us.Hd) {n : Nat} (hb : Rows.uptoBulk (hdD h : DataW H) ≤ n) : (bs h.path).size ≤ n ∧ (bs h.link).size ≤ n ∧ (bs h.user).size ≤ n ∧ (bs h.group).size ≤ n := by
  simp only [hdD, Rows.uptoBulkAll, Rows.uptoBulk] at hb
  simp only [bs_size]
  omega
theorem hd_short {h : Us.Hd} (hb : (bs h.path).size ≤ 1048576 ∧ (bs h.link).size ≤ 1048576 ∧ (bs h.user).size ≤ 1048576 ∧ (bs h.group).size ≤ 1048576) : Short h := ⟨by omega, by omega, by omega, by omega⟩
end Go.Proofs.YtfhfahlocpmdkaaDoor
