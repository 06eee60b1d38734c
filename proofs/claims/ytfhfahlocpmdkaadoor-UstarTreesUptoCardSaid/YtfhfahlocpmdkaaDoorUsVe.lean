/- An entry as an argument. -/
import Derived.Test.YtfhfahlocpmdkaaDoorUsV
import Derived.Test.YtfhfahlocpmdkaaDoorUsQ
namespace Go.Proofs.YtfhfahlocpmdkaaDoor
open Go.ChangeShapes Go.WideShapes Go.ChangeAt Go.RowKit Go.Deep

def en0 : En := ⟨[], 0, 0, [], []⟩
/-- an entry, as a datum. -/
def enD {H : Type} (x : En) : DataW H := .agg [.lit (.string x.path), .lit (.int .i64 x.kind), .lit (.int .i64 x.mode), .lit (.string x.data), .lit (.string x.link)]
structure EnOk (x : En) : Prop where
  l0 : (bs x.path).size ≤ maxLen
  l3 : (bs x.data).size ≤ maxLen
  l4 : (bs x.link).size ≤ maxLen
  i1 : (Lit.int .i64 x.kind).wf = true
  i2 : (Lit.int .i64 x.mode).wf = true
theorem en_one : ∃ f0 f1 f2 f3 f4 : Field, Tryd.prog.underlying 50 = some (.struct #[f0, f1, f2, f3, f4]) ∧ oneCellFields Tryd.prog #[f0, f1, f2, f3, f4] = true ∧ Tryd.prog.cellsOf 50 = 5 ∧
    f0.type = 9 ∧ f1.type = 48 ∧ f2.type = 3 ∧ f3.type = 9 ∧ f4.type = 9 :=
  ⟨_, _, _, _, _, Tryd.underlying50, by kernel_rfl, by kernel_rfl, rfl, rfl, rfl, rfl, rfl⟩
section
variable {H : Type} {enc : TypeId × Value → H} {w : World} {base : Nat} {spare : Nat → Bool} {held : Bool}
theorem cell_intT {T : TypeId} (hT : Tryd.prog.underlying T = some (.int .i64)) {n : Nat} {v : Value} {y : DataW H × List MemPlace} (h : DataW.trod enc Tryd.prog w base spare held n T [v] = some y) : ∃ x : Int, v = .int .i64 x ∧ y = (.lit (.int .i64 x), []) ∧ (Lit.int .i64 x).wf = true := by
  obtain ⟨x, h1, h2, h3⟩ := DataW.trod_int hT h
  exact ⟨x, by injection h1, h2, h3⟩
set_option maxRecDepth 100000 in
theorem open_en {r : Reach} {b0 : Nat} {v : Value} {d : DataW H} {p : List MemPlace} (hv : Value.okWide Tryd.prog w r b0 50 v) (h : DataW.Trod enc Tryd.prog w base spare held 50 v d p) :
    ∃ x : En, v = .agg (enC x) ∧ d = enD x ∧ p = [] ∧ EnOk x := by
  obtain ⟨f0, f1, f2, f3, f4, hu, hone, hC, e0, e1, e2, e3, e4⟩ := en_one
  obtain ⟨v0, v1, v2, v3, v4, y0, y1, y2, y3, y4, n, rfl, rfl, rfl, t0, t1, t2, t3, t4⟩ := open_agg5 hu hone hC hv h
  rw [e0] at t0; rw [e1] at t1; rw [e2] at t2; rw [e3] at t3; rw [e4] at t4
  obtain ⟨s0, rfl, rfl, l0⟩ := cell_string t0
  obtain ⟨x1, rfl, rfl, i1⟩ := cell_intT Tryd.underlying48 t1
  obtain ⟨x2, rfl, rfl, i2⟩ := cell_intT Tryd.underlying3 t2
  obtain ⟨s3, rfl, rfl, l3⟩ := cell_string t3
  obtain ⟨s4, rfl, rfl, l4⟩ := cell_string t4
  exact ⟨⟨s0, x1, x2, s3, s4⟩, rfl, rfl, rfl, l0, l3, l4, i1, i2⟩
set_option maxRecDepth 100000 in
theorem shut_en {x : En} (ok : EnOk x) : DataW.Trod enc Tryd.prog w base spare held 50 (.agg (enC x)) (enD x) [] := by
  obtain ⟨f0, f1, f2, f3, f4, hu, hone, hC, e0, e1, e2, e3, e4⟩ := en_one
  have st : ∀ {l : List UInt8}, (bs l).size ≤ maxLen → ∃ n, DataW.trod enc Tryd.prog w base spare held n 9 [.string (bs l)] = some (.lit (.string l), []) := fun hl => shut_string_cell Tryd.underlying9 hl
  exact shut_agg5 hu hone hC (by rw [e0]; exact st ok.l0) (by rw [e1]; exact ⟨1, trod_int_mk 0 Tryd.underlying48 ok.i1⟩) (by rw [e2]; exact ⟨1, trod_int_mk 0 Tryd.underlying3 ok.i2⟩) (by rw [e3]; exact st ok.l3) (by rw [e4]; exact st ok.l4)
end
structure EnShort (x : En) : Prop where
  path : (bs x.path).size ≤ 1048576
  data : (bs x.data).size ≤ 1048576
  link : (bs x.link).size ≤ 1048576
theorem en_bulk {H : Type} (x : En) (hb : Rows.uptoBulk (enD x : DataW H) ≤ 1048576) : EnShort x := by
  simp only [enD, Rows.uptoBulkAll, Rows.uptoBulk] at hb
  exact ⟨by rw [bs_size]; omega, by rw [bs_size]; omega, by rw [bs_size]; omega⟩
theorem lawOf' (x : En) (w : World) (hx : EnShort x) (hg : ErrVar w) : Calls Tryd.prog 10 #[.agg (enC x)] w fun e w' => e = .returned (.bool true) ∧ Below w.heap.size w w' := lawOf x w (by have := hx.data; omega) hg
end Go.Proofs.YtfhfahlocpmdkaaDoor
