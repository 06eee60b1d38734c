/- Marks and documents among the arguments, opened. -/
import Derived.Test.YtpgnfianffjpnaaGreatDoorOpenR
import Derived.Test.YtpgnfianffjpnaaGreatDoorLentD
namespace Go.Proofs.YtpgnfianffjpnaaGreatDoor
open Go Go.ChangeShapes Go.WideShapes Go.RowKit Go.Deep
instance : Inhabited Lx.Mk := ⟨⟨0, 0, 0⟩⟩
instance : Inhabited Lx.Dc := ⟨⟨[], false, 0, []⟩⟩
/-- a mark, a document, as data. -/
def mkDt {H : Type} (x : Lx.Mk) : DataW H := .agg [.lit (.int .i64 x.at_), .lit (.int .i64 x.line), .lit (.int .i64 x.col)]
def dcDt {H : Type} (x : Lx.Dc) : DataW H := .agg [.lit (.string x.name), .lit (.bool x.raw), .lit (.int .i64 x.line), .lit (.string x.text)]
theorem mk_one : ∃ f0 f1 f2 : Field, Tryz.prog.underlying 136 = some (.struct #[f0, f1, f2]) ∧ oneCellFields Tryz.prog #[f0, f1, f2] = true ∧ Tryz.prog.cellsOf 136 = 3 ∧ f0.type = 3 ∧ f1.type = 3 ∧ f2.type = 3 :=
  ⟨_, _, _, Tryz.underlying136, by kernel_rfl, by kernel_rfl, rfl, rfl, rfl⟩
theorem dc_one : ∃ f0 f1 f2 f3 : Field, Tryz.prog.underlying 83 = some (.struct #[f0, f1, f2, f3]) ∧ oneCellFields Tryz.prog #[f0, f1, f2, f3] = true ∧ Tryz.prog.cellsOf 83 = 4 ∧ f0.type = 9 ∧ f1.type = 4 ∧ f2.type = 3 ∧ f3.type = 9 :=
  ⟨_, _, _, _, Tryz.underlying83, by kernel_rfl, by kernel_rfl, rfl, rfl, rfl, rfl⟩
section
variable {H : Type} {enc : TypeId × Value → H} {w : World} {base : Nat} {spare : Nat → Bool} {held : Bool}
theorem cell_string {n : Nat} {v : Value} {y : DataW H × List MemPlace} (h : DataW.trod enc Tryz.prog w base spare held n 9 [v] = some y) : ∃ l : List UInt8, v = .string (bs l) ∧ y.1 = .lit (.string l) := by
  obtain ⟨s, h1, h2, h3⟩ := DataW.trod_string Tryz.underlying9 h
  refine ⟨bl s, ?_, by rw [h2]; rfl⟩
  rw [bs_bl]
  injection h1
theorem cell_int {n : Nat} {v : Value} {y : DataW H × List MemPlace} (h : DataW.trod enc Tryz.prog w base spare held n 3 [v] = some y) : ∃ x : Int, v = .int .i64 x ∧ y.1 = .lit (.int .i64 x) := by
  obtain ⟨x, h1, h2, h3⟩ := DataW.trod_int Tryz.underlying3 h
  exact ⟨x, by injection h1, by rw [h2]⟩
theorem cell_bool {n : Nat} {v : Value} {y : DataW H × List MemPlace} (h : DataW.trod enc Tryz.prog w base spare held n 4 [v] = some y) : ∃ x : Bool, v = .bool x ∧ y.1 = .lit (.bool x) := by
  obtain ⟨x, h1, h2⟩ := DataW.trod_bool Tryz.underlying4 h
  exact ⟨x, by injection h1, by rw [h2]⟩
set_option maxRecDepth 100000 in
theorem open_mk {fuel : Nat} {cs : List Value} {y : DataW H × List MemPlace} (hf : DataW.trod enc Tryz.prog w base spare held fuel 136 cs = some y) : ∃ x : Lx.Mk, cs = mkL x ∧ y.1 = mkDt x := by
  obtain ⟨f0, f1, f2, hu, hone, hC, e0, e1, e2⟩ := mk_one
  obtain ⟨xs, n, _, hx, hcl, hlen, hg⟩ := DataW.trod_struct hu hf
  obtain ⟨o0, k0⟩ := hone_of hone 0 f0 rfl
  obtain ⟨o1, k1⟩ := hone_of hone 1 f1 rfl
  obtain ⟨o2, k2⟩ := hone_of hone 2 f2 rfl
  rw [hC] at hcl
  match cs, hcl, xs, hlen with
  | [c0, c1, c2], _, [y0, y1, y2], _ =>
    have t0 := by simpa [o0, k0] using hg 0 f0 rfl
    have t1 := by simpa [o1, k1] using hg 1 f1 rfl
    have t2 := by simpa [o2, k2] using hg 2 f2 rfl
    rw [e0] at t0; rw [e1] at t1; rw [e2] at t2
    obtain ⟨x0, rfl, d0⟩ := cell_int t0
    obtain ⟨x1, rfl, d1⟩ := cell_int t1
    obtain ⟨x2, rfl, d2⟩ := cell_int t2
    refine ⟨⟨x0, x1, x2⟩, rfl, ?_⟩
    rw [hx]
    simp only [List.map_cons, List.map_nil, mkDt, d0, d1, d2]
set_option maxRecDepth 100000 in
theorem open_dc {fuel : Nat} {cs : List Value} {y : DataW H × List MemPlace} (hf : DataW.trod enc Tryz.prog w base spare held fuel 83 cs = some y) : ∃ x : Lx.Dc, cs = dcL x ∧ y.1 = dcDt x := by
  obtain ⟨f0, f1, f2, f3, hu, hone, hC, e0, e1, e2, e3⟩ := dc_one
  obtain ⟨xs, n, _, hx, hcl, hlen, hg⟩ := DataW.trod_struct hu hf
  obtain ⟨o0, k0⟩ := hone_of hone 0 f0 rfl
  obtain ⟨o1, k1⟩ := hone_of hone 1 f1 rfl
  obtain ⟨o2, k2⟩ := hone_of hone 2 f2 rfl
  obtain ⟨o3, k3⟩ := hone_of hone 3 f3 rfl
  rw [hC] at hcl
  match cs, hcl, xs, hlen with
  | [c0, c1, c2, c3], _, [y0, y1, y2, y3], _ =>
    have t0 := by simpa [o0, k0] using hg 0 f0 rfl
    have t1 := by simpa [o1, k1] using hg 1 f1 rfl
    have t2 := by simpa [o2, k2] using hg 2 f2 rfl
    have t3 := by simpa [o3, k3] using hg 3 f3 rfl
    rw [e0] at t0; rw [e1] at t1; rw [e2] at t2; rw [e3] at t3
    obtain ⟨x0, rfl, d0⟩ := cell_string t0
    obtain ⟨x1, rfl, d1⟩ := cell_bool t1
    obtain ⟨x2, rfl, d2⟩ := cell_int t2
    obtain ⟨x3, rfl, d3⟩ := cell_string t3
    refine ⟨⟨x0, x1, x2, x3⟩, rfl, ?_⟩
    rw [hx]
    simp only [List.map_cons, List.map_nil, dcDt, d0, d1, d2, d3]
end
theorem open_marks {H : Type} {enc : TypeId × Value → H} {W : World} {a : Option Addr} {n c : Nat} {d : DataW H} {ps : List MemPlace} (h : DataW.Trod enc Tryz.prog W 0 (fun _ => true) true 61 (.slice a n c) d ps) :
    ∃ T : List Lx.Mk, n = T.length ∧ n ≤ c ∧ RdRow W (.slice a T.length c) T.length (mkC T) ∧ ∃ L2, (n = 0 ∨ d = .slice (T.map mkDt) L2) :=
  open_rows Tryz.underlying61 (k := 3) (by kernel_rfl) (by omega) mkL (fun _ => rfl) mkDt (fun h => open_mk h) h
theorem open_docs {H : Type} {enc : TypeId × Value → H} {W : World} {a : Option Addr} {n c : Nat} {d : DataW H} {ps : List MemPlace} (h : DataW.Trod enc Tryz.prog W 0 (fun _ => true) true 62 (.slice a n c) d ps) :
    ∃ T : List Lx.Dc, n = T.length ∧ n ≤ c ∧ RdRow W (.slice a T.length c) T.length (dcC T) ∧ ∃ L2, (n = 0 ∨ d = .slice (T.map dcDt) L2) :=
  open_rows Tryz.underlying62 (k := 4) (by kernel_rfl) (by omega) dcL (fun _ => rfl) dcDt (fun h => open_dc h) h
end Go.Proofs.YtpgnfianffjpnaaGreatDoor
