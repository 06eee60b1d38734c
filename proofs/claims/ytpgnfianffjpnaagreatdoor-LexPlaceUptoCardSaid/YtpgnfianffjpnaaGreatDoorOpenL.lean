/- An api.Line among the arguments, opened. -/
import Derived.Test.YtpgnfianffjpnaaGreatDoorOpenM
import Derived.Test.YtpgnfianffjpnaaGreatDoorAggF
namespace Go.Proofs.YtpgnfianffjpnaaGreatDoor
open Go Go.ChangeShapes Go.WideShapes Go.RowKit Go.Deep
theorem line_one : ∃ f0 f1 f2 f3 : Field, Tryz.prog.underlying 64 = some (.struct #[f0, f1, f2, f3]) ∧ oneCellFields Tryz.prog #[f0, f1, f2, f3] = true ∧ Tryz.prog.cellsOf 64 = 4 ∧ f0.type = 3 ∧ f1.type = 9 ∧ f2.type = 61 ∧ f3.type = 62 :=
  ⟨_, _, _, _, Tryz.underlying64, by kernel_rfl, by kernel_rfl, rfl, rfl, rfl, rfl⟩
theorem slice_form {H : Type} {enc : TypeId × Value → H} {W : World} {S E : TypeId} (hS : Tryz.prog.underlying S = some (.slice E)) {n : Nat} {v : Value} {y : DataW H × List MemPlace} (h : DataW.trod enc Tryz.prog W 0 (fun _ => true) true n S [v] = some y) : ∃ a m c, v = .slice a m c := by
  rcases open_slice hS h with ⟨hcs, _⟩ | ⟨a', len, cap, m, n', D, Pl, hcs, _⟩
  · injection hcs with h1; exact ⟨_, _, _, h1⟩
  · injection hcs with h1; exact ⟨_, _, _, h1⟩
set_option maxRecDepth 100000 in
theorem open_line {H : Type} {enc : TypeId × Value → H} {W : World} {r : Reach} {b0 : Nat} {v : Value} {d : DataW H} {p : List MemPlace} (hv : Value.okWide Tryz.prog W r b0 64 v) (h : DataW.Trod enc Tryz.prog W 0 (fun _ => true) true 64 v d p) :
    ∃ (ln : Lx.Ln) (Am Ad : Option Addr) (km kd : Nat) (dm dd : DataW H) (L1 L2 : List (DataW H)), v = .agg #[.int .i64 ln.line, .string (bs ln.text), .slice Am ln.marks.length km, .slice Ad ln.docs.length kd] ∧
      d = .agg [.lit (.int .i64 ln.line), .lit (.string ln.text), dm, dd] ∧ RdRow W (.slice Am ln.marks.length km) ln.marks.length (mkC ln.marks) ∧ RdRow W (.slice Ad ln.docs.length kd) ln.docs.length (dcC ln.docs) ∧
      (ln.marks.length = 0 ∨ dm = .slice (ln.marks.map mkDt) L1) ∧ (ln.docs.length = 0 ∨ dd = .slice (ln.docs.map dcDt) L2) := by
  obtain ⟨f0, f1, f2, f3, hu, hone, hC, e0, e1, e2, e3⟩ := line_one
  obtain ⟨v0, v1, v2, v3, y0, y1, y2, y3, n, rfl, rfl, _, t0, t1, t2, t3⟩ := open_agg4 hu hone hC hv h
  rw [e0] at t0; rw [e1] at t1; rw [e2] at t2; rw [e3] at t3
  obtain ⟨x0, rfl, d0⟩ := cell_int t0
  obtain ⟨s1, rfl, d1⟩ := cell_string t1
  obtain ⟨Am, m, km, rfl⟩ := slice_form Tryz.underlying61 t2
  obtain ⟨Ad, m2, kd, rfl⟩ := slice_form Tryz.underlying62 t3
  obtain ⟨T, rfl, _, hR, L1, hd⟩ := open_marks (ps := y2.2) (d := y2.1) ⟨n, by simpa [Value.cells] using t2⟩
  obtain ⟨U, rfl, _, hR2, L2, hd2⟩ := open_docs (ps := y3.2) (d := y3.1) ⟨n, by simpa [Value.cells] using t3⟩
  exact ⟨⟨x0, s1, T, U⟩, Am, Ad, km, kd, y2.1, y3.1, L1, L2, rfl, by rw [d0, d1], hR, hR2, hd, hd2⟩
end Go.Proofs.YtpgnfianffjpnaaGreatDoor
