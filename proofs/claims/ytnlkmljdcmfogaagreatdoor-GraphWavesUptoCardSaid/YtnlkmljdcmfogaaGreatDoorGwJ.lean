/- An api.Plan among the arguments, opened; the bulk bounds its lengths. -/
import Derived.Test.YtnlkmljdcmfogaaGreatDoorCkOp
import Derived.Test.YtnlkmljdcmfogaaGreatDoorCkM0
namespace Go.Proofs.YtnlkmljdcmfogaaGreatDoor
open Go Go.ChangeShapes Go.WideShapes Go.RowKit Go.Deep
instance : Inhabited Gw.Rf := ⟨⟨0, 0, []⟩⟩
def rfDt {H : Type} (x : Gw.Rf) : DataW H := .agg [.lit (.int .i64 x.kind), .lit (.int .i64 x.stage), .lit (.string x.name)]
def inL (x : Int) : List Value := [.int .i64 x]
def inDt {H : Type} (x : Int) : DataW H := .lit (.int .i64 x)
theorem flat_in (l : List Int) : l.flatMap inL = icC l := by
  induction l with
  | nil => rfl
  | cons x r ih => rw [List.flatMap_cons, ih]; rfl
theorem rf_one : ∃ f0 f1 f2 : Field, Tryz.prog.underlying 77 = some (.struct #[f0, f1, f2]) ∧ oneCellFields Tryz.prog #[f0, f1, f2] = true ∧ Tryz.prog.cellsOf 77 = 3 ∧ f0.type = 3 ∧ f1.type = 3 ∧ f2.type = 9 :=
  ⟨_, _, _, Tryz.underlying77, by kernel_rfl, by kernel_rfl, rfl, rfl, rfl⟩
theorem nd_one : ∃ f0 f1 : Field, Tryz.prog.underlying 80 = some (.struct #[f0, f1]) ∧ Tryz.prog.cellsOf 80 = 4 ∧ f0.type = 77 ∧ f1.type = 78 ∧ f0.offset = 0 ∧ f1.offset = 3 ∧ Tryz.prog.cellsOf 77 = 3 ∧ Tryz.prog.cellsOf 78 = 1 :=
  ⟨_, _, Tryz.underlying80, by kernel_rfl, rfl, rfl, rfl, rfl, by kernel_rfl, by kernel_rfl⟩
theorem pl_one : ∃ f0 f1 f2 f3 : Field, Tryz.prog.underlying 32 = some (.struct #[f0, f1, f2, f3]) ∧ oneCellFields Tryz.prog #[f0, f1, f2, f3] = true ∧ Tryz.prog.cellsOf 32 = 4 ∧ f0.type = 28 ∧ f1.type = 3 ∧ f2.type = 29 ∧ f3.type = 30 :=
  ⟨_, _, _, _, Tryz.underlying32, by kernel_rfl, by kernel_rfl, rfl, rfl, rfl, rfl⟩
set_option maxRecDepth 100000 in
theorem open_rf {H : Type} {enc : TypeId × Value → H} {W : World} {fuel : Nat} {cs : List Value} {y : DataW H × List MemPlace} (hf : DataW.trod enc Tryz.prog W 0 (fun _ => true) true fuel 77 cs = some y) : ∃ x : Gw.Rf, cs = rfL x ∧ y.1 = rfDt x := by
  obtain ⟨f0, f1, f2, hu, hone, hC, e0, e1, e2⟩ := rf_one
  obtain ⟨xs, n, _, hx, hcl, hlen, hg⟩ := DataW.trod_struct hu hf
  obtain ⟨o0, k0⟩ := hone_of hone 0 f0 rfl
  obtain ⟨o1, k1⟩ := hone_of hone 1 f1 rfl
  obtain ⟨o2, k2⟩ := hone_of hone 2 f2 rfl
  rw [hC] at hcl
  match cs, hcl, xs, hlen with
  | [c0, c1, c2], _, [y0, y1, y2], _ =>
    have t0 := by simpa [o0, k0] using hg 0 f0 rfl
    have t1 := by simpa [o1, k1] using hg 1 f1 rfl
    have t2 := by simpa [o2, k2] using hg 2 f2 rfl
    rw [e0] at t0; rw [e1] at t1; rw [e2] at t2
    obtain ⟨x0, rfl, d0⟩ := cell_int Tryz.underlying3 t0
    obtain ⟨x1, rfl, d1⟩ := cell_int Tryz.underlying3 t1
    obtain ⟨x2, rfl, d2⟩ := cell_string t2
    exact ⟨⟨x0, x1, x2⟩, rfl, by rw [hx]; simp only [List.map_cons, List.map_nil, rfDt, d0, d1, d2]⟩
theorem open_in {H : Type} {enc : TypeId × Value → H} {W : World} {fuel : Nat} {cs : List Value} {y : DataW H × List MemPlace} (hf : DataW.trod enc Tryz.prog W 0 (fun _ => true) true fuel 3 cs = some y) : ∃ x : Int, cs = inL x ∧ y.1 = inDt x := by
  obtain ⟨x, h1, h2, h3⟩ := DataW.trod_int Tryz.underlying3 hf
  exact ⟨x, h1, by rw [h2]; rfl⟩
/-- what is known of a node that was let in. -/
structure NdO (H : Type) (W : World) where
  m : NdM
  d : DataW H
  ok : m.Ok W
  le : m.froms.length ≤ Rows.uptoBulk d
instance {H : Type} {W : World} : Inhabited (NdO H W) := ⟨⟨⟨⟨0, 0, []⟩, .slice none 0 0, []⟩, .nil, SlA.none W, Nat.zero_le _⟩⟩
set_option maxRecDepth 100000 in
theorem open_nd {H : Type} {enc : TypeId × Value → H} {W : World} {fuel : Nat} {cs : List Value} {y : DataW H × List MemPlace} (hf : DataW.trod enc Tryz.prog W 0 (fun _ => true) true fuel 80 cs = some y) : ∃ x : NdO H W, cs = ndL x.m ∧ y.1 = x.d := by
  obtain ⟨f0, f1, hu, hC, e0, e1, o0, o1, k0, k1⟩ := nd_one
  obtain ⟨xs, n, _, hx, hcl, hlen, hg⟩ := DataW.trod_struct hu hf
  rw [hC] at hcl
  match cs, hcl, xs, hlen with
  | [c0, c1, c2, c3], _, [y0, y1], _ =>
    have t0 := hg 0 f0 rfl
    have t1 := hg 1 f1 rfl
    rw [e0, o0, k0] at t0
    rw [e1, o1, k1] at t1
    obtain ⟨x0, h0, d0⟩ := open_rf (y := y0) t0
    obtain ⟨T, a, c, hv, _, hs, hl, hb, _⟩ := open_sla (y := y1) Tryz.underlying78 (k := 3) (by kernel_rfl) (by omega) rfL (fun _ => rfl) rfDt (fun h => open_rf h) (v := c3) t1
    have hB : Rows.uptoBulk y.1 = Rows.uptoBulk y0.1 + (Rows.uptoBulk y1.1 + 0) + 1 := by
      rw [hx]; simp only [List.map_cons, List.map_nil, Rows.uptoBulk, Rows.uptoBulkAll]
    have h3 : [c0, c1, c2] = rfL x0 := h0
    refine ⟨⟨⟨x0, c3, T⟩, y.1, hs, by show T.length ≤ _; omega⟩, ?_, rfl⟩
    show [c0, c1, c2, c3] = ndL ⟨x0, c3, T⟩
    have h4 : [c0, c1, c2, c3] = [c0, c1, c2] ++ [c3] := rfl
    rw [h4, h3]
    rfl
theorem ndC_map {H : Type} {W : World} (T : List (NdO H W)) : T.flatMap (fun x => ndL x.m) = ndC (T.map NdO.m) := by
  unfold ndC
  rw [List.flatMap_map]
/-- all lengths of a plan, at most N. -/
def PlLe (N : Nat) (p : PM) : Prop := p.nodes.length ≤ N ∧ (∀ n ∈ p.nodes, n.froms.length ≤ N) ∧ p.need.length ≤ N ∧ p.images.length ≤ N
theorem PlLe.mono {N M : Nat} {p : PM} (h : PlLe N p) (hm : N ≤ M) : PlLe M p := ⟨Nat.le_trans h.1 hm, fun n hn => Nat.le_trans (h.2.1 n hn) hm, Nat.le_trans h.2.2.1 hm, Nat.le_trans h.2.2.2 hm⟩
set_option maxRecDepth 100000 in
theorem open_pl {H : Type} {enc : TypeId × Value → H} {W : World} {fuel : Nat} {cs : List Value} {y : DataW H × List MemPlace} (hf : DataW.trod enc Tryz.prog W 0 (fun _ => true) true fuel 32 cs = some y) : ∃ p : PM, cs = [p.vn, .int .i64 p.target, p.vd, p.vi] ∧ p.Ok W ∧ PlLe (Rows.uptoBulk y.1) p := by
  obtain ⟨f0, f1, f2, f3, hu, hone, hC, e0, e1, e2, e3⟩ := pl_one
  obtain ⟨xs, n, _, hx, hcl, hlen, hg⟩ := DataW.trod_struct hu hf
  obtain ⟨o0, k0⟩ := hone_of hone 0 f0 rfl
  obtain ⟨o1, k1⟩ := hone_of hone 1 f1 rfl
  obtain ⟨o2, k2⟩ := hone_of hone 2 f2 rfl
  obtain ⟨o3, k3⟩ := hone_of hone 3 f3 rfl
  rw [hC] at hcl
  match cs, hcl, xs, hlen with
  | [c0, c1, c2, c3], _, [y0, y1, y2, y3], _ =>
    have t0 := by simpa [o0, k0] using hg 0 f0 rfl
    have t1 := by simpa [o1, k1] using hg 1 f1 rfl
    have t2 := by simpa [o2, k2] using hg 2 f2 rfl
    have t3 := by simpa [o3, k3] using hg 3 f3 rfl
    rw [e0] at t0; rw [e1] at t1; rw [e2] at t2; rw [e3] at t3
    obtain ⟨T0, a0, q0, r0, g0, s0, l0, b0, -⟩ := open_sla Tryz.underlying28 (k := 4) (by kernel_rfl) (by omega) (fun x : NdO H W => ndL x.m) (fun _ => rfl) NdO.d (fun h => open_nd h) t0
    obtain ⟨x1, rfl, d1⟩ := cell_int Tryz.underlying3 t1
    obtain ⟨T2, a2, q2, r2, g2, s2, l2, b2, -⟩ := open_sla Tryz.underlying29 (k := 1) (by kernel_rfl) (by omega) inL (fun _ => rfl) inDt (fun h => open_in h) t2
    obtain ⟨T3, a3, q3, r3, g3, s3, l3, b3, -⟩ := open_sla Tryz.underlying30 (k := 1) (by kernel_rfl) (by omega) txL (fun _ => rfl) txDt (fun h => open_tx h) t3
    rw [flat_in] at s2
    rw [flat_tx] at s3
    rw [ndC_map] at s0
    have hl0 : (T0.map NdO.m).length = T0.length := List.length_map _
    have hB : Rows.uptoBulk y.1 = Rows.uptoBulk y0.1 + (Rows.uptoBulk y1.1 + (Rows.uptoBulk y2.1 + (Rows.uptoBulk y3.1 + 0))) + 1 := by
      rw [hx]; simp only [List.map_cons, List.map_nil, Rows.uptoBulk, Rows.uptoBulkAll]
    refine ⟨⟨c0, T0.map NdO.m, x1, c2, T2, c3, T3⟩, rfl, ⟨⟨by rw [hl0]; exact s0, fun m hm => ?_⟩, s2, s3⟩, by show (T0.map NdO.m).length ≤ _; omega, fun m hm => ?_, by show T2.length ≤ _; omega, by show T3.length ≤ _; omega⟩
    · obtain ⟨x, _, rfl⟩ := List.mem_map.1 hm
      exact x.ok
    · obtain ⟨x, hx2, rfl⟩ := List.mem_map.1 hm
      have := b0 x hx2
      have := x.le
      omega
set_option maxRecDepth 100000 in
/-- a plan, by value. -/
theorem open_plan {H : Type} {enc : TypeId × Value → H} {W : World} {r : Reach} {b0 : Nat} {v : Value} {d : DataW H} {p : List MemPlace} (hv : Value.okWide Tryz.prog W r b0 32 v) (h : DataW.Trod enc Tryz.prog W 0 (fun _ => true) true 32 v d p) :
    ∃ f : PM, v = f.val ∧ f.Ok W ∧ PlLe (Rows.uptoBulk d) f := by
  obtain ⟨cs, rfl, hsz⟩ := okWide_struct Tryz.underlying32 hv
  obtain ⟨fuel, hf⟩ := h
  obtain ⟨f, e, h1, h2⟩ := open_pl hf
  refine ⟨f, ?_, h1, h2⟩
  obtain ⟨l⟩ := cs
  have e' : l = [f.vn, .int .i64 f.target, f.vd, f.vi] := e
  rw [e']; rfl
end Go.Proofs.YtnlkmljdcmfogaaGreatDoor
