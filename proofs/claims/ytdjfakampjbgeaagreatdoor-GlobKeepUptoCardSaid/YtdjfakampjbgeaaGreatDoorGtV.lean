/- A slice of entries among the arguments, opened. -/
import Derived.Test.YtdjfakampjbgeaaGreatDoorGoV
import Derived.Test.YtdjfakampjbgeaaGreatDoorGtA
import Derived.Deep.Slices
import Derived.Deep.Fields
namespace Go.Proofs.YtdjfakampjbgeaaGreatDoor
open Go Go.ChangeShapes Go.WideShapes Go.RowKit Go.Deep

/-- an entry, as a datum. -/
def enD {H : Type} (x : En) : DataW H := .agg [.lit (.string x.path), .lit (.int .i64 x.kind), .lit (.int .i64 x.mode), .lit (.string x.data), .lit (.string x.link)]
theorem en_one : ∃ f0 f1 f2 f3 f4 : Field, Tryz.prog.underlying 38 = some (.struct #[f0, f1, f2, f3, f4]) ∧ oneCellFields Tryz.prog #[f0, f1, f2, f3, f4] = true ∧ Tryz.prog.cellsOf 38 = 5 ∧
    f0.type = 9 ∧ f1.type = 36 ∧ f2.type = 3 ∧ f3.type = 9 ∧ f4.type = 9 :=
  ⟨_, _, _, _, _, Tryz.underlying38, by kernel_rfl, by kernel_rfl, rfl, rfl, rfl, rfl, rfl⟩
section
variable {H : Type} {enc : TypeId × Value → H} {w : World} {base : Nat} {spare : Nat → Bool} {held : Bool}
theorem cell_string {n : Nat} {v : Value} {y : DataW H × List MemPlace} (h : DataW.trod enc Tryz.prog w base spare held n 9 [v] = some y) : ∃ l : List UInt8, v = .string (bs l) ∧ y.1 = .lit (.string l) := by
  obtain ⟨s, h1, h2, h3⟩ := DataW.trod_string Tryz.underlying9 h
  refine ⟨bl s, ?_, by rw [h2]; rfl⟩
  rw [bs_bl]
  injection h1
theorem cell_intT {T : TypeId} (hT : Tryz.prog.underlying T = some (.int .i64)) {n : Nat} {v : Value} {y : DataW H × List MemPlace} (h : DataW.trod enc Tryz.prog w base spare held n T [v] = some y) : ∃ x : Int, v = .int .i64 x ∧ y.1 = .lit (.int .i64 x) := by
  obtain ⟨x, h1, h2, h3⟩ := DataW.trod_int hT h
  exact ⟨x, by injection h1, by rw [h2]⟩
set_option maxRecDepth 100000 in
theorem open_ent {fuel : Nat} {cs : List Value} {y : DataW H × List MemPlace} (hf : DataW.trod enc Tryz.prog w base spare held fuel 38 cs = some y) : ∃ x : En, cs = enL x ∧ y.1 = enD x := by
  obtain ⟨f0, f1, f2, f3, f4, hu, hone, hC, e0, e1, e2, e3, e4⟩ := en_one
  obtain ⟨xs, n, _, hx, hcl, hlen, hg⟩ := DataW.trod_struct hu hf
  obtain ⟨o0, k0⟩ := hone_of hone 0 f0 rfl
  obtain ⟨o1, k1⟩ := hone_of hone 1 f1 rfl
  obtain ⟨o2, k2⟩ := hone_of hone 2 f2 rfl
  obtain ⟨o3, k3⟩ := hone_of hone 3 f3 rfl
  obtain ⟨o4, k4⟩ := hone_of hone 4 f4 rfl
  rw [hC] at hcl
  match cs, hcl, xs, hlen with
  | [c0, c1, c2, c3, c4], _, [y0, y1, y2, y3, y4], _ =>
    have t0 := by simpa [o0, k0] using hg 0 f0 rfl
    have t1 := by simpa [o1, k1] using hg 1 f1 rfl
    have t2 := by simpa [o2, k2] using hg 2 f2 rfl
    have t3 := by simpa [o3, k3] using hg 3 f3 rfl
    have t4 := by simpa [o4, k4] using hg 4 f4 rfl
    rw [e0] at t0; rw [e1] at t1; rw [e2] at t2; rw [e3] at t3; rw [e4] at t4
    obtain ⟨s0, rfl, d0⟩ := cell_string t0
    obtain ⟨x1, rfl, d1⟩ := cell_intT Tryz.underlying36 t1
    obtain ⟨x2, rfl, d2⟩ := cell_intT Tryz.underlying3 t2
    obtain ⟨s3, rfl, d3⟩ := cell_string t3
    obtain ⟨s4, rfl, d4⟩ := cell_string t4
    refine ⟨⟨s0, x1, x2, s3, s4⟩, rfl, ?_⟩
    rw [hx]
    simp only [List.map_cons, List.map_nil, enD, d0, d1, d2, d3, d4]
end
instance : Inhabited En := ⟨⟨[], 0, 0, [], []⟩⟩
theorem enCs_get : ∀ (es : List En) (j : Nat) (u : Value), (enCs es)[j]? = some u → ∃ (i k : Nat) (hi : i < es.length), k < 5 ∧ j = i * 5 + k ∧ (enL es[i])[k]? = some u
  | [], j, u, h => by simp [enCs] at h
  | x :: es, j, u, h => by
    have e : enCs (x :: es) = enL x ++ enCs es := rfl
    have l5 : (enL x).length = 5 := rfl
    rw [e] at h
    by_cases hj : j < 5
    · rw [List.getElem?_append_left (by omega)] at h
      exact ⟨0, j, by simp, hj, by omega, h⟩
    · rw [List.getElem?_append_right (by omega), l5] at h
      obtain ⟨i, k, hi, hk, e2, hu⟩ := enCs_get es (j - 5) u h
      exact ⟨i + 1, k, by simpa using hi, hk, by omega, by simpa using hu⟩
theorem open_ents {H : Type} {enc : TypeId × Value → H} {W : World} {a : Option Addr} {n c : Nat} {d : DataW H} {ps : List MemPlace} (h : DataW.Trod enc Tryz.prog W 0 (fun _ => true) true 22 (.slice a n c) d ps) :
    ∃ T : List En, n = T.length ∧ n ≤ c ∧ RE W (fun g => g < W.heap.size) (.slice a T.length c) T ∧ (∀ x ∈ T, x.path.length + x.data.length + x.link.length + 5 ≤ Rows.uptoBulk d) ∧ T.length ≤ Rows.uptoBulk d := by
  obtain ⟨fuel, hf⟩ := h
  rcases open_slice Tryz.underlying22 hf with ⟨hcs, hx⟩ | ⟨a', len, cap, m, n', D, Pl, hcs, _, hl, hmx, hm, hx, hat⟩
  · simp [Value.cells] at hcs
    obtain ⟨rfl, rfl, rfl⟩ := hcs
    refine ⟨[], rfl, Nat.le_refl _, ⟨_, _, rfl, fun j u hu => by simp [enCs] at hu⟩, fun x hx => ?_, Nat.zero_le _⟩
    cases hx
  · simp [Value.cells] at hcs
    obtain ⟨rfl, rfl, rfl⟩ := hcs
    simp only [if_true] at hm
    subst hm
    have hC : Tryz.prog.cellsOf 38 = 5 := by kernel_rfl
    rw [hC] at hat
    obtain ⟨X, hX⟩ : ∃ X : Nat → En, ∀ i, i < m → W.cells? 0 (a'.add (i * 5)) 5 = some (enL (X i)) ∧ D i = enD (X i) := choose_lt (α := En) (p := fun i x => W.cells? 0 (a'.add (i * 5)) 5 = some (enL x) ∧ D i = enD x) fun i hi => by
      obtain ⟨cs', h1, h2⟩ := hat i hi
      obtain ⟨x, rfl, h3⟩ := open_ent h2
      exact ⟨x, h1, h3⟩
    have hd : d = .slice ((List.range n).map D) ((List.range (m - n)).map fun j => D (n + j)) := congrArg Prod.fst hx
    have hmem : ∀ i, i < n → Rows.uptoBulk (D i) ≤ Rows.uptoBulkAll ((List.range n).map D) := fun i hi => bulk_part (List.mem_map.2 ⟨i, List.mem_range.2 hi, rfl⟩)
    have hlen : ((List.range n).map X).length = n := by rw [List.length_map, List.length_range]
    have hT : ∀ (i : Nat) (hi : i < ((List.range n).map X).length), ((List.range n).map X)[i] = X i := fun i hi => by rw [List.getElem_map, List.getElem_range]
    refine ⟨(List.range n).map X, hlen.symm, hl, ⟨some a', m, rfl, fun j u hu => ?_⟩, fun x hx => ?_, ?_⟩
    · obtain ⟨i, k, hi, hk, rfl, hu2⟩ := enCs_get _ j u hu
      rw [hT i hi] at hu2
      rw [hlen] at hi
      obtain ⟨_, _, c0⟩ := World.cells?_some (hX 0 (by omega)).1
      obtain ⟨_, _, ci⟩ := World.cells?_some (hX i (by omega)).1
      have q0 := c0 0 (by omega)
      have qi := ci k (by omega)
      rw [Nat.zero_mul, Deep.add_add, Nat.add_zero, show a'.add 0 = a' from rfl] at q0
      obtain ⟨g, o, sp⟩ := a'
      have hsp : sp = none := by
        cases sp with
        | none => rfl
        | some s =>
          have : W.cell? ⟨g, o, some s⟩ = none := by
            unfold World.cell?
            split <;> rfl
          rw [this] at q0
          cases q0
      subst hsp
      rw [Deep.add_add, hu2] at qi
      have qa : (⟨g, o, none⟩ : Addr).add (i * 5 + k) = ⟨g, o + (i * 5 + k), none⟩ := by
        unfold Addr.add
        split
        · rename_i h0
          rw [h0, Nat.add_zero]
        · rfl
      rw [qa] at qi
      exact ⟨g, o, rfl, World.block_lt_of_cell? W _ qi, qi⟩
    · obtain ⟨i, hi, rfl⟩ := List.mem_map.1 hx
      have hi := List.mem_range.1 hi
      have h1 := hmem i hi
      rw [(hX i (by omega)).2] at h1
      rw [hd]
      simp only [Rows.uptoBulk, enD, Rows.uptoBulkAll] at h1 ⊢
      omega
    · rw [hd, hlen]
      have : ∀ l : List (DataW H), l.length ≤ Rows.uptoBulkAll l := fun l => by
        induction l with
        | nil => simp
        | cons x r ih =>
          simp only [Rows.uptoBulkAll, List.length_cons]
          have : 1 ≤ Rows.uptoBulk x := by
            cases x <;> first | (simp only [Rows.uptoBulk]; omega) | (rename_i l; cases l <;> simp only [Rows.uptoBulk] <;> omega)
          omega
      have := this ((List.range n).map D)
      rw [List.length_map, List.length_range] at this
      simp only [Rows.uptoBulk]
      omega
end Go.Proofs.YtdjfakampjbgeaaGreatDoor
