/- An api.Step, an api.File among the arguments, opened; the bulk bounds all lengths. (Printed by wip/genckop.py.) -/
import Derived.Test.YtnlkmljdcmfogaaGreatDoorCards
import Derived.Test.YtnlkmljdcmfogaaGreatDoorCkM0
import Derived.Test.YtnlkmljdcmfogaaGreatDoorProg
import Derived.Deep.Slices
import Derived.Deep.Fields
namespace Go.Proofs.YtnlkmljdcmfogaaGreatDoor
open Go Go.ChangeShapes Go.WideShapes Go.RowKit Go.Deep
theorem bulk_one {H : Type} (d : DataW H) : 1 ≤ Rows.uptoBulk d := by
  cases d <;> first | (simp only [Rows.uptoBulk]; omega) | (rename_i l; cases l <;> simp only [Rows.uptoBulk] <;> omega)
theorem bulk_len {H : Type} : ∀ l : List (DataW H), l.length ≤ Rows.uptoBulkAll l := fun l => by
  induction l with
  | nil => simp
  | cons x r ih =>
    simp only [Rows.uptoBulkAll, List.length_cons]
    have := bulk_one x
    omega
theorem bulk_mem {H : Type} {d : DataW H} : ∀ {l : List (DataW H)}, d ∈ l → Rows.uptoBulk d ≤ Rows.uptoBulkAll l
  | [], h => by cases h
  | x :: r, h => by
    simp only [Rows.uptoBulkAll]
    rcases List.mem_cons.1 h with e | e
    · subst e; omega
    · have := bulk_mem e; omega
theorem flat_get {α : Type} {f : α → List Value} {k : Nat} (hf : ∀ x, (f x).length = k) : ∀ (l : List α) (j : Nat) (u : Value), (l.flatMap f)[j]? = some u → ∃ (i q : Nat) (hi : i < l.length), q < k ∧ j = i * k + q ∧ (f l[i])[q]? = some u
  | [], j, u, h => by simp at h
  | x :: l, j, u, h => by
    rw [List.flatMap_cons] at h
    by_cases hj : j < k
    · rw [List.getElem?_append_left (by rw [hf]; exact hj)] at h
      exact ⟨0, j, by simp, hj, by omega, h⟩
    · rw [List.getElem?_append_right (by rw [hf]; omega), hf] at h
      obtain ⟨i, q, hi, hq, e, hu⟩ := flat_get hf l (j - k) u h
      refine ⟨i + 1, q, by simpa using hi, hq, ?_, by simpa using hu⟩
      rw [Nat.succ_mul]; omega
/-- a slice among what was let in, opened: its elements, one by one. -/
theorem open_sla {α : Type} [Inhabited α] {H : Type} {enc : TypeId × Value → H} {W : World} {S E : TypeId} (hS : Tryz.prog.underlying S = some (.slice E)) {k : Nat} (hC : Tryz.prog.cellsOf E = k) (hk : 0 < k) (f : α → List Value) (hlenf : ∀ x, (f x).length = k) (gd : α → DataW H)
    (hopen : ∀ {fuel : Nat} {cs : List Value} {y : DataW H × List MemPlace}, DataW.trod enc Tryz.prog W 0 (fun _ => true) true fuel E cs = some y → ∃ x : α, cs = f x ∧ y.1 = gd x)
    {fuel : Nat} {v : Value} {y : DataW H × List MemPlace} (h : DataW.trod enc Tryz.prog W 0 (fun _ => true) true fuel S [v] = some y) :
    ∃ (T : List α) (a : Option Addr) (c : Nat), v = .slice a T.length c ∧ T.length ≤ c ∧ SlA W v T.length (T.flatMap f) ∧ T.length ≤ Rows.uptoBulk y.1 ∧ (∀ x ∈ T, Rows.uptoBulk (gd x) ≤ Rows.uptoBulk y.1) ∧ Rows.uptoBulkAll (T.map gd) ≤ Rows.uptoBulk y.1 := by
  rcases open_slice hS h with ⟨hcs, hx⟩ | ⟨a', len, cap, m, n', D, Pl, hcs, _, hl, hmx, hm, hx, hat⟩
  · injection hcs with hv _
    subst hv
    exact ⟨[], none, 0, rfl, Nat.le_refl _, .inl ⟨⟨none, 0, rfl, fun _ => rfl⟩, rfl, rfl⟩, Nat.zero_le _, (fun x hx => by cases hx), Nat.zero_le _⟩
  · injection hcs with hv _
    subst hv
    simp only [if_true] at hm
    subst hm
    rw [hC] at hat
    obtain ⟨X, hX⟩ : ∃ X : Nat → α, ∀ i, i < m → W.cells? 0 (a'.add (i * k)) k = some (f (X i)) ∧ D i = gd (X i) := choose_lt (α := α) (p := fun i x => W.cells? 0 (a'.add (i * k)) k = some (f x) ∧ D i = gd x) fun i hi => by
      obtain ⟨cs', h1, h2⟩ := hat i hi
      obtain ⟨x, rfl, h3⟩ := hopen h2
      exact ⟨x, h1, h3⟩
    have hd : y.1 = .slice ((List.range len).map D) ((List.range (m - len)).map fun j => D (len + j)) := congrArg Prod.fst hx
    have hlen : ((List.range len).map X).length = len := by rw [List.length_map, List.length_range]
    have hT : ∀ (i : Nat) (hi : i < ((List.range len).map X).length), ((List.range len).map X)[i] = X i := fun i hi => by rw [List.getElem_map, List.getElem_range]
    have hb : Rows.uptoBulkAll ((List.range len).map D) ≤ Rows.uptoBulk y.1 := by rw [hd]; simp only [Rows.uptoBulk]; omega
    refine ⟨(List.range len).map X, some a', m, by rw [hlen], by rw [hlen]; exact hl, ?_, ?_, fun x hxm => ?_, ?_⟩
    · rw [hlen]
      rcases Nat.eq_zero_or_pos len with z | z
      · subst z
        exact .inl ⟨⟨some a', m, rfl, fun e => by cases e⟩, rfl, rfl⟩
      · obtain ⟨_, _, c0⟩ := World.cells?_some (hX 0 (by omega)).1
        have q0 := c0 0 (by omega)
        rw [Nat.zero_mul, Deep.add_add, Nat.add_zero, show a'.add 0 = a' from rfl] at q0
        obtain ⟨g, o, sp⟩ := a'
        have hsp : sp = none := by
          cases sp with
          | none => rfl
          | some s =>
            have h3 : W.cell? ⟨g, o, some s⟩ = none := by
              unfold World.cell?
              split <;> rfl
            rw [h3] at q0
            exact absurd q0 (by rw [List.getElem?_eq_getElem (by rw [hlenf]; exact hk)]; simp)
        subst hsp
        refine .inr ⟨g, o, m, rfl, fun j u hu => ?_⟩
        obtain ⟨i, q, hi, hq, rfl, hu2⟩ := flat_get hlenf _ j u hu
        rw [hT i hi] at hu2
        rw [hlen] at hi
        obtain ⟨_, _, ci⟩ := World.cells?_some (hX i (by omega)).1
        have qi := ci q (by omega)
        rw [Deep.add_add, hu2, add_none] at qi
        exact qi
    · rw [hlen]
      have := bulk_len ((List.range len).map D)
      rw [List.length_map, List.length_range] at this
      omega
    · obtain ⟨i, hi, rfl⟩ := List.mem_map.1 hxm
      have hi' := List.mem_range.1 hi
      rw [← (hX i (by omega)).2]
      exact Nat.le_trans (bulk_mem (List.mem_map.2 ⟨i, hi, rfl⟩)) hb
    · rw [List.map_map, show (List.range len).map (gd ∘ X) = (List.range len).map D from List.map_congr_left fun i hi => (hX i (by have := List.mem_range.1 hi; omega)).2.symm]
      exact hb
theorem sum_bulk {α : Type} {H : Type} {gd : α → DataW H} {k : α → Nat} : ∀ (T : List α), (∀ x ∈ T, k x ≤ Rows.uptoBulk (gd x)) → (T.map k).sum ≤ Rows.uptoBulkAll (T.map gd)
  | [], _ => Nat.le_refl _
  | x :: r, h => by
    have h1 := sum_bulk r fun y hy => h y (by simp [hy])
    have h2 := h x (by simp)
    simp only [List.map_cons, List.sum_cons, Rows.uptoBulkAll]
    omega
section
variable {H : Type} {enc : TypeId × Value → H} {w : World} {base : Nat} {spare : Nat → Bool} {held : Bool}
theorem cell_string {n : Nat} {v : Value} {y : DataW H × List MemPlace} (h : DataW.trod enc Tryz.prog w base spare held n 9 [v] = some y) : ∃ l : List UInt8, v = .string (bs l) ∧ y.1 = .lit (.string l) := by
  obtain ⟨s, h1, h2, h3⟩ := DataW.trod_string Tryz.underlying9 h
  refine ⟨bl s, ?_, by rw [h2]; rfl⟩
  rw [bs_bl]
  injection h1
theorem cell_int {t : TypeId} (ht : Tryz.prog.underlying t = some (.int .i64)) {n : Nat} {v : Value} {y : DataW H × List MemPlace} (h : DataW.trod enc Tryz.prog w base spare held n t [v] = some y) : ∃ x : Int, v = .int .i64 x ∧ y.1 = .lit (.int .i64 x) := by
  obtain ⟨x, h1, h2, h3⟩ := DataW.trod_int ht h
  exact ⟨x, by injection h1, by rw [h2]⟩
theorem cell_u8 {n : Nat} {v : Value} {y : DataW H × List MemPlace} (h : DataW.trod enc Tryz.prog w base spare held n 5 [v] = some y) : ∃ x : UInt8, v = .int .u8 (x.toNat : Int) ∧ y.1 = .lit (.int .u8 (x.toNat : Int)) := by
  obtain ⟨x, h1, h2, h3⟩ := DataW.trod_int Tryz.underlying5 h
  obtain ⟨c, hc⟩ : ∃ c : UInt8, (c.toNat : Int) = x := by
    simp only [Lit.wf, Bool.and_eq_true, decide_eq_true_eq] at h3
    have hr : 0 ≤ x ∧ x ≤ 255 := h3
    exact ⟨UInt8.ofNat x.toNat, by rw [UInt8.toNat_ofNat']; omega⟩
  exact ⟨c, by rw [hc]; injection h1, by rw [h2, hc]⟩
theorem cell_bool {n : Nat} {v : Value} {y : DataW H × List MemPlace} (h : DataW.trod enc Tryz.prog w base spare held n 4 [v] = some y) : ∃ x : Bool, v = .bool x ∧ y.1 = .lit (.bool x) := by
  obtain ⟨x, h1, h2⟩ := DataW.trod_bool Tryz.underlying4 h
  exact ⟨x, by injection h1, by rw [h2]⟩
end
/-- all lengths of a step, of a stage, of a file, at most N. -/
def StLe (N : Nat) (s : Ck.St) : Prop := s.words.length + s.exec.length + s.pairs.length + s.docs.length ≤ N ∧ ∀ t ∈ Ck.textsL s, t.length ≤ N
theorem StLe.mono {N M : Nat} {s : Ck.St} (h : StLe N s) (hm : N ≤ M) : StLe M s := ⟨Nat.le_trans h.1 hm, fun t ht => Nat.le_trans (h.2 t ht) hm⟩
instance : Inhabited Ck.Pr := ⟨⟨[], []⟩⟩
instance : Inhabited Lx.Dc := ⟨⟨[], false, 0, []⟩⟩
def prDt {H : Type} (x : Ck.Pr) : DataW H := .agg [.lit (.string x.key), .lit (.string x.val)]
def doDt {H : Type} (x : Lx.Dc) : DataW H := .agg [.lit (.string x.name), .lit (.bool x.raw), .lit (.int .i64 x.line), .lit (.string x.text)]
def txL (t : List UInt8) : List Value := [.string (bs t)]
def txDt {H : Type} (t : List UInt8) : DataW H := .lit (.string t)
theorem flat_tx (l : List (List UInt8)) : l.flatMap txL = sc l := by
  induction l with
  | nil => rfl
  | cons x r ih => rw [List.flatMap_cons, ih]; rfl
theorem pr_one : ∃ f0 f1 : Field, Tryz.prog.underlying 166 = some (.struct #[f0, f1]) ∧ oneCellFields Tryz.prog #[f0, f1] = true ∧ Tryz.prog.cellsOf 166 = 2 ∧ f0.type = 9 ∧ f1.type = 9 :=
  ⟨_, _, Tryz.underlying166, by kernel_rfl, by kernel_rfl, rfl, rfl⟩
theorem do_one : ∃ f0 f1 f2 f3 : Field, Tryz.prog.underlying 238 = some (.struct #[f0, f1, f2, f3]) ∧ oneCellFields Tryz.prog #[f0, f1, f2, f3] = true ∧ Tryz.prog.cellsOf 238 = 4 ∧ f0.type = 9 ∧ f1.type = 4 ∧ f2.type = 3 ∧ f3.type = 9 :=
  ⟨_, _, _, _, Tryz.underlying238, by kernel_rfl, by kernel_rfl, rfl, rfl, rfl, rfl⟩
theorem st_one : ∃ f0 f1 f2 f3 f4 f5 f6 f7 f8 f9 : Field, Tryz.prog.underlying 100 = some (.struct #[f0, f1, f2, f3, f4, f5, f6, f7, f8, f9]) ∧ oneCellFields Tryz.prog #[f0, f1, f2, f3, f4, f5, f6, f7, f8, f9] = true ∧ Tryz.prog.cellsOf 100 = 10 ∧ f0.type = 97 ∧ f1.type = 3 ∧ f2.type = 9 ∧ f3.type = 9 ∧ f4.type = 4 ∧ f5.type = 26 ∧ f6.type = 4 ∧ f7.type = 30 ∧ f8.type = 98 ∧ f9.type = 30 :=
  ⟨_, _, _, _, _, _, _, _, _, _, Tryz.underlying100, by kernel_rfl, by kernel_rfl, rfl, rfl, rfl, rfl, rfl, rfl, rfl, rfl, rfl, rfl⟩
theorem sg_one : ∃ f0 f1 f2 f3 : Field, Tryz.prog.underlying 88 = some (.struct #[f0, f1, f2, f3]) ∧ oneCellFields Tryz.prog #[f0, f1, f2, f3] = true ∧ Tryz.prog.cellsOf 88 = 4 ∧ f0.type = 3 ∧ f1.type = 9 ∧ f2.type = 9 ∧ f3.type = 22 :=
  ⟨_, _, _, _, Tryz.underlying88, by kernel_rfl, by kernel_rfl, rfl, rfl, rfl, rfl⟩
theorem fl_one : ∃ f0 f1 f2 : Field, Tryz.prog.underlying 25 = some (.struct #[f0, f1, f2]) ∧ oneCellFields Tryz.prog #[f0, f1, f2] = true ∧ Tryz.prog.cellsOf 25 = 3 ∧ f0.type = 5 ∧ f1.type = 22 ∧ f2.type = 23 :=
  ⟨_, _, _, Tryz.underlying25, by kernel_rfl, by kernel_rfl, rfl, rfl, rfl⟩
set_option maxRecDepth 100000 in
theorem open_pr {H : Type} {enc : TypeId × Value → H} {W : World} {fuel : Nat} {cs : List Value} {y : DataW H × List MemPlace} (hf : DataW.trod enc Tryz.prog W 0 (fun _ => true) true fuel 166 cs = some y) : ∃ x : Ck.Pr, cs = prL x ∧ y.1 = prDt x := by
  obtain ⟨f0, f1, hu, hone, hC, e0, e1⟩ := pr_one
  obtain ⟨xs, n, _, hx, hcl, hlen, hg⟩ := DataW.trod_struct hu hf
  obtain ⟨o0, k0⟩ := hone_of hone 0 f0 rfl
  obtain ⟨o1, k1⟩ := hone_of hone 1 f1 rfl
  rw [hC] at hcl
  match cs, hcl, xs, hlen with
  | [c0, c1], _, [y0, y1], _ =>
    have t0 := by simpa [o0, k0] using hg 0 f0 rfl
    have t1 := by simpa [o1, k1] using hg 1 f1 rfl
    rw [e0] at t0; rw [e1] at t1
    obtain ⟨x0, rfl, d0⟩ := cell_string t0
    obtain ⟨x1, rfl, d1⟩ := cell_string t1
    exact ⟨⟨x0, x1⟩, rfl, by rw [hx]; simp only [List.map_cons, List.map_nil, prDt, d0, d1]⟩
set_option maxRecDepth 100000 in
theorem open_do {H : Type} {enc : TypeId × Value → H} {W : World} {fuel : Nat} {cs : List Value} {y : DataW H × List MemPlace} (hf : DataW.trod enc Tryz.prog W 0 (fun _ => true) true fuel 238 cs = some y) : ∃ x : Lx.Dc, cs = doL x ∧ y.1 = doDt x := by
  obtain ⟨f0, f1, f2, f3, hu, hone, hC, e0, e1, e2, e3⟩ := do_one
  obtain ⟨xs, n, _, hx, hcl, hlen, hg⟩ := DataW.trod_struct hu hf
  obtain ⟨o0, k0⟩ := hone_of hone 0 f0 rfl
  obtain ⟨o1, k1⟩ := hone_of hone 1 f1 rfl
  obtain ⟨o2, k2⟩ := hone_of hone 2 f2 rfl
  obtain ⟨o3, k3⟩ := hone_of hone 3 f3 rfl
  rw [hC] at hcl
  match cs, hcl, xs, hlen with
  | [c0, c1, c2, c3], _, [y0, y1, y2, y3], _ =>
    have t0 := by simpa [o0, k0] using hg 0 f0 rfl
    have t1 := by simpa [o1, k1] using hg 1 f1 rfl
    have t2 := by simpa [o2, k2] using hg 2 f2 rfl
    have t3 := by simpa [o3, k3] using hg 3 f3 rfl
    rw [e0] at t0; rw [e1] at t1; rw [e2] at t2; rw [e3] at t3
    obtain ⟨x0, rfl, d0⟩ := cell_string t0
    obtain ⟨x1, rfl, d1⟩ := cell_bool t1
    obtain ⟨x2, rfl, d2⟩ := cell_int Tryz.underlying3 t2
    obtain ⟨x3, rfl, d3⟩ := cell_string t3
    exact ⟨⟨x0, x1, x2, x3⟩, rfl, by rw [hx]; simp only [List.map_cons, List.map_nil, doDt, d0, d1, d2, d3]⟩
theorem open_tx {H : Type} {enc : TypeId × Value → H} {W : World} {fuel : Nat} {cs : List Value} {y : DataW H × List MemPlace} (hf : DataW.trod enc Tryz.prog W 0 (fun _ => true) true fuel 9 cs = some y) : ∃ x : List UInt8, cs = txL x ∧ y.1 = txDt x := by
  obtain ⟨s, h1, h2, h3⟩ := DataW.trod_string Tryz.underlying9 hf
  exact ⟨bl s, by rw [h1, txL, bs_bl], by rw [h2]; rfl⟩
/-- what is known of a step that was let in. -/
structure StO (H : Type) (W : World) where
  m : SM
  d : DataW H
  ok : m.Ok W
  le : StLe (Rows.uptoBulk d) m.s
instance {H : Type} {W : World} : Inhabited (StO H W) := ⟨⟨⟨⟨0, 0, [], [], false, [], false, [], [], []⟩, .slice none 0 0, .slice none 0 0, .slice none 0 0, .slice none 0 0⟩, .nil, ⟨SlA.none W, SlA.none W, SlA.none W, SlA.none W, fun A n c e => slice_le e (Nat.le_refl _)⟩, Nat.zero_le _, fun t ht => by
  have : t ∈ ([[], []] : List (List UInt8)) := ht
  simp at this
  subst this
  exact Nat.zero_le _⟩⟩
theorem lit_le {H : Type} {s : List UInt8} {d : DataW H} (h : d = .lit (.string s)) : s.length ≤ Rows.uptoBulk d := by subst h; simp only [Rows.uptoBulk]; omega
set_option maxRecDepth 100000 in
theorem open_st {H : Type} {enc : TypeId × Value → H} {W : World} {fuel : Nat} {cs : List Value} {y : DataW H × List MemPlace} (hf : DataW.trod enc Tryz.prog W 0 (fun _ => true) true fuel 100 cs = some y) : ∃ x : StO H W, cs = smL x.m ∧ y.1 = x.d := by
  obtain ⟨f0, f1, f2, f3, f4, f5, f6, f7, f8, f9, hu, hone, hC, e0, e1, e2, e3, e4, e5, e6, e7, e8, e9⟩ := st_one
  obtain ⟨xs, n, _, hx, hcl, hlen, hg⟩ := DataW.trod_struct hu hf
  obtain ⟨o0, k0⟩ := hone_of hone 0 f0 rfl
  obtain ⟨o1, k1⟩ := hone_of hone 1 f1 rfl
  obtain ⟨o2, k2⟩ := hone_of hone 2 f2 rfl
  obtain ⟨o3, k3⟩ := hone_of hone 3 f3 rfl
  obtain ⟨o4, k4⟩ := hone_of hone 4 f4 rfl
  obtain ⟨o5, k5⟩ := hone_of hone 5 f5 rfl
  obtain ⟨o6, k6⟩ := hone_of hone 6 f6 rfl
  obtain ⟨o7, k7⟩ := hone_of hone 7 f7 rfl
  obtain ⟨o8, k8⟩ := hone_of hone 8 f8 rfl
  obtain ⟨o9, k9⟩ := hone_of hone 9 f9 rfl
  rw [hC] at hcl
  match cs, hcl, xs, hlen with
  | [c0, c1, c2, c3, c4, c5, c6, c7, c8, c9], _, [y0, y1, y2, y3, y4, y5, y6, y7, y8, y9], _ =>
    have t0 := by simpa [o0, k0] using hg 0 f0 rfl
    have t1 := by simpa [o1, k1] using hg 1 f1 rfl
    have t2 := by simpa [o2, k2] using hg 2 f2 rfl
    have t3 := by simpa [o3, k3] using hg 3 f3 rfl
    have t4 := by simpa [o4, k4] using hg 4 f4 rfl
    have t5 := by simpa [o5, k5] using hg 5 f5 rfl
    have t6 := by simpa [o6, k6] using hg 6 f6 rfl
    have t7 := by simpa [o7, k7] using hg 7 f7 rfl
    have t8 := by simpa [o8, k8] using hg 8 f8 rfl
    have t9 := by simpa [o9, k9] using hg 9 f9 rfl
    rw [e0] at t0; rw [e1] at t1; rw [e2] at t2; rw [e3] at t3; rw [e4] at t4; rw [e5] at t5; rw [e6] at t6; rw [e7] at t7; rw [e8] at t8; rw [e9] at t9
    obtain ⟨x0, rfl, d0⟩ := cell_int Tryz.underlying97 t0
    obtain ⟨x1, rfl, d1⟩ := cell_int Tryz.underlying3 t1
    obtain ⟨x2, rfl, d2⟩ := cell_string t2
    obtain ⟨x3, rfl, d3⟩ := cell_string t3
    obtain ⟨x4, rfl, d4⟩ := cell_bool t4
    obtain ⟨T5, a5, k5', r5, g5, s5, l5, b5, -⟩ := open_sla Tryz.underlying26 (k := 2) (by kernel_rfl) (by omega) prL (fun _ => rfl) prDt (fun h => open_pr h) t5
    obtain ⟨x6, rfl, d6⟩ := cell_bool t6
    obtain ⟨T7, a7, k7', r7, g7, s7, l7, b7, -⟩ := open_sla Tryz.underlying30 (k := 1) (by kernel_rfl) (by omega) txL (fun _ => rfl) txDt (fun h => open_tx h) t7
    obtain ⟨T8, a8, k8', r8, g8, s8, l8, b8, -⟩ := open_sla Tryz.underlying98 (k := 4) (by kernel_rfl) (by omega) doL (fun _ => rfl) doDt (fun h => open_do h) t8
    obtain ⟨T9, a9, k9', r9, g9, s9, l9, b9, -⟩ := open_sla Tryz.underlying30 (k := 1) (by kernel_rfl) (by omega) txL (fun _ => rfl) txDt (fun h => open_tx h) t9
    rw [flat_tx] at s7 s9
    have hB : Rows.uptoBulk y.1 = Rows.uptoBulk y0.1 + (Rows.uptoBulk y1.1 + (Rows.uptoBulk y2.1 + (Rows.uptoBulk y3.1 + (Rows.uptoBulk y4.1 + (Rows.uptoBulk y5.1 + (Rows.uptoBulk y6.1 + (Rows.uptoBulk y7.1 + (Rows.uptoBulk y8.1 + (Rows.uptoBulk y9.1 + 0))))))))) + 1 := by
      rw [hx]; simp only [List.map_cons, List.map_nil, Rows.uptoBulk, Rows.uptoBulkAll]
    have hd2 := lit_le d2
    have hd3 := lit_le d3
    refine ⟨⟨⟨⟨x0, x1, x2, x3, x4, T5, x6, T7, T8, T9⟩, c5, c7, c8, c9⟩, y.1, ⟨s5, s7, s8, s9, fun A n c e => slice_le (r8.symm.trans e) g8⟩, ⟨by show T7.length + T9.length + T5.length + T8.length ≤ _; omega, fun t ht => ?_⟩⟩, rfl, rfl⟩
    have ht' : t ∈ [x2, x3] ++ T7 ++ T9 ++ T5.flatMap (fun p => [p.key, p.val]) ++ T8.flatMap fun d => [d.name, d.text] := ht
    simp only [List.mem_append, List.mem_flatMap, List.mem_cons, List.not_mem_nil, or_false] at ht'
    rcases ht' with (((( rfl | rfl) | h) | h) | ⟨p, hp, rfl | rfl⟩) | ⟨p, hp, rfl | rfl⟩
    · omega
    · omega
    · have := b7 _ h; simp only [txDt, Rows.uptoBulk] at this; omega
    · have := b9 _ h; simp only [txDt, Rows.uptoBulk] at this; omega
    · have := b5 _ hp; simp only [prDt, Rows.uptoBulk, Rows.uptoBulkAll] at this; omega
    · have := b5 _ hp; simp only [prDt, Rows.uptoBulk, Rows.uptoBulkAll] at this; omega
    · have := b8 _ hp; simp only [doDt, Rows.uptoBulk, Rows.uptoBulkAll] at this; omega
    · have := b8 _ hp; simp only [doDt, Rows.uptoBulk, Rows.uptoBulkAll] at this; omega
theorem smC_map {H : Type} {W : World} (T : List (StO H W)) : T.flatMap (fun x => smL x.m) = smC (T.map StO.m) := by
  unfold smC
  rw [List.flatMap_map]
theorem open_steps {H : Type} {enc : TypeId × Value → H} {W : World} {fuel : Nat} {v : Value} {y : DataW H × List MemPlace} (h : DataW.trod enc Tryz.prog W 0 (fun _ => true) true fuel 22 [v] = some y) :
    ∃ (l : List SM) (a : Option Addr) (c : Nat), v = .slice a l.length c ∧ StsA W v l ∧ l.length ≤ Rows.uptoBulk y.1 ∧ ∀ m ∈ l, StLe (Rows.uptoBulk y.1) m.s := by
  obtain ⟨T, a, c, hv, _, hs, hl, hb, _⟩ := open_sla Tryz.underlying22 (k := 10) (by kernel_rfl) (by omega) (fun x : StO H W => smL x.m) (fun _ => rfl) StO.d (fun h => open_st h) h
  rw [smC_map] at hs
  have hlen : (T.map StO.m).length = T.length := List.length_map _
  refine ⟨T.map StO.m, a, c, by rw [hlen]; exact hv, ⟨by rw [hlen]; exact hs, fun m hm => ?_⟩, by rw [hlen]; exact hl, fun m hm => ?_⟩
  · obtain ⟨x, _, rfl⟩ := List.mem_map.1 hm
    exact x.ok
  · obtain ⟨x, hx, rfl⟩ := List.mem_map.1 hm
    exact x.le.mono (hb x hx)
/-- what is known of a stage that was let in. -/
structure SgO (H : Type) (W : World) where
  g : GM
  d : DataW H
  st : StsA W g.vs g.ms
  base : g.base.length ≤ Rows.uptoBulk d
  name : g.name.length ≤ Rows.uptoBulk d
  len : g.ms.length + 1 ≤ Rows.uptoBulk d
  le : ∀ m ∈ g.ms, StLe (Rows.uptoBulk d) m.s
instance {H : Type} {W : World} : Inhabited (SgO H W) := ⟨⟨⟨0, [], [], .slice none 0 0, []⟩, .nil, ⟨SlA.none W, fun m hm => by cases hm⟩, Nat.zero_le _, Nat.zero_le _, bulk_one _, fun m hm => by cases hm⟩⟩
set_option maxRecDepth 100000 in
theorem open_sg {H : Type} {enc : TypeId × Value → H} {W : World} {fuel : Nat} {cs : List Value} {y : DataW H × List MemPlace} (hf : DataW.trod enc Tryz.prog W 0 (fun _ => true) true fuel 88 cs = some y) : ∃ x : SgO H W, cs = gmL x.g ∧ y.1 = x.d := by
  obtain ⟨f0, f1, f2, f3, hu, hone, hC, e0, e1, e2, e3⟩ := sg_one
  obtain ⟨xs, n, _, hx, hcl, hlen, hg⟩ := DataW.trod_struct hu hf
  obtain ⟨o0, k0⟩ := hone_of hone 0 f0 rfl
  obtain ⟨o1, k1⟩ := hone_of hone 1 f1 rfl
  obtain ⟨o2, k2⟩ := hone_of hone 2 f2 rfl
  obtain ⟨o3, k3⟩ := hone_of hone 3 f3 rfl
  rw [hC] at hcl
  match cs, hcl, xs, hlen with
  | [c0, c1, c2, c3], _, [y0, y1, y2, y3], _ =>
    have t0 := by simpa [o0, k0] using hg 0 f0 rfl
    have t1 := by simpa [o1, k1] using hg 1 f1 rfl
    have t2 := by simpa [o2, k2] using hg 2 f2 rfl
    have t3 := by simpa [o3, k3] using hg 3 f3 rfl
    rw [e0] at t0; rw [e1] at t1; rw [e2] at t2; rw [e3] at t3
    obtain ⟨x0, rfl, d0⟩ := cell_int Tryz.underlying3 t0
    obtain ⟨x1, rfl, d1⟩ := cell_string t1
    obtain ⟨x2, rfl, d2⟩ := cell_string t2
    obtain ⟨l, a, c, hv, hs, hl, hle⟩ := open_steps t3
    have hB : Rows.uptoBulk y.1 = Rows.uptoBulk y0.1 + (Rows.uptoBulk y1.1 + (Rows.uptoBulk y2.1 + (Rows.uptoBulk y3.1 + 0))) + 1 := by
      rw [hx]; simp only [List.map_cons, List.map_nil, Rows.uptoBulk, Rows.uptoBulkAll]
    have hd1 := lit_le d1
    have hd2 := lit_le d2
    exact ⟨⟨⟨x0, x1, x2, c3, l⟩, y.1, hs, by show x1.length ≤ _; omega, by show x2.length ≤ _; omega, by show l.length + 1 ≤ _; omega, fun m hm => (hle m hm).mono (by omega)⟩, rfl, rfl⟩
theorem gmC_map {H : Type} {W : World} (T : List (SgO H W)) : T.flatMap (fun x => gmL x.g) = gmC (T.map SgO.g) := by
  unfold gmC
  rw [List.flatMap_map]
theorem open_stages {H : Type} {enc : TypeId × Value → H} {W : World} {fuel : Nat} {v : Value} {y : DataW H × List MemPlace} (h : DataW.trod enc Tryz.prog W 0 (fun _ => true) true fuel 23 [v] = some y) :
    ∃ (l : List GM) (a : Option Addr) (c : Nat), v = .slice a l.length c ∧ GsA W v l ∧ l.length + (l.map fun g => g.ms.length).sum ≤ Rows.uptoBulk y.1 ∧ ∀ g ∈ l, g.base.length ≤ Rows.uptoBulk y.1 ∧ g.name.length ≤ Rows.uptoBulk y.1 ∧ ∀ m ∈ g.ms, StLe (Rows.uptoBulk y.1) m.s := by
  obtain ⟨T, a, c, hv, _, hs, hl, hb, hall⟩ := open_sla Tryz.underlying23 (k := 4) (by kernel_rfl) (by omega) (fun x : SgO H W => gmL x.g) (fun _ => rfl) SgO.d (fun h => open_sg h) h
  rw [gmC_map] at hs
  have hlen : (T.map SgO.g).length = T.length := List.length_map _
  refine ⟨T.map SgO.g, a, c, by rw [hlen]; exact hv, ⟨by rw [hlen]; exact hs, fun m hm => ?_⟩, ?_, fun m hm => ?_⟩
  · obtain ⟨x, _, rfl⟩ := List.mem_map.1 hm
    exact x.st
  · have h1 := sum_bulk (gd := SgO.d) (k := fun x : SgO H W => x.g.ms.length + 1) T fun x _ => x.len
    have h2 : ∀ T : List (SgO H W), (T.map fun x => x.g.ms.length + 1).sum = T.length + ((T.map SgO.g).map fun g => g.ms.length).sum := fun T => by
      induction T with
      | nil => rfl
      | cons x r ih =>
        simp only [List.map_cons, List.sum_cons, List.length_cons]
        rw [ih]; omega
    rw [h2] at h1
    rw [hlen]
    omega
  · obtain ⟨x, hx, rfl⟩ := List.mem_map.1 hm
    have := hb x hx
    exact ⟨Nat.le_trans x.base this, Nat.le_trans x.name this, fun m hm => (x.le m hm).mono this⟩
/-- all lengths of a file, at most N. -/
def FlLe (N : Nat) (f : FM) : Prop := (∀ m ∈ f.args, StLe N m.s) ∧ (∀ g ∈ f.stages, g.base.length ≤ N ∧ g.name.length ≤ N ∧ ∀ m ∈ g.ms, StLe N m.s) ∧ f.stages.length + (f.args.length + (f.stages.map fun g => g.ms.length).sum) ≤ N
set_option maxRecDepth 100000 in
theorem open_fl {H : Type} {enc : TypeId × Value → H} {W : World} {fuel : Nat} {cs : List Value} {y : DataW H × List MemPlace} (hf : DataW.trod enc Tryz.prog W 0 (fun _ => true) true fuel 25 cs = some y) : ∃ f : FM, cs = [.int .u8 (f.escape.toNat : Int), f.va, f.vg] ∧ f.Ok W ∧ FlLe (Rows.uptoBulk y.1) f := by
  obtain ⟨f0, f1, f2, hu, hone, hC, e0, e1, e2⟩ := fl_one
  obtain ⟨xs, n, _, hx, hcl, hlen, hg⟩ := DataW.trod_struct hu hf
  obtain ⟨o0, k0⟩ := hone_of hone 0 f0 rfl
  obtain ⟨o1, k1⟩ := hone_of hone 1 f1 rfl
  obtain ⟨o2, k2⟩ := hone_of hone 2 f2 rfl
  rw [hC] at hcl
  match cs, hcl, xs, hlen with
  | [c0, c1, c2], _, [y0, y1, y2], _ =>
    have t0 := by simpa [o0, k0] using hg 0 f0 rfl
    have t1 := by simpa [o1, k1] using hg 1 f1 rfl
    have t2 := by simpa [o2, k2] using hg 2 f2 rfl
    rw [e0] at t0; rw [e1] at t1; rw [e2] at t2
    obtain ⟨x0, rfl, d0⟩ := cell_u8 t0
    obtain ⟨l, a, c, hv, hs, hl, hle⟩ := open_steps t1
    obtain ⟨l2, a2, c2', hv2, hs2, hl2, hle2⟩ := open_stages t2
    have hB : Rows.uptoBulk y.1 = Rows.uptoBulk y0.1 + (Rows.uptoBulk y1.1 + (Rows.uptoBulk y2.1 + 0)) + 1 := by
      rw [hx]; simp only [List.map_cons, List.map_nil, Rows.uptoBulk, Rows.uptoBulkAll]
    refine ⟨⟨x0, c1, l, c2, l2⟩, rfl, ⟨hs, hs2⟩, fun m hm => (hle m hm).mono (by omega), fun g hg => ?_, by show l2.length + (l.length + (l2.map fun g => g.ms.length).sum) ≤ _; omega⟩
    obtain ⟨q1, q2, q3⟩ := hle2 g hg
    exact ⟨by omega, by omega, fun m hm => (q3 m hm).mono (by omega)⟩
set_option maxRecDepth 100000 in
/-- a file, a step, by value. -/
theorem open_file {H : Type} {enc : TypeId × Value → H} {W : World} {r : Reach} {b0 : Nat} {v : Value} {d : DataW H} {p : List MemPlace} (hv : Value.okWide Tryz.prog W r b0 25 v) (h : DataW.Trod enc Tryz.prog W 0 (fun _ => true) true 25 v d p) :
    ∃ f : FM, v = f.val ∧ f.Ok W ∧ FlLe (Rows.uptoBulk d) f := by
  obtain ⟨cs, rfl, hsz⟩ := okWide_struct Tryz.underlying25 hv
  obtain ⟨fuel, hf⟩ := h
  obtain ⟨f, e, h1, h2⟩ := open_fl hf
  refine ⟨f, ?_, h1, h2⟩
  obtain ⟨l⟩ := cs
  have e' : l = [.int .u8 (f.escape.toNat : Int), f.va, f.vg] := e
  rw [e']; rfl
set_option maxRecDepth 100000 in
theorem open_step {H : Type} {enc : TypeId × Value → H} {W : World} {r : Reach} {b0 : Nat} {v : Value} {d : DataW H} {p : List MemPlace} (hv : Value.okWide Tryz.prog W r b0 100 v) (h : DataW.Trod enc Tryz.prog W 0 (fun _ => true) true 100 v d p) :
    ∃ m : SM, v = .agg (smL m).toArray ∧ m.Ok W ∧ StLe (Rows.uptoBulk d) m.s := by
  obtain ⟨cs, rfl, hsz⟩ := okWide_struct Tryz.underlying100 hv
  obtain ⟨fuel, hf⟩ := h
  obtain ⟨x, e, rfl⟩ := open_st hf
  refine ⟨x.m, ?_, x.ok, x.le⟩
  obtain ⟨l⟩ := cs
  have e' : l = smL x.m := e
  rw [e']
end Go.Proofs.YtnlkmljdcmfogaaGreatDoor
