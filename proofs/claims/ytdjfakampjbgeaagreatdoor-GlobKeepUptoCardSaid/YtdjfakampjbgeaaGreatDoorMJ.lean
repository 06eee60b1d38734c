/- Rows of bools in memory; which places can be come to, plain. -/
import Derived.Test.YtdjfakampjbgeaaGreatDoorBlk
import Derived.Test.YtdjfakampjbgeaaGreatDoorMB
import Derived.Test.YtdjfakampjbgeaaGreatDoorGbD
import Derived.Test.YtdjfakampjbgeaaGreatDoorGbS0
import Derived.Deep.OwnRows
import Derived.WalkKit
import Derived.Deep.DeepCutAuto
namespace Go.Proofs.YtdjfakampjbgeaaGreatDoor
open Go.RowKit

/-- a row of bools. -/
def bf (n : Nat) (f : Nat → Bool) : Array Value := ((List.range n).map fun i => Value.bool (f i)).toArray
theorem bf_size (n : Nat) (f : Nat → Bool) : (bf n f).size = n := by simp [bf]
theorem bf_get {n i : Nat} (f : Nat → Bool) (h : i < n) : (bf n f)[i]? = some (.bool (f i)) := by simp [bf, h]
theorem bf_congr {n : Nat} {f g : Nat → Bool} (h : ∀ i, i < n → f i = g i) : bf n f = bf n g := by
  unfold bf
  congr 1
  exact List.map_congr_left fun i hi => by rw [h i (List.mem_range.1 hi)]
theorem bf_set (n : Nat) (f : Nat → Bool) (i : Nat) (b : Bool) : (bf n f).setIfInBounds i (.bool b) = bf n (fun j => if j = i then b else f j) := by
  apply Array.ext
  · rw [Array.size_setIfInBounds, bf_size, bf_size]
  · intro j h1 h2
    rw [bf_size] at h2
    have e := bf_get (fun j => if j = i then b else f j) h2
    rw [Array.getElem?_eq_getElem (by rw [bf_size]; exact h2)] at e
    injection e with e
    rw [e, Array.getElem_setIfInBounds]
    · by_cases hj : j = i
      · rw [if_pos hj.symm, if_pos hj]
      · rw [if_neg (fun h => hj h.symm), if_neg hj]
        have e2 := bf_get f h2
        rw [Array.getElem?_eq_getElem (by rw [bf_size]; exact h2)] at e2
        injection e2
    · rw [bf_size]; exact h2
theorem made_bf (n : Nat) : madeCells #[.bool false] n = bf n fun _ => false := by
  apply Array.ext'
  simp [madeCells, bf, Nat.mod_one, List.map_const']
/-- a block that is a row of bools. -/
def BF (w : World) (g n : Nat) (f : Nat → Bool) : Prop := Blk w g 4 (bf n f)
section
variable {w w' : World} {g n i : Nat} {f f' : Nat → Bool}
theorem BF.cell (h : BF w g n f) (hi : i < n) : w.cell? ⟨g, i, none⟩ = some (.bool (f i)) := (Blk.cell h i).trans (bf_get f hi)
theorem BF.frozen (h : BF w g n f) (i : Nat) : w.frozen? ⟨g, i, none⟩ = false := Blk.frozen h i
theorem BF.congr (h : BF w g n f) (e : ∀ i, i < n → f i = f' i) : BF w g n f' := by
  unfold BF at h ⊢
  rw [← bf_congr e]
  exact h
theorem BF.set_ (h : BF w g n f) (i : Nat) (b : Bool) : BF (w.setCell ⟨g, i, none⟩ (.bool b)) g n (fun j => if j = i then b else f j) := by
  have := Blk.set_ h i (.bool b)
  rw [bf_set] at this
  exact this
theorem BF.below {B : Nat} (h : BF w g n f) (hb : Below B w w') (hg : g < B) : BF w' g n f := Blk.below h hb hg
theorem BF.lt (h : BF w g n f) : g < w.heap.size := Blk.lt h
theorem BF.new (w : World) (n : Nat) : BF (w.alloc (.cells (madeCells #[.bool false] n) 4)) w.heap.size n (fun _ => false) := by
  rw [made_bf]
  exact Blk.new w _ _
theorem BF.grown {row : Option Nat} (h : BF w g n f) (hg : w.grownBy w' row) (hr : row ≠ some g) : BF w' g n f := Blk.grown h hg hr
end
theorem make_bf (n : Nat) (hn : n ≤ 100000000) (w : World) : (Instr.makeSlice 65 (.int .i64 (n : Int)) (.int .i64 (n : Int))).run Tryz.prog w = .ok (.slice (some ⟨w.heap.size, 0, none⟩) n n) (w.alloc (.cells (madeCells #[.bool false] n) 4)) :=
  run_make_row' 65 4 (.bool false) 1 Tryz.underlying65 (by kernel_rfl) rfl .i64 .i64 n (by omega) (by omega) w

namespace Gm
variable {α β : Type} (any : α → Bool) (tk : α → β → Bool)
/-- can place i be come to? -/
def reach (ms : List α) (s : List β) (i : Nat) : Bool := mm any tk ms (s.take i)
theorem reach_nil (s : List β) {i : Nat} (h : i ≤ s.length) : reach any tk [] s i = decide (i = 0) := by
  cases i with
  | zero => rfl
  | succ i =>
    cases s with
    | nil => simp at h
    | cons c s => simp [reach, mm]
theorem mm_snoc_nil {m : α} (hm : any m = false) (ms : List α) : mm any tk (ms ++ [m]) [] = false := by
  rw [mm_nil_any, List.all_append]; simp [hm]
theorem mm_snoc_one {m : α} (hm : any m = false) (c : β) : ∀ (ms : List α) (s : List β), mm any tk (ms ++ [m]) (s ++ [c]) = (mm any tk ms s && tk m c)
  | [], [] => by
    rw [List.nil_append, List.nil_append, mm_one any tk hm]; simp [mm]
  | [], d :: s => by
    rw [List.nil_append, List.cons_append, mm_one any tk hm]
    have : mm any tk [] (s ++ [c]) = false := by cases s <;> rfl
    rw [this]; simp [mm]
  | x :: ms, s => by
    rw [List.cons_append]
    by_cases hx : any x = true
    · rw [Bool.eq_iff_iff, mm_any any tk hx, Bool.and_eq_true, mm_any any tk hx]
      constructor
      · rintro ⟨k, hk, h⟩
        rcases Nat.lt_or_ge s.length k with hl | hl
        · rw [List.drop_eq_nil_of_le (by rw [List.length_append]; simp; omega), mm_snoc_nil any tk hm] at h
          cases h
        · rw [List.drop_append_of_le_length hl, mm_snoc_one hm c ms, Bool.and_eq_true] at h
          exact ⟨⟨k, hl, h.1⟩, h.2⟩
      · rintro ⟨⟨k, hk, h⟩, h2⟩
        refine ⟨k, by rw [List.length_append]; simp; omega, ?_⟩
        rw [List.drop_append_of_le_length hk, mm_snoc_one hm c ms, h, h2]
        rfl
    · have hx' : any x = false := by simpa using hx
      cases s with
      | nil =>
        rw [List.nil_append, mm_one any tk hx', mm_snoc_nil any tk hm, mm_one_nil any tk hx']
        simp
      | cons d s =>
        rw [List.cons_append, mm_one any tk hx', mm_one any tk hx', mm_snoc_one hm c ms s, Bool.and_assoc]
theorem reach_zero {m : α} (hm : any m = false) (ms : List α) (s : List β) : reach any tk (ms ++ [m]) s 0 = false := by
  rw [reach, List.take_zero]
  exact mm_snoc_nil any tk hm ms
theorem reach_succ {m : α} (hm : any m = false) (ms : List α) (s : List β) {i : Nat} (h : i < s.length) : reach any tk (ms ++ [m]) s (i + 1) = (reach any tk ms s i && tk m s[i]) := by
  rw [reach, List.take_add_one, List.getElem?_eq_getElem h]
  exact mm_snoc_one any tk hm _ ms _
/-- whichever place up to i. -/
def upto (f : Nat → Bool) (i : Nat) : Bool := (List.range (i + 1)).any f
theorem upto_zero (f : Nat → Bool) : upto f 0 = f 0 := by simp [upto]
theorem upto_succ (f : Nat → Bool) (i : Nat) : upto f (i + 1) = (f (i + 1) || upto f i) := by
  rw [upto, List.range_succ, List.any_append, Bool.or_comm]; simp [upto]
theorem reach_any {m : α} (hm : any m = true) (ms : List α) (s : List β) {i : Nat} (h : i ≤ s.length) : reach any tk (ms ++ [m]) s i = upto (reach any tk ms s) i := by
  rw [Bool.eq_iff_iff, reach, Gl.mm_snoc_any any tk hm, upto, List.any_eq_true]
  constructor
  · rintro ⟨k, hk, e⟩
    rw [List.length_take] at hk
    refine ⟨k, List.mem_range.2 (by omega), ?_⟩
    rw [List.take_take, Nat.min_eq_left (by omega)] at e
    exact e
  · rintro ⟨k, hk, e⟩
    have hk := List.mem_range.1 hk
    refine ⟨k, by rw [List.length_take]; omega, ?_⟩
    rw [List.take_take, Nat.min_eq_left (by omega)]
    exact e
theorem reach_end (ms : List α) (s : List β) : reach any tk ms s s.length = mm any tk ms s := by rw [reach, List.take_length]
end Gm

/-- the row of the bytes that a mark takes. -/
def mf (m : Gl.Mk) (k : Nat) : Bool := m.takes (UInt8.ofNat k)
theorem mf_at (m : Gl.Mk) (c : UInt8) : mf m c.toNat = m.takes c := by rw [mf, UInt8.ofNat_toNat]
/-- the cells of a row of the document's parts. -/
def PtCells (w : World) (S : Nat → Prop) : List Gl.Mk → List Value → Prop
  | [], cs => cs = []
  | m :: ms, cs => ∃ v r, cs = [.bool m.any, v] ++ r ∧ (m.any = false → ∃ g, v = .slice (some ⟨g, 0, none⟩) 256 256 ∧ S g ∧ BF w g 256 (mf m)) ∧ PtCells w S ms r
theorem PtCells.keep {w w' : World} {S S' : Nat → Prop} (hk : Lies w w' S S') : ∀ {ms : List Gl.Mk} {cs : List Value}, PtCells w S ms cs → PtCells w' S' ms cs
  | [], _, h => h
  | _ :: _, _, ⟨v, r, e, h1, h⟩ => ⟨v, r, e, fun ha => by
      obtain ⟨g, e1, e2, e3⟩ := h1 ha
      obtain ⟨k1, k2⟩ := hk g e2 e3.lt
      exact ⟨g, e1, k2, k1.trans e3⟩, PtCells.keep hk h⟩
theorem PtCells.snoc {w : World} {S : Nat → Prop} {m : Gl.Mk} {v : Value} (h1 : m.any = false → ∃ g, v = .slice (some ⟨g, 0, none⟩) 256 256 ∧ S g ∧ BF w g 256 (mf m)) : ∀ {ms : List Gl.Mk} {cs : List Value}, PtCells w S ms cs → PtCells w S (ms ++ [m]) (cs ++ [.bool m.any, v])
  | [], _, h => ⟨v, [], by rw [show _ = [] from h]; rfl, h1, rfl⟩
  | _ :: ms, _, ⟨_, _, e, k1, h⟩ => ⟨_, _, by rw [e]; rfl, k1, PtCells.snoc h1 h⟩
theorem PtCells.at_ {w : World} {S : Nat → Prop} : ∀ {ms : List Gl.Mk} {cs : List Value}, PtCells w S ms cs → ∀ j (hj : j < ms.length), ∃ v, cs[j * 2]? = some (.bool ms[j].any) ∧ cs[j * 2 + 1]? = some v ∧ (ms[j].any = false → ∃ g, v = .slice (some ⟨g, 0, none⟩) 256 256 ∧ S g ∧ BF w g 256 (mf ms[j]))
  | [], _, _, j, hj => absurd hj (by simp)
  | _ :: _, _, ⟨v, r, e, h1, h⟩, 0, _ => ⟨v, by rw [e]; rfl, by rw [e]; rfl, h1⟩
  | p :: ps, _, ⟨v, r, e, h1, h⟩, j + 1, hj => by
    obtain ⟨v', c0, c1, k1⟩ := PtCells.at_ h j (by simpa using hj)
    subst e
    refine ⟨v', ?_, ?_, k1⟩
    · rw [show (j + 1) * 2 = j * 2 + 2 by omega]; exact c0
    · rw [show (j + 1) * 2 + 1 = j * 2 + 1 + 2 by omega]; exact c1
/-- a slice of the document's parts. -/
def RT (w : World) (S : Nat → Prop) (v : Value) (ms : List Gl.Mk) : Prop := ∃ cs, RC w S v ms.length cs ∧ PtCells w S ms cs
theorem RT.keep {w w' : World} {S S' : Nat → Prop} {v : Value} {ms : List Gl.Mk} (h : RT w S v ms) (hk : Lies w w' S S') : RT w' S' v ms := by
  obtain ⟨cs, h1, h2⟩ := h
  exact ⟨cs, h1.keep hk, h2.keep hk⟩
theorem RT.form {w : World} {S : Nat → Prop} {v : Value} {ms : List Gl.Mk} (h : RT w S v ms) : ∃ A c, v = .slice A ms.length c := by
  obtain ⟨cs, ⟨A, c, e, _⟩, _⟩ := h
  exact ⟨A, c, e⟩
theorem RT.at_ {w : World} {S : Nat → Prop} {vm : Value} {ms : List Gl.Mk} (h : RT w S vm ms) {j : Nat} (hj : j < ms.length) : ∃ g o c v, vm = .slice (some ⟨g, o, none⟩) ms.length c ∧ S g ∧ w.cell? ⟨g, o + j * 2, none⟩ = some (.bool ms[j].any) ∧ w.cell? ⟨g, o + j * 2 + 1, none⟩ = some v ∧ (ms[j].any = false → ∃ g, v = .slice (some ⟨g, 0, none⟩) 256 256 ∧ S g ∧ BF w g 256 (mf ms[j])) := by
  obtain ⟨cs, ⟨A, c, rfl, hc⟩, hm⟩ := h
  obtain ⟨v, c0, c1, k1⟩ := hm.at_ j hj
  obtain ⟨g, o, rfl, hs, d0⟩ := hc _ _ c0
  obtain ⟨g', o', e, _, d1⟩ := hc _ _ c1
  injection e with e
  injection e with e1 e2
  subst e1 e2
  exact ⟨g, o, c, v, rfl, hs, d0, by rw [Nat.add_assoc]; exact d1, k1⟩
end Go.Proofs.YtdjfakampjbgeaaGreatDoor
/- strataref02.byteAt, single, walked. -/
namespace Go.Proofs.YtdjfakampjbgeaaGreatDoor
open Go.RowKit

/-- what byteAt answers. -/
def ByteAns (s : ByteArray) (k : Nat) (e : Ending) : Prop :=
  (Gl.oneL ((bl s).drop k) = none ∧ e = .returned (.tuple #[.int .u8 0, .int .i64 (k : Int), .bool false])) ∨
  (∃ (c : UInt8) (n : Nat), Gl.oneL ((bl s).drop k) = some (c, (bl s).drop n) ∧ k < n ∧ n ≤ k + 2 ∧ n ≤ s.size ∧ e = .returned (.tuple #[.int .u8 (c.toNat : Int), .int .i64 (n : Int), .bool true]))
set_option maxRecDepth 100000 in
theorem byteAt_any (s : ByteArray) (k : Nat) (hs : s.size ≤ 2000000) (hk : k < s.size) (w : World) : Calls Tryz.prog 68 #[.string s, .int .i64 (k : Int)] w fun e w' => ByteAns s k e ∧ w = w' := by
  have hd := bl_drop_cons s k hk
  have j0 : (0 : Int) ≤ (k : Int) := by omega
  have i0 : (k : Int) < (s.size : Int) := by omega
  have i1 : decide ((s.size : Int) ≤ (k : Int)) = false := by rw [decide_eq_false_iff_not]; omega
  have i1n : decide (s.size ≤ k) = false := by rw [decide_eq_false_iff_not]; omega
  have hb : (s[k]).toNat < 256 := (s[k]).toNat_lt
  by_cases hc : s[k] = 92
  · have t0 : (((s[k]).toNat : Int) != 92) = false := by rw [hc]; rfl
    by_cases h2 : k + 1 < s.size
    · have i2 : decide ((s.size : Int) ≤ (k : Int) + 1) = false := by rw [decide_eq_false_iff_not]; omega
      have i3 : (k : Int) + 1 < (s.size : Int) := by omega
      have hb2 : (s[k + 1]).toNat < 256 := (s[k + 1]).toNat_lt
      have hd2 := bl_drop_cons s (k + 1) h2
      have ho : Hid (Gl.oneL ((bl s).drop k) = some (s[k + 1], (bl s).drop (k + 2))) := by show _ = _; rw [hd, hd2, oneL_esc hc]
      clear hd hd2
      go_enter Tryz.func68, Tryz.ntmps68
      go_wp2_with fail
      go_ret3
      exact ⟨.inr ⟨_, k + 2, ho.out, by omega, by omega, by omega, by first | rfl | (simp; done)⟩, by first | rfl | trivial⟩
    · have i2 : decide ((s.size : Int) ≤ (k : Int) + 1) = true := by rw [decide_eq_true_eq]; omega
      have ho : Hid (Gl.oneL ((bl s).drop k) = none) := by
        show _ = _
        rw [hd, show (bl s).drop (k + 1) = [] from List.drop_eq_nil_of_le (by rw [bl_length]; omega), oneL_end hc]
      clear hd
      go_enter Tryz.func68, Tryz.ntmps68
      go_wp2_with fail
      go_ret3
      exact ⟨.inl ⟨ho.out, by first | rfl | (simp; done)⟩, by first | rfl | trivial⟩
  · have t0 : (((s[k]).toNat : Int) != 92) = true := by
      simp only [bne_iff_ne, ne_eq]
      exact fun e => hc (UInt8.toNat_inj.1 (by rw [show (92 : UInt8).toNat = 92 from rfl]; omega))
    have ho : Hid (Gl.oneL ((bl s).drop k) = some (s[k], (bl s).drop (k + 1))) := by show _ = _; rw [hd, oneL_no hc]
    clear hd
    go_enter Tryz.func68, Tryz.ntmps68
    go_wp2_with fail
    go_ret3
    exact ⟨.inr ⟨_, k + 1, ho.out, by omega, by omega, by omega, by first | rfl | (simp; done)⟩, by first | rfl | trivial⟩

theorem pt_size : (Tryz.prog.info? 109).map (·.size) = some 2 := by kernel_rfl
theorem load_pt {w : World} {g : Nat} {a b : Value} (hg : Blk w g 109 #[a, b]) : (loadVar 109 ⟨g, 0, none⟩).run Tryz.prog w = .ok (.agg #[a, b]) w :=
  run_loadVar_row w g _ _ #[a, b] (0, 0) _ hg Tryz.underlying109 rfl pt_size
theorem results_pt {fn : Func} (hf : fn.results = #[.cell 4 109]) {tmps : Array Value} {w : World} {g : Nat} {a b : Value} (hp : tmps.getD 4 undef = .pointer (some ⟨g, 0, none⟩)) (hg : Blk w g 109 #[a, b]) :
    (results fn tmps).run Tryz.prog w = .ok (.agg #[a, b]) w := by
  have hp' : tmps[4]?.getD undef = .pointer (some ⟨g, 0, none⟩) := by simpa using hp
  simp [results, hf, hp', asAddr, load_pt hg]
/-- a part stored whole. -/
theorem wpList_store_pt {W : World} {ops : Array Oper} {rest : List Oper} {o : Oper} {a : Act} {Q : Exit → Act → World → Prop} (hgd : o.guard = none) (x y : Operand) (ho : o.op = .store 109 x y)
    (g : Nat) (u0 u1 : Value) (hx : a.eval x = .pointer (some ⟨g, 0, none⟩)) (hy : a.eval y = .agg #[u0, u1]) (p0 p1 : Value) (hg : Blk W g 109 #[p0, p1]) (h1 : (#[u0, u1] : Array Value).all (·.oneCell') = true)
    (hk : ∀ w', Blk w' g 109 #[u0, u1] → W.grownBy w' (some g) → w'.heap.size = W.heap.size → wpList Tryz.prog ops Q rest (a.put o.dst undef) w') : wpList Tryz.prog ops Q (o :: rest) a W :=
  wpList_store_row hgd 109 x y ho g #[u0, u1] hx hy _ #[p0, p1] hg pt_size rfl h1 (hk _ (setRow_heap W g _ _ _ _ hg) (setRow_grown _ _ _) (setRow_size _ _ _))
/-- a row of bools in the making, up to k. -/
def part_f (f : Nat → Bool) (k i : Nat) : Bool := if i < k then f i else false
theorem part_step (f : Nat → Bool) (k : Nat) (b : Bool) (hb : f k = b) (i : Nat) : (if i = k then b else part_f f k i) = part_f f (k + 1) i := by
  subst hb
  unfold part_f
  rcases Nat.lt_trichotomy i k with h | h | h
  · rw [if_neg (by omega), if_pos h, if_pos (by omega)]
  · rw [if_pos h, if_pos (by omega), h]
  · rw [if_neg (by omega), if_neg (by omega), if_neg (by omega)]
set_option maxRecDepth 100000 in
set_option maxHeartbeats 1000000 in
theorem single_any (c : UInt8) (all : Bool) (w : World) : Calls Tryz.prog 66 #[.int .u8 (c.toNat : Int), .bool all] w fun e w' => (∃ g, e = .returned (.agg #[.bool false, .slice (some ⟨g, 0, none⟩) 256 256]) ∧ w.heap.size ≤ g ∧ BF w' g 256 (fun k => all || k == c.toNat)) ∧ Below w.heap.size w w' := by
  have hcl : c.toNat < 256 := c.toNat_lt
  have hmk : ∀ W : World, (Instr.makeSlice 65 (.int .i64 256) (.int .i64 256)).run Tryz.prog W = .ok (.slice (some ⟨W.heap.size, 0, none⟩) 256 256) (W.alloc (.cells (madeCells #[.bool false] 256) 4)) := fun W => make_bf 256 (by decide) W
  obtain ⟨w1, hw1⟩ : ∃ w1, w.alloc (.cells #[.bool false, .slice none 0 0] 109) = w1 := ⟨_, rfl⟩
  have hP1 : Blk w1 w.heap.size 109 #[.bool false, .slice none 0 0] := by rw [← hw1]; exact Blk.new w _ _
  have hz1 : Hid (w1.heap.size = w.heap.size + 1) := by show _ = _; rw [← hw1, World.size_alloc]
  have hb1 : Below w.heap.size w w1 := by rw [← hw1]; exact (Below.refl _ w).alloc (Nat.le_refl _) _
  have HW1 := Lib.hid hw1
  clear hw1
  have h0 := BF.new w1 256
  obtain ⟨w2, hw2⟩ : ∃ w2, w1.alloc (.cells (madeCells #[.bool false] 256) 4) = w2 := ⟨_, rfl⟩
  have hP2 := hP1.alloc (.cells (madeCells #[.bool false] 256) 4)
  have hb2 := hb1.alloc hb1.size (.cells (madeCells #[.bool false] 256) 4)
  rw [hw2] at h0 hP2 hb2
  rw [hz1.out] at h0
  have HW2 := Lib.hid hw2
  clear hw2 hP1 hb1
  go_enter Tryz.func66, Tryz.ntmps66
  go_upto_region 1 with fail
  rw [HW1.out]
  go_upto_region 2 with fail
  rw [HW2.out, hz1.out]
  go_wp2_with fail
  go_loopw [6] (fun t6 wr => ∃ k : Nat, k ≤ 256 ∧ t6 = .int .i64 (k : Int) ∧ BF wr (w.heap.size + 1) 256 (part_f (fun k => all || k == c.toNat) k) ∧ Blk wr w.heap.size 109 #[.bool false, .slice none 0 0] ∧ Below w.heap.size w wr) (fun t6 _ => 256 - (intOf t6).toNat)
  case atStart => exact ⟨0, by omega, rfl, h0.congr fun i _ => by simp [part_f], hP2, hb2⟩
  case round =>
    clear h0 hP2 hb2 HW1 HW2
    obtain ⟨k, hk, rfl, hF, hP, hB⟩ := hrel
    have j0 : (0 : Int) ≤ (k : Int) := by omega
    rcases Nat.lt_or_ge k 256 with hkn | hkn
    · have i0 : decide ((k : Int) < 256) = true := by rw [decide_eq_true_eq]; omega
      have i1 : (k : Int) < 256 := by omega
      have c1 := hF.cell hkn
      have f1 := hF.frozen k
      have hn : ∀ b : Bool, (all || k == c.toNat) = b → BF (wr.setCell ⟨w.heap.size + 1, k, none⟩ (.bool b)) (w.heap.size + 1) 256 (part_f (fun k => all || k == c.toNat) (k + 1)) := fun b hb => (hF.set_ k b).congr fun i _ => part_step _ k b hb i
      have hPn : ∀ b : Bool, Blk (wr.setCell ⟨w.heap.size + 1, k, none⟩ (.bool b)) w.heap.size 109 #[.bool false, .slice none 0 0] := fun b => hP.grown (setCell_grown _ _ _) (by simp)
      have hBn : ∀ b : Bool, Below w.heap.size w (wr.setCell ⟨w.heap.size + 1, k, none⟩ (.bool b)) := fun b => hB.setCell (p := ⟨w.heap.size + 1, k, none⟩) (by show w.heap.size ≤ w.heap.size + 1; omega) _
      cases all with
      | true =>
        go_wp2_with fail
        go_roundw
        case rel => exact ⟨k + 1, by omega, by go_num, hn _ rfl, hPn _, hBn _⟩
        case measure => simp [intOf]; omega
      | false =>
        by_cases hkc : k = c.toNat
        · have t1 : ((k : Int) == (c.toNat : Int)) = true := by rw [hkc]; simp
          have t1n : Hid ((k == c.toNat) = true) := by show _ = _; rw [hkc]; simp
          clear hkc
          go_wp2_with fail
          go_roundw
          case rel => exact ⟨k + 1, by omega, by go_num, hn _ (by rw [t1n.out]; rfl), hPn _, hBn _⟩
          case measure => simp [intOf]; omega
        · have t1 : ((k : Int) == (c.toNat : Int)) = false := by simp; omega
          have t1n : (k == c.toNat) = false := by simp; omega
          go_wp2_with fail
          go_roundw
          case rel => exact ⟨k + 1, by omega, by go_num, hn _ (by rw [t1n]; rfl), hPn _, hBn _⟩
          case measure => simp [intOf]; omega
    · have i0 : decide ((k : Int) < 256) = false := by rw [decide_eq_false_iff_not]; omega
      have hk256 : k = 256 := by omega
      have hF2 : BF wr (w.heap.size + 1) 256 (fun k => all || k == c.toNat) := hF.congr fun i hi => by rw [part_f, if_pos (by omega)]
      clear hk256 hF
      go_wp2_with (refine wpList_store_pt rfl _ _ rfl w.heap.size _ _ rfl rfl _ _ hP (by simp [Value.oneCell']) ?_; intro wz hBz hgz hsz)
      refine bodyPost_ret (results_pt rfl rfl hBz) rfl ?_
      exact ⟨⟨w.heap.size + 1, rfl, by omega, hF2.grown hgz (by simp)⟩, hB.grown hgz hB.size (fun k e => by cases e; exact Nat.le_refl _)⟩
end Go.Proofs.YtdjfakampjbgeaaGreatDoor
