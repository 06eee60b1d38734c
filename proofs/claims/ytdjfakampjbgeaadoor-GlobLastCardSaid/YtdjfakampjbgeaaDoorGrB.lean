/- strataref02.byteAt, single, walked. -/
import Derived.Test.YtdjfakampjbgeaaDoorGrA
import Derived.WalkKit
import Derived.Deep.DeepCutAuto
namespace Go.Proofs.YtdjfakampjbgeaaDoor
open Go.RowKit

/-- what byteAt answers. -/
def ByteAns (s : ByteArray) (k : Nat) (e : Ending) : Prop :=
  (Gl.oneL ((bl s).drop k) = none ∧ e = .returned (.tuple #[.int .u8 0, .int .i64 (k : Int), .bool false])) ∨
  (∃ (c : UInt8) (n : Nat), Gl.oneL ((bl s).drop k) = some (c, (bl s).drop n) ∧ k < n ∧ n ≤ k + 2 ∧ n ≤ s.size ∧ e = .returned (.tuple #[.int .u8 (c.toNat : Int), .int .i64 (n : Int), .bool true]))
set_option maxRecDepth 100000 in
theorem byteAt_any (s : ByteArray) (k : Nat) (hs : s.size ≤ 2000000) (hk : k < s.size) (w : World) : Calls Tryd.prog 85 #[.string s, .int .i64 (k : Int)] w fun e w' => ByteAns s k e ∧ w = w' := by
  have hd := bl_drop_cons s k hk
  have j0 : (0 : Int) ≤ (k : Int) := by omega
  have i0 : (k : Int) < (s.size : Int) := by omega
  have i1 : decide ((s.size : Int) ≤ (k : Int)) = false := by rw [decide_eq_false_iff_not]; omega
  have i1n : decide (s.size ≤ k) = false := by rw [decide_eq_false_iff_not]; omega
  have hb : (s[k]).toNat < 256 := (s[k]).toNat_lt
  by_cases hc : s[k] = 92
  · have t0 : (((s[k]).toNat : Int) != 92) = false := by rw [hc]; rfl
    by_cases h2 : k + 1 < s.size
    · have i2 : decide ((s.size : Int) ≤ (k : Int) + 1) = false := by rw [decide_eq_false_iff_not]; omega
      have i3 : (k : Int) + 1 < (s.size : Int) := by omega
      have hb2 : (s[k + 1]).toNat < 256 := (s[k + 1]).toNat_lt
      have hd2 := bl_drop_cons s (k + 1) h2
      have ho : Hid (Gl.oneL ((bl s).drop k) = some (s[k + 1], (bl s).drop (k + 2))) := by show _ = _; rw [hd, hd2, oneL_esc hc]
      clear hd hd2
      go_enter Tryd.func85, Tryd.ntmps85
      go_wp2_with fail
      go_ret3
      exact ⟨.inr ⟨_, k + 2, ho.out, by omega, by omega, by omega, by first | rfl | (simp; done)⟩, by first | rfl | trivial⟩
    · have i2 : decide ((s.size : Int) ≤ (k : Int) + 1) = true := by rw [decide_eq_true_eq]; omega
      have ho : Hid (Gl.oneL ((bl s).drop k) = none) := by
        show _ = _
        rw [hd, show (bl s).drop (k + 1) = [] from List.drop_eq_nil_of_le (by rw [bl_length]; omega), oneL_end hc]
      clear hd
      go_enter Tryd.func85, Tryd.ntmps85
      go_wp2_with fail
      go_ret3
      exact ⟨.inl ⟨ho.out, by first | rfl | (simp; done)⟩, by first | rfl | trivial⟩
  · have t0 : (((s[k]).toNat : Int) != 92) = true := by
      simp only [bne_iff_ne, ne_eq]
      exact fun e => hc (UInt8.toNat_inj.1 (by rw [show (92 : UInt8).toNat = 92 from rfl]; omega))
    have ho : Hid (Gl.oneL ((bl s).drop k) = some (s[k], (bl s).drop (k + 1))) := by show _ = _; rw [hd, oneL_no hc]
    clear hd
    go_enter Tryd.func85, Tryd.ntmps85
    go_wp2_with fail
    go_ret3
    exact ⟨.inr ⟨_, k + 1, ho.out, by omega, by omega, by omega, by first | rfl | (simp; done)⟩, by first | rfl | trivial⟩

theorem pt_size : (Tryd.prog.info? 140).map (·.size) = some 2 := by kernel_rfl
theorem load_pt {w : World} {g : Nat} {a b : Value} (hg : Blk w g 140 #[a, b]) : (loadVar 140 ⟨g, 0, none⟩).run Tryd.prog w = .ok (.agg #[a, b]) w :=
  run_loadVar_row w g _ _ #[a, b] (0, 0) _ hg Tryd.underlying140 rfl pt_size
theorem results_pt {fn : Func} (hf : fn.results = #[.cell 4 140]) {tmps : Array Value} {w : World} {g : Nat} {a b : Value} (hp : tmps.getD 4 undef = .pointer (some ⟨g, 0, none⟩)) (hg : Blk w g 140 #[a, b]) :
    (results fn tmps).run Tryd.prog w = .ok (.agg #[a, b]) w := by
  have hp' : tmps[4]?.getD undef = .pointer (some ⟨g, 0, none⟩) := by simpa using hp
  simp [results, hf, hp', asAddr, load_pt hg]
/-- a part stored whole. -/
theorem wpList_store_pt {W : World} {ops : Array Oper} {rest : List Oper} {o : Oper} {a : Act} {Q : Exit → Act → World → Prop} (hgd : o.guard = none) (x y : Operand) (ho : o.op = .store 140 x y)
    (g : Nat) (u0 u1 : Value) (hx : a.eval x = .pointer (some ⟨g, 0, none⟩)) (hy : a.eval y = .agg #[u0, u1]) (p0 p1 : Value) (hg : Blk W g 140 #[p0, p1]) (h1 : (#[u0, u1] : Array Value).all (·.oneCell') = true)
    (hk : ∀ w', Blk w' g 140 #[u0, u1] → W.grownBy w' (some g) → w'.heap.size = W.heap.size → wpList Tryd.prog ops Q rest (a.put o.dst undef) w') : wpList Tryd.prog ops Q (o :: rest) a W :=
  wpList_store_row hgd 140 x y ho g #[u0, u1] hx hy _ #[p0, p1] hg pt_size rfl h1 (hk _ (setRow_heap W g _ _ _ _ hg) (setRow_grown _ _ _) (setRow_size _ _ _))
/-- a row of bools in the making, up to k. -/
def part_f (f : Nat → Bool) (k i : Nat) : Bool := if i < k then f i else false
theorem part_step (f : Nat → Bool) (k : Nat) (b : Bool) (hb : f k = b) (i : Nat) : (if i = k then b else part_f f k i) = part_f f (k + 1) i := by
  subst hb
  unfold part_f
  rcases Nat.lt_trichotomy i k with h | h | h
  · rw [if_neg (by omega), if_pos h, if_pos (by omega)]
  · rw [if_pos h, if_pos (by omega), h]
  · rw [if_neg (by omega), if_neg (by omega), if_neg (by omega)]
set_option maxRecDepth 100000 in
set_option maxHeartbeats 1000000 in
theorem single_any (c : UInt8) (all : Bool) (w : World) : Calls Tryd.prog 83 #[.int .u8 (c.toNat : Int), .bool all] w fun e w' => (∃ g, e = .returned (.agg #[.bool false, .slice (some ⟨g, 0, none⟩) 256 256]) ∧ w.heap.size ≤ g ∧ BF w' g 256 (fun k => all || k == c.toNat)) ∧ Below w.heap.size w w' := by
  have hcl : c.toNat < 256 := c.toNat_lt
  have hmk : ∀ W : World, (Instr.makeSlice 67 (.int .i64 256) (.int .i64 256)).run Tryd.prog W = .ok (.slice (some ⟨W.heap.size, 0, none⟩) 256 256) (W.alloc (.cells (madeCells #[.bool false] 256) 4)) := fun W => make_bf 256 (by decide) W
  obtain ⟨w1, hw1⟩ : ∃ w1, w.alloc (.cells #[.bool false, .slice none 0 0] 140) = w1 := ⟨_, rfl⟩
  have hP1 : Blk w1 w.heap.size 140 #[.bool false, .slice none 0 0] := by rw [← hw1]; exact Blk.new w _ _
  have hz1 : Hid (w1.heap.size = w.heap.size + 1) := by show _ = _; rw [← hw1, World.size_alloc]
  have hb1 : Below w.heap.size w w1 := by rw [← hw1]; exact (Below.refl _ w).alloc (Nat.le_refl _) _
  have HW1 := Lib.hid hw1
  clear hw1
  have h0 := BF.new w1 256
  obtain ⟨w2, hw2⟩ : ∃ w2, w1.alloc (.cells (madeCells #[.bool false] 256) 4) = w2 := ⟨_, rfl⟩
  have hP2 := hP1.alloc (.cells (madeCells #[.bool false] 256) 4)
  have hb2 := hb1.alloc hb1.size (.cells (madeCells #[.bool false] 256) 4)
  rw [hw2] at h0 hP2 hb2
  rw [hz1.out] at h0
  have HW2 := Lib.hid hw2
  clear hw2 hP1 hb1
  go_enter Tryd.func83, Tryd.ntmps83
  go_upto_region 1 with fail
  rw [HW1.out]
  go_upto_region 2 with fail
  rw [HW2.out, hz1.out]
  go_wp2_with fail
  go_loopw [6] (fun t6 wr => ∃ k : Nat, k ≤ 256 ∧ t6 = .int .i64 (k : Int) ∧ BF wr (w.heap.size + 1) 256 (part_f (fun k => all || k == c.toNat) k) ∧ Blk wr w.heap.size 140 #[.bool false, .slice none 0 0] ∧ Below w.heap.size w wr) (fun t6 _ => 256 - (intOf t6).toNat)
  case atStart => exact ⟨0, by omega, rfl, h0.congr fun i _ => by simp [part_f], hP2, hb2⟩
  case round =>
    clear h0 hP2 hb2 HW1 HW2
    obtain ⟨k, hk, rfl, hF, hP, hB⟩ := hrel
    have j0 : (0 : Int) ≤ (k : Int) := by omega
    rcases Nat.lt_or_ge k 256 with hkn | hkn
    · have i0 : decide ((k : Int) < 256) = true := by rw [decide_eq_true_eq]; omega
      have i1 : (k : Int) < 256 := by omega
      have c1 := hF.cell hkn
      have f1 := hF.frozen k
      have hn : ∀ b : Bool, (all || k == c.toNat) = b → BF (wr.setCell ⟨w.heap.size + 1, k, none⟩ (.bool b)) (w.heap.size + 1) 256 (part_f (fun k => all || k == c.toNat) (k + 1)) := fun b hb => (hF.set_ k b).congr fun i _ => part_step _ k b hb i
      have hPn : ∀ b : Bool, Blk (wr.setCell ⟨w.heap.size + 1, k, none⟩ (.bool b)) w.heap.size 140 #[.bool false, .slice none 0 0] := fun b => hP.grown (setCell_grown _ _ _) (by simp)
      have hBn : ∀ b : Bool, Below w.heap.size w (wr.setCell ⟨w.heap.size + 1, k, none⟩ (.bool b)) := fun b => hB.setCell (p := ⟨w.heap.size + 1, k, none⟩) (by show w.heap.size ≤ w.heap.size + 1; omega) _
      cases all with
      | true =>
        go_wp2_with fail
        go_roundw
        case rel => exact ⟨k + 1, by omega, by go_num, hn _ rfl, hPn _, hBn _⟩
        case measure => simp [intOf]; omega
      | false =>
        by_cases hkc : k = c.toNat
        · have t1 : ((k : Int) == (c.toNat : Int)) = true := by rw [hkc]; simp
          have t1n : Hid ((k == c.toNat) = true) := by show _ = _; rw [hkc]; simp
          clear hkc
          go_wp2_with fail
          go_roundw
          case rel => exact ⟨k + 1, by omega, by go_num, hn _ (by rw [t1n.out]; rfl), hPn _, hBn _⟩
          case measure => simp [intOf]; omega
        · have t1 : ((k : Int) == (c.toNat : Int)) = false := by simp; omega
          have t1n : (k == c.toNat) = false := by simp; omega
          go_wp2_with fail
          go_roundw
          case rel => exact ⟨k + 1, by omega, by go_num, hn _ (by rw [t1n]; rfl), hPn _, hBn _⟩
          case measure => simp [intOf]; omega
    · have i0 : decide ((k : Int) < 256) = false := by rw [decide_eq_false_iff_not]; omega
      have hk256 : k = 256 := by omega
      have hF2 : BF wr (w.heap.size + 1) 256 (fun k => all || k == c.toNat) := hF.congr fun i hi => by rw [part_f, if_pos (by omega)]
      clear hk256 hF
      go_wp2_with (refine wpList_store_pt rfl _ _ rfl w.heap.size _ _ rfl rfl _ _ hP (by simp [Value.oneCell']) ?_; intro wz hBz hgz hsz)
      refine bodyPost_ret (results_pt rfl rfl hBz) rfl ?_
      exact ⟨⟨w.heap.size + 1, rfl, by omega, hF2.grown hgz (by simp)⟩, hB.grown hgz hB.size (fun k e => by cases e; exact Nat.le_refl _)⟩
end Go.Proofs.YtdjfakampjbgeaaDoor
