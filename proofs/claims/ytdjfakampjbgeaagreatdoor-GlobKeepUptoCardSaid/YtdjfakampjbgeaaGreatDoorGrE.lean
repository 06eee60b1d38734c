/- strataref02.spread, Takes, walked. -/
import Derived.Test.YtdjfakampjbgeaaGreatDoorGrD
import Derived.RegionTactic
import Derived.ChangeAlike
namespace Go.Proofs.YtdjfakampjbgeaaGreatDoor
open Go.RowKit

theorem grown_weak {W X : World} (h : W.grownBy X none) (r : Option Nat) : W.grownBy X r := ⟨h.os, h.tape, h.output, h.size, fun k hk _ => h.block k hk (by simp)⟩
/-- spread up to k. -/
def spr (f : Nat → Bool) (k i : Nat) : Bool := if i < k then Gm.upto f i else f i
theorem spr_one (f : Nat → Bool) (i : Nat) : f i = spr f 1 i := by
  unfold spr
  split
  · obtain rfl : i = 0 := by omega
    rw [Gm.upto_zero]
  · rfl
theorem spr_step (f : Nat → Bool) (k : Nat) (b : Bool) (hb : Gm.upto f k = b) (i : Nat) : (if i = k then b else spr f k i) = spr f (k + 1) i := by
  subst hb
  unfold spr
  rcases Nat.lt_trichotomy i k with h | h | h
  · rw [if_neg (by omega), if_pos h, if_pos (by omega)]
  · rw [if_pos h, if_pos (by omega), h]
  · rw [if_neg (by omega), if_neg (by omega), if_neg (by omega)]
set_option maxRecDepth 100000 in
set_option maxHeartbeats 1000000 in
theorem spread_any (g n : Nat) (f : Nat → Bool) (w : World) (h : BF w g n f) (hn : n ≤ 100000000) (hn1 : 1 ≤ n) :
    Calls Tryz.prog 98 #[.slice (some ⟨g, 0, none⟩) n n] w fun e w' => e = .returned (.tuple #[]) ∧ BF w' g n (Gm.upto f) ∧ w.grownBy w' (some g) := by
  go_enter Tryz.func98, Tryz.ntmps98
  go_wp2_with fail
  go_loopw [2] (fun t2 wr => ∃ k : Nat, 1 ≤ k ∧ k ≤ n ∧ t2 = .int .i64 (k : Int) ∧ BF wr g n (spr f k) ∧ w.grownBy wr (some g)) (fun t2 _ => n - (intOf t2).toNat)
  case atStart => exact ⟨1, Nat.le_refl _, hn1, rfl, h.congr fun i _ => spr_one f i, World.grownBy.refl _ _⟩
  case round =>
    clear h
    obtain ⟨k, hk1, hk, rfl, hF, hG⟩ := hrel
    have j0 : (1 : Int) ≤ (k : Int) := by omega
    rcases Nat.lt_or_ge k n with hkn | hkn
    · have i0 : decide ((k : Int) < (n : Int)) = true := by rw [decide_eq_true_eq]; omega
      have i0n : decide (k < n) = true := by rw [decide_eq_true_eq]; omega
      have i1 : (k : Int) < (n : Int) := by omega
      have i2 : (0 : Int) ≤ (k : Int) - 1 := by omega
      have i3 : (k : Int) - 1 < (n : Int) := by omega
      have c1 := hF.cell hkn
      have c0 := hF.cell (i := k - 1) (by omega)
      have f1 := hF.frozen k
      have e1 : spr f k k = f k := by rw [spr, if_neg (by omega)]
      have e0 : spr f k (k - 1) = Gm.upto f (k - 1) := by rw [spr, if_pos (by omega)]
      have e2 : Gm.upto f k = (f k || Gm.upto f (k - 1)) := by
        obtain ⟨m, rfl⟩ : ∃ m, k = m + 1 := ⟨k - 1, by omega⟩
        rw [Gm.upto_succ]
        rfl
      rw [e1] at c1
      rw [e0] at c0
      obtain ⟨x, hx⟩ : ∃ x, f k = x := ⟨_, rfl⟩
      obtain ⟨y, hy⟩ : ∃ y, Gm.upto f (k - 1) = y := ⟨_, rfl⟩
      rw [hx] at c1 e2
      rw [hy] at c0 e2
      have hn2 : ∀ b : Bool, (x || y) = b → BF (wr.setCell ⟨g, k, none⟩ (.bool b)) g n (spr f (k + 1)) := fun b hb => (hF.set_ k b).congr fun i _ => spr_step f k b (by rw [e2, hb]) i
      have hGn : ∀ b : Bool, w.grownBy (wr.setCell ⟨g, k, none⟩ (.bool b)) (some g) := fun b => grown_some hG (setCell_grown wr ⟨g, k, none⟩ _) (.inl rfl)
      clear e0 e1 e2 hx hy
      cases x <;> cases y <;> (
        go_wp2_with fail
        go_roundw
        case rel => exact ⟨k + 1, by omega, by omega, by go_num, hn2 _ rfl, hGn _⟩
        case measure => simp [intOf]; omega)
    · have i0 : decide ((k : Int) < (n : Int)) = false := by rw [decide_eq_false_iff_not]; omega
      have i0n : decide (k < n) = false := by rw [decide_eq_false_iff_not]; omega
      have hF2 : BF wr g n (Gm.upto f) := hF.congr fun i hi => by rw [spr, if_pos (by omega)]
      clear hF
      go_wp2_with fail
      refine bodyPost_end (results_none rfl _ _ _) rfl ?_
      exact ⟨rfl, hF2, hG⟩

/-- whichever part is next. -/
theorem reach_part {ms : List Gl.Mk} {k : Nat} (hk : k < ms.length) (s : List UInt8) (h : ms[k].any = true) (i : Nat) (hi : i ≤ s.length) : Gm.upto (Gm.reach Gl.Mk.any Gl.Mk.takes (ms.take k) s) i = Gm.reach Gl.Mk.any Gl.Mk.takes (ms.take (k + 1)) s i := by
  rw [List.take_add_one, List.getElem?_eq_getElem hk]
  exact (Gm.reach_any Gl.Mk.any Gl.Mk.takes h _ s hi).symm
set_option maxRecDepth 100000 in
set_option maxHeartbeats 4000000 in
theorem takesR_any (p s : ByteArray) (hp : p.size ≤ 2000000) (hs : s.size ≤ 2000000) {ms : List Gl.Mk} (H : Hid (Gl.pieceL (bl p) = some ms)) {b : Bool} (hres : Hid (Gl.takesName ms (bl s) = b)) (w : World) :
    Calls Tryz.prog 99 #[.string p, .string s] w fun e w' => e = .returned (.bool b) ∧ Below w.heap.size w w' := by
  have hml : ms.length ≤ 2000000 := by have := (Gl.pieceL_len H.out).2; rw [bl_length] at this; omega
  have hmk := make_bf (s.size + 1) (by omega)
  have hmk' : ∀ W : World, (Instr.makeSlice 65 (.int .i64 ((s.size : Int) + 1)) (.int .i64 ((s.size : Int) + 1))).run Tryz.prog W = .ok (.slice (some ⟨W.heap.size, 0, none⟩) (s.size + 1) (s.size + 1)) (W.alloc (.cells (madeCells #[.bool false] (s.size + 1)) 4)) := fun W => hmk W
  clear hmk
  go_enter Tryz.func99, Tryz.ntmps99
  go_wp2_with fail
  refine (parts_any p hp _).mono ?_
  rintro e w1 ⟨hS, b1⟩
  rcases hS with ⟨hno, rfl⟩ | ⟨ms', v, hso, rfl, hT⟩
  · rw [H.out] at hno; cases hno
  · rw [H.out] at hso
    obtain rfl : ms = ms' := by injection hso
    clear hso H
    obtain ⟨A, cc, rfl⟩ := hT.form
    have HT : Hid (RT w1 (· < w1.heap.size) (.slice A ms.length cc) ms) := hT.keep (fun g hs _ => ⟨rfl, hs.2⟩)
    clear hT
    have hN := BF.new w1 (s.size + 1)
    have hbN := (Below.refl w1.heap.size w1).alloc (Nat.le_refl _) (.cells (madeCells #[.bool false] (s.size + 1)) 4)
    obtain ⟨w2, hw2⟩ : ∃ w2, w1.alloc (.cells (madeCells #[.bool false] (s.size + 1)) 4) = w2 := ⟨_, rfl⟩
    rw [hw2] at hN hbN
    have HW2 := Lib.hid hw2
    clear hw2
    have c0 := hN.cell (i := 0) (by omega)
    have f0 := hN.frozen 0
    have hR0 : BF (w2.setCell ⟨w1.heap.size, 0, none⟩ (.bool true)) w1.heap.size (s.size + 1) (Gm.reach Gl.Mk.any Gl.Mk.takes (ms.take 0) (bl s)) := (hN.set_ 0 true).congr fun i hi => by
      rw [List.take_zero, Gm.reach_nil _ _ _ (by rw [bl_length]; omega)]
      by_cases h : i = 0
      · rw [if_pos h]; simp [h]
      · rw [if_neg h]; simp [h]
    have hB0 := hbN.setCell (p := ⟨w1.heap.size, 0, none⟩) (Nat.le_refl _) (.bool true)
    have j0 : (0 : Int) < (s.size : Int) + 1 := by omega
    have jn : (s.size : Int) < (s.size : Int) + 1 := by omega
    clear hN hbN
    go_upto_region 2 with fail
    go_upto_region 3 with fail
    rw [HW2.out]
    go_wp2_with fail
    clear c0 f0 HW2
    go_loopw [7, 8, 9, 10] (fun t7 t8 _ _ wr => ∃ (k gc : Nat), k ≤ ms.length ∧ t7 = .slice (some ⟨gc, 0, none⟩) (s.size + 1) (s.size + 1) ∧ t8 = .int .i64 (k : Int) ∧ w1.heap.size ≤ gc ∧ BF wr gc (s.size + 1) (Gm.reach Gl.Mk.any Gl.Mk.takes (ms.take k) (bl s)) ∧ Below w1.heap.size w1 wr) (fun _ t8 _ _ _ => ms.length - (intOf t8).toNat)
    case atStart => exact ⟨0, _, by omega, rfl, rfl, Nat.le_refl _, hR0, hB0⟩
    case round =>
      clear hR0 hB0
      obtain ⟨k, gc, hk, rfl, rfl, hgc, hR, hB⟩ := hrel
      have jk : (0 : Int) ≤ (k : Int) := by omega
      rcases Nat.lt_or_ge k ms.length with hkn | hkn
      · have i0 : decide ((k : Int) < (ms.length : Int)) = true := by rw [decide_eq_true_eq]; omega
        have i0n : decide (k < ms.length) = true := by rw [decide_eq_true_eq]; omega
        have i1 : (k : Int) < (ms.length : Int) := by omega
        have hT := HT.out.keep (Lies.of_below hB)
        obtain ⟨g, o, c, v, hvm, hgS, c0, c1, hv⟩ := hT.at_ hkn
        obtain ⟨hA, hcc⟩ : A = some ⟨g, o, none⟩ ∧ cc = c := by injection hvm with e1 _ e3; exact ⟨e1, e3⟩
        subst hA hcc
        clear hvm hT
        by_cases hany : ms[k].any = true
        · rw [hany] at c0
          have HANY := Lib.hid hany
          clear hany hv c1
          go_wp2_with fail
          refine (spread_any gc (s.size + 1) _ _ hR (by omega) (by omega)).mono ?_
          rintro e w7 ⟨rfl, hR7, hG7⟩
          have hR8 : BF w7 gc (s.size + 1) (Gm.reach Gl.Mk.any Gl.Mk.takes (ms.take (k + 1)) (bl s)) := hR7.congr fun i hi => reach_part hkn (bl s) HANY.out i (by rw [bl_length]; omega)
          have hB7 := hB.grown hG7 hB.size (fun k e => by cases e; exact hgc)
          clear hR hR7 c0
          go_wp2_with fail
          go_roundw
          case rel => exact ⟨k + 1, gc, by omega, rfl, by go_num, hgc, hR8, hB7⟩
          case measure => simp [intOf]; omega
        · have hany' : ms[k].any = false := by simpa using hany
          rw [hany'] at c0
          obtain ⟨gh, rfl, hgh, hH⟩ := hv hany'
          have HANY := Lib.hid hany'
          clear hany hany' hv
          have hN := BF.new wr (s.size + 1)
          have hBN := hB.alloc hB.size (.cells (madeCells #[.bool false] (s.size + 1)) 4)
          have hRN : BF (wr.alloc (.cells (madeCells #[.bool false] (s.size + 1)) 4)) gc (s.size + 1) _ := Blk.alloc hR _
          have hgcl := hR.lt
          have hwr := hB.size
          have hN' : BF (wr.alloc (.cells (madeCells #[.bool false] (s.size + 1)) 4)) wr.heap.size (s.size + 1) (part_f (Gm.reach Gl.Mk.any Gl.Mk.takes (ms.take (k + 1)) (bl s)) 1) := hN.congr fun i _ => by
            unfold part_f
            split
            · obtain rfl : i = 0 := by omega
              rw [List.take_add_one, List.getElem?_eq_getElem hkn]
              exact (Gm.reach_zero _ _ HANY.out _ _).symm
            · rfl
          have hstep : Hid (∀ i (hi : i < s.size), Gm.reach Gl.Mk.any Gl.Mk.takes (ms.take (k + 1)) (bl s) (i + 1) = (Gm.reach Gl.Mk.any Gl.Mk.takes (ms.take k) (bl s) i && mf ms[k] (s[i]).toNat)) := fun i hi => by
            rw [mf_at, List.take_add_one, List.getElem?_eq_getElem hkn]
            exact Gm.reach_succ _ _ HANY.out _ _ (by rw [bl_length]; exact hi)
          obtain ⟨F, hF⟩ : ∃ F, Gm.reach Gl.Mk.any Gl.Mk.takes (ms.take k) (bl s) = F := ⟨_, rfl⟩
          obtain ⟨F2, hF2⟩ : ∃ F, Gm.reach Gl.Mk.any Gl.Mk.takes (ms.take (k + 1)) (bl s) = F := ⟨_, rfl⟩
          rw [hF, hF2] at hstep
          rw [hF] at hRN
          rw [hF2] at hN'
          have HF2 := Lib.hid hF2
          clear hF hF2 hR hN
          obtain ⟨w5, hw5⟩ : ∃ w5, wr.alloc (.cells (madeCells #[.bool false] (s.size + 1)) 4) = w5 := ⟨_, rfl⟩
          rw [hw5] at hRN hN' hBN
          have HW5 := Lib.hid hw5
          clear hw5
          obtain ⟨g2, hg2⟩ : ∃ g2, wr.heap.size = g2 := ⟨_, rfl⟩
          have hg2' : gc < g2 := by omega
          have hg2w : w1.heap.size ≤ g2 := by omega
          rw [hg2] at hN'
          have HG2 := Lib.hid hg2
          have hH0 := Lib.hid hH
          have hc1 := Lib.hid c1
          have HBr := Lib.hid hB
          clear hg2 hH hgcl hwr hB
          go_upto_region 10 with fail
          rw [HW5.out, HG2.out]
          go_wp2_with fail
          clear c0 c1
          go_loopw [10] (fun t10 wr => ∃ i : Nat, i ≤ s.size ∧ t10 = .int .i64 (i : Int) ∧ BF wr g2 (s.size + 1) (part_f F2 (i + 1)) ∧ BF wr gc (s.size + 1) F ∧ Below w1.heap.size w1 wr) (fun t10 _ => s.size - (intOf t10).toNat)
          case atStart => exact ⟨0, by omega, rfl, hN', hRN, hBN⟩
          case round =>
            clear hN' hRN hBN
            obtain ⟨i, hi, rfl, hN, hR, hB⟩ := hrel
            have ji : (0 : Int) ≤ (i : Int) := by omega
            rcases Nat.lt_or_ge i s.size with hin | hin
            · have i2 : decide ((i : Int) < (s.size : Int)) = true := by rw [decide_eq_true_eq]; omega
              have i2n : decide (i < s.size) = true := by rw [decide_eq_true_eq]; omega
              have i3 : (i : Int) < (s.size : Int) := by omega
              have i4 : (i : Int) < (s.size : Int) + 1 := by omega
              have i5 : (i : Int) + 1 < (s.size : Int) + 1 := by omega
              have hby : (s[i]).toNat < 256 := (s[i]).toNat_lt
              have hT := HT.out.keep (Lies.of_below hB)
              obtain ⟨g', o', c', v', hvm, _, _, c1, hv⟩ := hT.at_ hkn
              obtain ⟨rfl, rfl, rfl⟩ : g = g' ∧ o = o' ∧ cc = c' := by injection hvm with e1 _ e3; injection e1 with e1; injection e1 with e1 e2; exact ⟨e1, e2, e3⟩
              obtain ⟨gh', rfl, hgh', hH⟩ := hv HANY.out
              have c2 := hH.cell hby
              have c3 := hR.cell (i := i) (by omega)
              have c4 := hN.cell (i := i + 1) (by omega)
              have f4 := hN.frozen (i + 1)
              have hst := hstep.out i hin
              obtain ⟨x, hx⟩ : ∃ x, F i = x := ⟨_, rfl⟩
              obtain ⟨y, hy⟩ : ∃ y, mf ms[k] (s[i]).toNat = y := ⟨_, rfl⟩
              rw [hx] at c3 hst
              rw [hy] at c2 hst
              have hn2 : ∀ b : Bool, (x && y) = b → BF (wr.setCell ⟨g2, i + 1, none⟩ (.bool b)) g2 (s.size + 1) (part_f F2 (i + 1 + 1)) := fun b hb => (hN.set_ (i + 1) b).congr fun j _ => part_step F2 (i + 1) b (by rw [hst, hb]) j
              have hRn : ∀ b : Bool, BF (wr.setCell ⟨g2, i + 1, none⟩ (.bool b)) gc (s.size + 1) F := fun b => hR.grown (setCell_grown wr ⟨g2, i + 1, none⟩ _) (fun e => by injection e with e; have : g2 = gc := e; omega)
              have hBn : ∀ b : Bool, Below w1.heap.size w1 (wr.setCell ⟨g2, i + 1, none⟩ (.bool b)) := fun b => hB.setCell (p := ⟨g2, i + 1, none⟩) hg2w _
              clear hx hy hst hT hvm hv hH hstep hN hR hB hH0 hc1 HBr HF2
              cases x <;> cases y <;> (
                go_upto_region 13 with fail
                go_region
                go_wp2_with fail
                go_roundw
                case rel => exact ⟨i + 1, by omega, by go_num, hn2 _ rfl, hRn _, (hBn _).drew⟩
                case measure => simp [intOf]; omega)
            · have i2 : decide ((i : Int) < (s.size : Int)) = false := by rw [decide_eq_false_iff_not]; omega
              have i2n : decide (i < s.size) = false := by rw [decide_eq_false_iff_not]; omega
              have hN2 : BF wr g2 (s.size + 1) (Gm.reach Gl.Mk.any Gl.Mk.takes (ms.take (k + 1)) (bl s)) := by
                rw [HF2.out]
                exact hN.congr fun j hj => by rw [part_f, if_pos (by omega)]
              clear hN hR hstep hH0 hc1 HBr HF2
              go_wp2_with fail
              go_roundw
              case rel => exact ⟨k + 1, g2, by omega, rfl, by go_num, hg2w, hN2, hB⟩
              case measure => simp [intOf]; omega
      · have i0 : decide ((k : Int) < (ms.length : Int)) = false := by rw [decide_eq_false_iff_not]; omega
        have i0n : decide (k < ms.length) = false := by rw [decide_eq_false_iff_not]; omega
        have c1 := hR.cell (i := s.size) (by omega)
        rw [List.take_of_length_le hkn, show s.size = (bl s).length from (bl_length s).symm, Gm.reach_end, show Gm.mm Gl.Mk.any Gl.Mk.takes ms (bl s) = b from hres.out, bl_length] at c1
        clear hR
        go_wp2_with fail
        go_ret
        exact ⟨by first | rfl | (simp; done), below_of_below b1 hB b1.size⟩
end Go.Proofs.YtdjfakampjbgeaaGreatDoor
