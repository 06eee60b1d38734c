/- stratalaw05.UstarTrees, walked: of all inputs, true. -/
import Derived.Test.YtfhfahlocpmdkaaDoorUsTe
import Derived.Test.YtfhfahlocpmdkaaDoorUsVe
import Derived.Test.YtfhfahlocpmdkaaDoorUsY
import Derived.Deep.RegionHeld3
import Derived.Deep.QuietTactic
import Derived.BigQuiet
namespace Go.Proofs.YtfhfahlocpmdkaaDoor
open Go.RowKit
attribute [local go_sem ↓] Go.wp_at_zero Go.wp_at_succ

theorem enc_zero {h : Us.Hd} (hb : Us.badText h = false) (hs : ∃ q, Us.split h.path = some q) (hl : h.link.length ≤ 100) (hg : Us.goodNums h = true) : ∃ B, Us.enc h = (0, B) ∧ B.length = 512 ∧ Us.dec B = (0, h) := by
  rcases enc_cases h with h1 | ⟨N, hN, e⟩
  · exact h1
  · exfalso
    obtain ⟨⟨p, n⟩, hq⟩ := hs
    have : (Us.enc h).1 = 0 := by
      rw [Us.enc, if_neg (by simp [hb]), hq]
      simp only []
      rw [if_neg (by omega), if_pos hg]
    rw [e] at this
    exact hN this
/-- the whiteout's header. -/
def whH (p : List UInt8) : Us.Hd := ⟨Us.white p, 0, 0, 0, 0, 0, 48, [], [], [], 0, 0⟩
theorem whH_good {p : List UInt8} (h : Us.checkN p = 0) : ∃ B, Us.enc (whH p) = (0, B) ∧ B.length = 512 ∧ Us.dec B = (0, whH p) := by
  obtain ⟨_, _, h3, h4⟩ := Us.check_good h
  refine enc_zero ?_ h4 (by simp [whH]) (by simp [Us.goodNums, whH, Us.in_])
  simp only [Us.badText, whH, h3]
  rfl
theorem ofH_good {x : En} (h : Us.checkN x.path = 0) (k1 : ¬ x.kind < 1) (k2 : ¬ 3 < x.kind) (m1 : ¬ x.mode < 0) (m2 : ¬ 4095 < x.mode) (l1 : x.link.length ≤ 100) (l0 : Us.has0 x.link = false) (hd : (bs x.data).size ≤ 1048576) :
    (∃ B, Us.enc (ofH x) = (0, B) ∧ B.length = 512 ∧ Us.dec B = (0, ofH x)) ∧ (ofH x).path = x.path := by
  obtain ⟨h1, h2, _, _⟩ := Us.check_good h
  have i1 : ∀ y : Int, 0 ≤ y → y ≤ 2097151 → Us.in_ y 2097151 = true := fun y a b => by simp [Us.in_, a, b]
  have i2 : ∀ y : Int, 0 ≤ y → y ≤ 8589934591 → Us.in_ y 8589934591 = true := fun y a b => by simp [Us.in_, a, b]
  have j1 := i1 x.mode (by omega) (by omega)
  have j2 := i2 ((bs x.data).size : Int) (by omega) (by omega)
  have z : (0 : Int) ≤ ((bs x.data).size : Int) := by omega
  rcases (show x.kind = 1 ∨ x.kind = 2 ∨ x.kind = 3 by omega) with q | q | q
  · have e : ofH x = ⟨x.path, x.mode, 0, 0, 0, 0, 53, [], [], [], 0, 0⟩ := by rw [ofH, if_pos q]
    rw [e]
    refine ⟨enc_zero ?_ h2 (by simp) ?_, rfl⟩
    · simp only [Us.badText, h1]; rfl
    · simp only [Us.goodNums, j1]; rfl
  · have e : ofH x = ⟨x.path, x.mode, 0, 0, ((bs x.data).size : Int), 0, 48, [], [], [], 0, 0⟩ := by rw [ofH, if_neg (by omega), if_pos q]
    rw [e]
    refine ⟨enc_zero ?_ h2 (by simp) ?_, rfl⟩
    · simp only [Us.badText, h1]; rfl
    · simp only [Us.goodNums, j1, j2]; rfl
  · have e : ofH x = ⟨x.path, 511, 0, 0, 0, 0, 50, x.link, [], [], 0, 0⟩ := by rw [ofH, if_neg (by omega), if_neg (by omega), if_pos q]
    rw [e]
    refine ⟨enc_zero ?_ h2 l1 (by simp [Us.goodNums, Us.in_]), rfl⟩
    simp only [Us.badText, h1, l0]; rfl
theorem ofH_short {x : En} (hx : EnShort x) : Short (ofH x) := by
  have a := hx.path
  have b := hx.link
  have n : (bs ([] : List UInt8)).size = 0 := rfl
  unfold ofH
  split
  · exact ⟨(by show (bs x.path).size ≤ _; omega), by simp [n], by simp [n], by simp [n]⟩
  · split
    · exact ⟨(by show (bs x.path).size ≤ _; omega), by simp [n], by simp [n], by simp [n]⟩
    · split
      · exact ⟨(by show (bs x.path).size ≤ _; omega), (by show (bs x.link).size ≤ _; omega), by simp [n], by simp [n]⟩
      · exact ⟨by simp [Us.hd0, n], by simp [Us.hd0, n], by simp [Us.hd0, n], by simp [Us.hd0, n]⟩
theorem whH_short {x : En} (hx : EnShort x) : Short (whH x.path) := by
  have a := hx.path
  have z1 := parent_size (bs x.path)
  have z2 := last_size (bs x.path)
  rw [bl_bs] at z1 z2
  refine ⟨?_, by simp [whH, bs_size], by simp [whH, bs_size], by simp [whH, bs_size]⟩
  simp only [bs_size] at *
  simp only [whH, Us.white, Us.join]
  split
  · simp [Us.wh]; omega
  · simp [Us.wh]; omega
theorem check_hid (s : ByteArray) (w : World) (hs : s.size ≤ 100000000) {C : Int} (h : Hid (((Us.checkN (bl s) : Nat) : Int) = C)) : Calls Tryd.prog 30 #[.string s] w fun e w' => e = .returned (.int .i64 C) ∧ Below w.heap.size w w' := by
  have := check_any s w hs
  rwa [h.out] at this
theorem new_en (w : World) (x : En) {w1 : World} (b : Below (w.alloc (.cells (enC x) 50)).heap.size (w.alloc (.cells (enC x) 50)) w1) : Blk w1 w.heap.size 50 (enC x) ∧ Below w.heap.size w w1 :=
  ⟨(Blk.new _ _ _).below b (by simp), ((Below.refl _ _).alloc (Nat.le_refl _) _).trans (b.mono (by simp))⟩
theorem join_w (l : List UInt8) (w : World) (h : (bs l).size ≤ 1000000000) : Calls Tryd.prog 31 #[.string (bs (Us.parent (bl (bs l)))), .string (⟨#[46, 119, 104, 46]⟩ ++ bs (Us.last (bl (bs l))))] w fun e w' => e = .returned (.string (bs (Us.white l))) ∧ w = w' := by
  have z1 := parent_size (bs l)
  have z2 := last_size (bs l)
  have z3 : (⟨#[46, 119, 104, 46]⟩ ++ bs (Us.last (bl (bs l))) : ByteArray).size ≤ 1000000100 := by
    rw [ByteArray.size_append]
    have : (⟨#[46, 119, 104, 46]⟩ : ByteArray).size = 4 := rfl
    omega
  have := join_x (Us.parent (bl (bs l))) (⟨#[46, 119, 104, 46]⟩ ++ bs (Us.last (bl (bs l)))) w (by omega) z3
  have e : Us.join (Us.parent (bl (bs l))) (bl (⟨#[46, 119, 104, 46]⟩ ++ bs (Us.last (bl (bs l))))) = Us.white l := by rw [bl_append]; rfl
  rwa [e] at this
set_option maxRecDepth 100000 in
set_option maxHeartbeats 8000000 in
theorem lawTrees (x : En) (w : World) (hx : EnShort x) (hg : ErrVar w) : Calls Tryd.prog 12 #[.agg (enC x)] w fun e w' => e = .returned (.bool true) ∧ Below w.heap.size w w' := by
  have HG := Lib.hid hg
  obtain ⟨x1, x2, x3⟩ := hx
  have HX : Hid (EnShort x) := ⟨x1, x2, x3⟩
  obtain ⟨C, hC⟩ : ∃ C : Int, ((Us.checkN (bl (bs x.path)) : Nat) : Int) = C := ⟨_, rfl⟩
  have HC := Lib.hid hC
  clear hg hC
  unfold enC
  go_enter Tryd.func12, Tryd.ntmps12
  go_wp2_with fail
  refine (check_hid _ _ (by omega) HC).mono ?_
  rintro e w1 ⟨rfl, b1⟩
  obtain ⟨hE, B1⟩ := new_en w x b1
  have G1 := HG.out.below B1 HG.out.lt
  clear b1
  have c0 : w1.cell? ⟨w.heap.size, 0, none⟩ = some (.string (bs x.path)) := hE.cell 0
  have c1 : w1.cell? ⟨w.heap.size, 1, none⟩ = some (.int .i64 x.kind) := hE.cell 1
  have c2 : w1.cell? ⟨w.heap.size, 2, none⟩ = some (.int .i64 x.mode) := hE.cell 2
  have c3 : w1.cell? ⟨w.heap.size, 3, none⟩ = some (.string (bs x.data)) := hE.cell 3
  have c4 : w1.cell? ⟨w.heap.size, 4, none⟩ = some (.string (bs x.link)) := hE.cell 4
  have d6 : decide ((1048576 : Int) < ((bs x.data).size : Int)) = false := by simp; omega
  by_cases q0 : C = 0
  · have t0 : (C != 0) = false := by simp [q0]
    by_cases q1 : x.kind < 1
    · have t1 : decide (x.kind < 1) = true := by simpa using q1
      go_wp2_with (go_at_call 16; refine (works_any _ G1).mono ?_; rintro e w5 ⟨rfl, b5⟩)
      go_ret
      exact ⟨rfl, below_of_below B1 b5 B1.size⟩
    · have t1 : decide (x.kind < 1) = false := by simpa using q1
      by_cases q2 : 3 < x.kind
      · have t2 : decide (3 < x.kind) = true := by simpa using q2
        go_wp2_with (go_at_call 16; refine (works_any _ G1).mono ?_; rintro e w5 ⟨rfl, b5⟩)
        go_ret
        exact ⟨rfl, below_of_below B1 b5 B1.size⟩
      · have t2 : decide (3 < x.kind) = false := by simpa using q2
        by_cases q3 : x.mode < 0
        · have t3 : decide (x.mode < 0) = true := by simpa using q3
          go_wp2_with (go_at_call 16; refine (works_any _ G1).mono ?_; rintro e w5 ⟨rfl, b5⟩)
          go_ret
          exact ⟨rfl, below_of_below B1 b5 B1.size⟩
        · have t3 : decide (x.mode < 0) = false := by simpa using q3
          by_cases q4 : 4095 < x.mode
          · have t4 : decide (4095 < x.mode) = true := by simpa using q4
            go_wp2_with (go_at_call 16; refine (works_any _ G1).mono ?_; rintro e w5 ⟨rfl, b5⟩)
            go_ret
            exact ⟨rfl, below_of_below B1 b5 B1.size⟩
          · have t4 : decide (4095 < x.mode) = false := by simpa using q4
            by_cases q5 : 100 < (bs x.link).size
            · have t5 : decide ((100 : Int) < ((bs x.link).size : Int)) = true := by simp; omega
              go_wp2_with (go_at_call 16; refine (works_any _ G1).mono ?_; rintro e w5 ⟨rfl, b5⟩)
              go_ret
              exact ⟨rfl, below_of_below B1 b5 B1.size⟩
            · have t5 : decide ((100 : Int) < ((bs x.link).size : Int)) = false := by simp; omega
              go_wp2_with fail
              go_loop [3] (fun i => ∃ k : Nat, k ≤ (bs x.link).size ∧ i = .int .i64 (k : Int) ∧ Hid (Us.has0 x.link = Us.has0 (x.link.drop k))) (fun i => (bs x.link).size - (intOf i).toNat)
              case atStart => exact ⟨0, by omega, rfl, rfl⟩
              case round =>
                obtain ⟨k, hk, rfl, hrec⟩ := hrel
                have i1 : (0 : Int) ≤ (k : Int) := by omega
                by_cases hks : k < (bs x.link).size
                · have hb : ((bs x.link)[k]).toNat < 256 := ((bs x.link)[k]).toNat_lt
                  have i2 : (k : Int) < ((bs x.link).size : Int) := by omega
                  have hst : Us.has0 (x.link.drop k) = (((bs x.link)[k]).toNat == 0 || Us.has0 (x.link.drop (k + 1))) := by
                    have := bl_drop_cons (bs x.link) k hks
                    rw [bl_bs] at this
                    rw [this, Us.has0, List.any_cons]; rfl
                  by_cases h0 : ((bs x.link)[k]).toNat = 0
                  · have t7 : ((((bs x.link)[k]).toNat : Int) == 0) = true := by simp [h0]
                    clear hst h0 hrec
                    go_wp2_with (go_at_call 16; refine (works_any _ G1).mono ?_; rintro e w5 ⟨rfl, b5⟩)
                    go_ret
                    exact ⟨rfl, below_of_below B1 b5 B1.size⟩
                  · have t7 : ((((bs x.link)[k]).toNat : Int) == 0) = false := by simp; omega
                    have HN : Hid (Us.has0 x.link = Us.has0 (x.link.drop (k + 1))) := by show _ = _; rw [hrec.out, hst, beq_false_of_ne h0]; rfl
                    clear hst h0 hrec
                    go_wp2_with fail
                    go_round
                    case rel => exact ⟨k + 1, by omega, by go_num, HN⟩
                    case measure => simp [intOf]; omega
                · have i2 : decide ((k : Int) < ((bs x.link).size : Int)) = false := by simp; omega
                  have hl0 : Us.has0 x.link = false := by
                    rw [hrec.out, List.drop_of_length_le (by rw [← bs_size]; omega)]; rfl
                  have hck : Us.checkN x.path = 0 := by
                    have := HC.out
                    rw [q0, bl_bs] at this
                    omega
                  obtain ⟨⟨P1, e1, e2, e3⟩, e4⟩ := ofH_good hck (by omega) (by omega) (by omega) (by omega) (by rw [← bs_size]; omega) hl0 x2
                  obtain ⟨P2, f1, f2, f3⟩ := whH_good hck
                  have E1 := Lib.hid e1
                  have E3 : Hid (Us.dec (bl (bs P1)) = (0, ofH x)) := e3
                  have F1 := Lib.hid f1
                  have F3 : Hid (Us.dec (bl (bs P2)) = (0, whH x.path)) := f3
                  have z1 : (bs P1).size ≤ 512 := by rw [bs_size, e2]; exact Nat.le_refl _
                  have z2 : (bs P2).size ≤ 512 := by rw [bs_size, f2]; exact Nat.le_refl _
                  have HPA := Lib.hid e4
                  have S1 := ofH_short HX.out
                  have S2 := whH_short HX.out
                  have HS1 := Lib.hid S1
                  have HS2 := Lib.hid S2
                  clear hrec hl0 hck e1 e2 e3 e4 f1 f2 f3 S1 S2
                  go_wp2_with (go_at_call 25; refine (of_any x _ (by omega)).mono ?_; rintro e w2 ⟨rfl, b2⟩)
                  refine (enc_ok_at (ofH x) _ HS1.out E1).mono ?_
                  rintro e w3 ⟨rfl, b3⟩
                  have hE3 := (hE.below b2 hE.lt).below b3 (hE.below b2 hE.lt).lt
                  have B3 := below_of_below (below_of_below B1 b2 B1.size) b3 (below_of_below B1 b2 B1.size).size
                  have e0 : w3.cell? ⟨w.heap.size, 0, none⟩ = some (.string (bs x.path)) := hE3.cell 0
                  have zl := last_size (bs x.path)
                  have zl2 : (bs (Us.last (bl (bs x.path)))).size ≤ 1048576 := by omega
                  have hsz4 : (⟨#[46, 119, 104, 46]⟩ ++ bs (Us.last (bl (bs x.path))) : ByteArray).size ≤ 1048580 := by
                    rw [ByteArray.size_append]
                    have q : (⟨#[46, 119, 104, 46]⟩ : ByteArray).size = 4 := rfl
                    omega
                  clear b2 b3 hE
                  clear c0 c1 c2 c3 c4 G1 B1
                  go_wp2_with fail
                  go_quiet ((first | (go_at_call 32; exact Calls.quiet_of_same ((parent_any _ _ (by omega)).mono fun _ _ h => ⟨h.1, h.2.symm⟩)) | (go_at_call 33; exact Calls.quiet_of_same ((last_any _ _ (by omega)).mono fun _ _ h => ⟨h.1, h.2.symm⟩)) | (go_at_call 31; exact Calls.quiet_of_same ((join_w x.path _ (by omega)).mono fun _ _ h => ⟨h.1, h.2.symm⟩))))
                  go_wp2_with fail
                  refine (enc_ok_at (whH x.path) _ HS2.out F1).mono ?_
                  rintro e w4 ⟨rfl, b4⟩
                  have hE4 : Blk w4 w.heap.size 50 (enC x) := Blk.below (hE3.drewN _) b4 hE3.lt
                  have B4 := below_of_below (below_drewN B3 _) b4 B3.size
                  clear b4 hE3 e0
                  go_wp2_with fail
                  refine (dec_ok_at _ _ (by omega) E3).mono ?_
                  rintro e w5 ⟨rfl, b5⟩
                  have hE5 := hE4.below b5 hE4.lt
                  have B5 := below_of_below B4 b5 B4.size
                  clear b5 hE4
                  go_wp2_with (refine wpList_store_hd rfl _ _ rfl w5.heap.size (ofH x) rfl rfl Us.hd0 (Blk.new _ _ _) ?_; intro w6 hB6 hb6 hz6)
                  have b6 : Below w5.heap.size w5 w6 := ((Below.refl _ _).alloc (Nat.le_refl _) _).trans hb6
                  have hE6 := hE5.below b6 hE5.lt
                  have B6 := below_of_below B5 b6 B5.size
                  clear hb6 hz6 b6 hE5
                  refine (dec_ok_at _ _ (by omega) F3).mono ?_
                  rintro e w7 ⟨rfl, b7⟩
                  have hE7 := hE6.below b7 hE6.lt
                  have hX7 := hB6.below b7 hB6.lt
                  have B7 := below_of_below B6 b7 B6.size
                  clear b7 hE6 hB6
                  go_wp2_with (first | (refine wpList_store_hd rfl _ _ rfl w7.heap.size (whH x.path) rfl rfl Us.hd0 (Blk.new _ _ _) ?_; intro w8 hB8 hb8 hz8; have b8 : Below w7.heap.size w7 w8 := ((Below.refl _ _).alloc (Nat.le_refl _) _).trans hb8; have B8 := below_of_below B7 b8 B7.size; have G8 := HG.out.below B8 HG.out.lt; have ce : w8.cell? ⟨w.heap.size, 0, none⟩ = some (.string (bs x.path)) := (hE7.below b8 hE7.lt).cell 0; have cx : w8.cell? ⟨w5.heap.size, 0, none⟩ = some (.string (bs x.path)) := (by have q := (hX7.below b8 hX7.lt).cell 0; rw [← HPA.out]; exact q); have cy : w8.cell? ⟨w7.heap.size, 0, none⟩ = some (.string (bs (Us.white x.path))) := hB8.cell 0; clear b8 hb8 hz8) | (go_at_call 16; refine (works_any _ G8).mono ?_; rintro e w9 ⟨rfl, b9⟩))
                  go_ret
                  exact ⟨rfl, below_of_below B8 b9 B8.size⟩
  · have t0 : (C != 0) = true := by simpa using q0
    go_wp2_with (go_at_call 16; refine (works_any _ G1).mono ?_; rintro e w5 ⟨rfl, b5⟩)
    go_ret
    exact ⟨rfl, below_of_below B1 b5 B1.size⟩
end Go.Proofs.YtfhfahlocpmdkaaDoor
