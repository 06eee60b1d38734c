/- glob.one, (glob.mark).takes. -/
import Derived.Test.YtdjfakampjbgeaaGreatDoorProg
import Derived.Test.YtdjfakampjbgeaaGreatDoorMB
import Derived.Test.YtdjfakampjbgeaaGreatDoorBlk
import Derived.WalkKit
import Derived.Deep.DeepCutAuto
namespace Go.Proofs.YtdjfakampjbgeaaGreatDoor
open Go.RowKit

/-- one's two answers. -/
def oneN (l : List UInt8) : UInt8 × Nat := match Gl.oneL l with
  | none => (0, 0)
  | some (c, r) => (c, l.length - r.length)
theorem oneL_no {c : UInt8} {r : List UInt8} (h : c ≠ 92) : Gl.oneL (c :: r) = some (c, r) := by simp [Gl.oneL, h]
theorem oneL_esc {c : UInt8} (h : c = 92) (d : UInt8) (r : List UInt8) : Gl.oneL (c :: d :: r) = some (d, r) := by subst h; rfl
theorem oneL_end {c : UInt8} (h : c = 92) : Gl.oneL [c] = none := by subst h; rfl
theorem ext_get {s x : ByteArray} {k : Nat} (hxl : bl x = (bl s).drop k) (i : Nat) (hi : i < x.size) (hk : k + i < s.size) : x[i] = s[k + i] := by
  have h1 : (bl x)[i]'(by rw [bl_length]; exact hi) = x[i] := rfl
  have h2 : (bl s)[k + i]'(by rw [bl_length]; exact hk) = s[k + i] := rfl
  rw [← h1, ← h2]
  simp only [hxl, List.getElem_drop]
set_option maxRecDepth 100000 in
theorem one_any (s : ByteArray) (k : Nat) (hk : k < s.size) (w : World) : Calls Tryz.prog 94 #[.string (s.extract k s.size)] w fun e w' => e = .returned (.tuple #[.int .u8 ((oneN ((bl s).drop k)).1.toNat : Int), .int .i64 ((oneN ((bl s).drop k)).2 : Int)]) ∧ w = w' := by
  have hd := bl_drop_cons s k hk
  have hz : (s.extract k s.size).size = s.size - k := by rw [ByteArray.size_extract]; omega
  obtain ⟨x, hx⟩ : ∃ x, s.extract k s.size = x := ⟨_, rfl⟩
  have hxl : bl x = (bl s).drop k := by rw [← hx, bl_from]
  have h0 : 0 < x.size := by rw [← hx, hz]; omega
  have hx0 : x[0] = s[k] := ext_get hxl 0 h0 hk
  rw [hx] at hz ⊢
  have i0 : (0 : Int) < (x.size : Int) := by omega
  by_cases hc : s[k] = 92
  · have t0 : (((x[0]).toNat : Int) != 92) = false := by rw [hx0, hc]; rfl
    by_cases h2 : k + 1 < s.size
    · have t1 : decide ((x.size : Int) < 2) = false := by simp; omega
      have i1 : (1 : Int) < (x.size : Int) := by omega
      have hb : (x[1]).toNat < 256 := (x[1]).toNat_lt
      have hd2 := bl_drop_cons s (k + 1) h2
      have hx1 : x[1] = s[k + 1] := ext_get hxl 1 (by omega) h2
      have ho : oneN ((bl s).drop k) = (x[1], 2) := by
        rw [oneN, hd, hd2, oneL_esc hc, hx1]
        simp only [List.length_cons, List.length_drop, bl_length, Prod.mk.injEq, true_and]
        omega
      rw [ho]
      clear hx0 hd hd2 hx1 hxl ho hx
      go_enter Tryz.func94, Tryz.ntmps94
      go_wp2_with fail
      go_ret2
      exact ⟨by first | rfl | trivial, by first | rfl | trivial⟩
    · have t1 : decide ((x.size : Int) < 2) = true := by simp; omega
      have ho : oneN ((bl s).drop k) = (0, 0) := by
        rw [oneN, hd, show (bl s).drop (k + 1) = [] from List.drop_eq_nil_of_le (by rw [bl_length]; omega), oneL_end hc]
      rw [ho]
      clear hx0 hd hxl ho hx
      go_enter Tryz.func94, Tryz.ntmps94
      go_wp2_with fail
      go_ret2
      exact ⟨by first | rfl | trivial, by first | rfl | trivial⟩
  · have t0 : (((x[0]).toNat : Int) != 92) = true := by
      rw [hx0]
      simp only [bne_iff_ne, ne_eq]
      exact fun e => hc (UInt8.toNat_inj.1 (by rw [show (92 : UInt8).toNat = 92 from rfl]; omega))
    have hb : (x[0]).toNat < 256 := (x[0]).toNat_lt
    have ho : oneN ((bl s).drop k) = (x[0], 1) := by
      rw [oneN, hd, oneL_no hc, hx0]
      simp only [List.length_cons, List.length_drop, bl_length, Prod.mk.injEq, true_and]
      omega
    rw [ho]
    clear hx0 hd hxl ho hx
    go_enter Tryz.func94, Tryz.ntmps94
    go_wp2_with fail
    go_ret2
    exact ⟨by first | rfl | trivial, by first | rfl | trivial⟩

theorem takes_from (m : Gl.Mk) (c : UInt8) (hl : m.fr.length = m.to.length) {k : Nat} (hk : k < m.fr.length) :
    ((m.fr.zip m.to).drop k).any (fun p => decide (p.1 ≤ c) && decide (c ≤ p.2)) = ((decide (m.fr[k] ≤ c) && decide (c ≤ m.to[k])) || ((m.fr.zip m.to).drop (k + 1)).any (fun p => decide (p.1 ≤ c) && decide (c ≤ p.2))) := by
  have hz : k < (m.fr.zip m.to).length := by rw [List.length_zip]; omega
  rw [List.drop_eq_getElem_cons hz, List.any_cons, List.getElem_zip]
theorem u8_le (a b : UInt8) : decide ((a.toNat : Int) ≤ (b.toNat : Int)) = decide (a ≤ b) := by
  rw [Bool.eq_iff_iff]
  simp only [decide_eq_true_eq, UInt8.le_iff_toNat_le]
  omega
set_option maxRecDepth 100000 in
set_option maxHeartbeats 1000000 in
theorem takes_any (m : Gl.Mk) (c : UInt8) (vf vt : Value) (w : World) {S : Nat → Prop} (hf : RB w S vf m.fr) (ht : RB w S vt m.to) (hl : m.fr.length = m.to.length) (hm : m.fr.length ≤ 1000000000) :
    Calls Tryz.prog 95 #[.agg #[.bool m.any, .bool m.neg, vf, vt], .int .u8 (c.toNat : Int)] w fun e w' => e = .returned (.bool (m.takes c)) ∧ Below w.heap.size w w' := by
  obtain ⟨w1, hw1⟩ : ∃ w1, w.alloc (.cells #[.bool m.any, .bool m.neg, vf, vt] 124) = w1 := ⟨_, rfl⟩
  have hbx : Below w.heap.size w w1 := by rw [← hw1]; exact (Below.refl _ _).alloc (Nat.le_refl _) _
  have hlies : Lies w w1 S S := fun g hs hg => ⟨by rw [← hw1]; exact Below.heap_alloc _ _ _ hg, hs⟩
  have hb : Blk w1 w.heap.size 124 #[.bool m.any, .bool m.neg, vf, vt] := by rw [← hw1]; exact Blk.new _ _ _
  have hf1 := hf.keep hlies
  have ht1 := ht.keep hlies
  obtain ⟨A, c1, rfl, hF⟩ := hf1
  obtain ⟨A2, c2, rfl, hT⟩ := ht1
  clear hf ht hlies
  have HF := Lib.hid hF
  have HT := Lib.hid hT
  have b1 := hb.cell 1
  have b2 := hb.cell 2
  have b3 := hb.cell 3
  simp only [List.getElem?_toArray, List.getElem?_cons_succ, List.getElem?_cons_zero] at b1 b2 b3
  have HL := Lib.hid hl
  clear hF hT hb hl
  go_enter Tryz.func95, Tryz.ntmps95
  go_wp2_with fail

  clear hw1
  go_loopw [5, 6, 10] (fun _ _ i wr => ∃ k : Nat, k ≤ m.fr.length ∧ i = .int .i64 (k : Int) ∧ Hid (m.takes c = if ((m.fr.zip m.to).drop k).any (fun p => decide (p.1 ≤ c) && decide (c ≤ p.2)) then !m.neg else m.neg) ∧ wr = w1) (fun _ _ i _ => m.fr.length - (intOf i).toNat)
  case atStart => exact ⟨0, by omega, rfl, by show _ = _; rw [Gl.Mk.takes, List.drop_zero], rfl⟩
  case round =>
    obtain ⟨k, hk, rfl, HR, rfl⟩ := hrel
    by_cases hkn : k < m.fr.length
    · have i0 : decide ((k : Int) < (m.fr.length : Int)) = true := by simp; omega
      have i1 : (0 : Int) ≤ (k : Int) := by omega
      have i2 : (k : Int) < (m.fr.length : Int) := by omega
      have i3 : (k : Int) < (m.to.length : Int) := by have := HL.out; omega
      obtain ⟨g, o, rfl, _, f1⟩ := HF.out k hkn
      obtain ⟨g2, o2, rfl, _, f2⟩ := HT.out k (by have := HL.out; omega)
      have hst := takes_from m c HL.out hkn
      by_cases h1 : m.fr[k] ≤ c
      · have t1 : decide (((m.fr[k]).toNat : Int) ≤ (c.toNat : Int)) = true := by rw [u8_le]; simpa using h1
        by_cases h2 : c ≤ (m.to[k]'(by have := HL.out; omega))
        · have t2 : decide ((c.toNat : Int) ≤ (((m.to[k]'(by have := HL.out; omega))).toNat : Int)) = true := by rw [u8_le]; simpa using h2
          have hres : m.takes c = !m.neg := by rw [HR.out, hst, decide_eq_true h1, decide_eq_true h2, Bool.and_self, Bool.true_or, if_pos rfl]
          clear hst HR
          go_wp2_with fail
          go_ret
          exact ⟨by rw [hres]; rfl, hbx⟩
        · have t2 : decide ((c.toNat : Int) ≤ (((m.to[k]'(by have := HL.out; omega))).toNat : Int)) = false := by rw [u8_le]; simpa using h2
          have HR2 : Hid (m.takes c = if ((m.fr.zip m.to).drop (k + 1)).any (fun p => decide (p.1 ≤ c) && decide (c ≤ p.2)) then !m.neg else m.neg) := by
            show _ = _
            rw [HR.out, hst, decide_eq_false h2, Bool.and_false, Bool.false_or]
          clear hst HR
          go_wp2_with fail
          go_roundw
          case rel => exact ⟨k + 1, by omega, by go_num, HR2, by first | rfl | trivial⟩
          case measure => simp [intOf]; omega
      · have t1 : decide (((m.fr[k]).toNat : Int) ≤ (c.toNat : Int)) = false := by rw [u8_le]; simpa using h1
        have HR2 : Hid (m.takes c = if ((m.fr.zip m.to).drop (k + 1)).any (fun p => decide (p.1 ≤ c) && decide (c ≤ p.2)) then !m.neg else m.neg) := by
          show _ = _
          rw [HR.out, hst, decide_eq_false h1, Bool.false_and, Bool.false_or]
        clear hst HR
        go_wp2_with fail
        go_roundw
        case rel => exact ⟨k + 1, by omega, by go_num, HR2, by first | rfl | trivial⟩
        case measure => simp [intOf]; omega
    · have i0 : decide ((k : Int) < (m.fr.length : Int)) = false := by simp; omega
      have hres : m.takes c = m.neg := by
        rw [HR.out, List.drop_eq_nil_of_le (by rw [List.length_zip]; omega)]; rfl
      clear HR
      go_wp2_with fail
      go_ret
      exact ⟨by rw [hres]; rfl, hbx⟩
end Go.Proofs.YtdjfakampjbgeaaGreatDoor
