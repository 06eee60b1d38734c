/- strataref14's leaves, walked: Head, Last, past, Nothing, lower, Says. -/
import Derived.Test.YtpgnfianffjpnaaGreatDoorWdB
import Derived.Test.YtpgnfianffjpnaaGreatDoorLxP
import Derived.Test.YtpgnfianffjpnaaGreatDoorLxC
import Derived.Deep.QuietTactic
import Derived.BigQuiet
namespace Go.Proofs.YtpgnfianffjpnaaGreatDoor
open Go Go.RowKit
namespace Lx
/-- where the head of a rest of a text of n bytes stands. -/
def hdI (n : Nat) (r : Bs) : Int := if Gl.lft r = [] then -1 else ((n - (Gl.lft r).length : Nat) : Int)
def headI (l : Bs) : Int := hdI l.length l
def lastI (l : Bs) : Int := ((rgt l).length : Int) - 1
def pastN (s : Bs) (i : Nat) : Nat := s.length - (Gl.lft (s.drop i)).length
theorem isB_blank (c : UInt8) : isB c = blank c := blank_bls c
theorem lft_blank {c : UInt8} (r : Bs) (h : blank c = true) : Gl.lft (c :: r) = Gl.lft r := lft_app (a := [c]) r fun x hx => by rw [List.mem_singleton] at hx; subst hx; rw [isB_blank]; exact h
theorem lft_in {c : UInt8} (r : Bs) (h : blank c = false) : Gl.lft (c :: r) = c :: r := lft_cons r (by rw [isB_blank]; exact h)
section
variable {s : Bs} {i : Nat}
theorem lft_step (h : i < s.length) (hb : blank s[i] = true) : Gl.lft (s.drop i) = Gl.lft (s.drop (i + 1)) := by
  rw [List.drop_eq_getElem_cons h, lft_blank _ hb]
theorem lft_stop (h : i < s.length) (hb : blank s[i] = false) : Gl.lft (s.drop i) = s.drop i := by
  rw [List.drop_eq_getElem_cons h, lft_in _ hb]
theorem lft_nil : Gl.lft [] = [] := rfl
theorem hd_step (h : i < s.length) (hb : blank s[i] = true) : hdI s.length (s.drop i) = hdI s.length (s.drop (i + 1)) := by rw [hdI, hdI, lft_step h hb]
theorem hd_stop (h : i < s.length) (hb : blank s[i] = false) : hdI s.length (s.drop i) = (i : Int) := by
  have hne : s.drop i ≠ [] := fun e => by have := congrArg List.length e; rw [List.length_drop, List.length_nil] at this; omega
  rw [hdI, lft_stop h hb, if_neg hne, List.length_drop]
  omega
theorem hd_end (h : s.length ≤ i) : hdI s.length (s.drop i) = -1 := by rw [hdI, List.drop_eq_nil_of_le h, if_pos lft_nil]
theorem past_step (h : i < s.length) (hb : blank s[i] = true) : pastN s i = pastN s (i + 1) := by rw [pastN, pastN, lft_step h hb]
theorem past_stop (h : i < s.length) (hb : blank s[i] = false) : pastN s i = i := by rw [pastN, lft_stop h hb, List.length_drop]; omega
theorem past_end (h : s.length = i) : pastN s i = i := by rw [pastN, List.drop_eq_nil_of_le (by omega), lft_nil]; simpa using h
theorem rgt_step (h : i < s.length) (hb : blank s[i] = true) : rgt (s.take (i + 1)) = rgt (s.take i) := by
  rw [List.take_succ_eq_append_getElem h]
  exact rgt_app _ fun x hx => by rw [List.mem_singleton] at hx; subst hx; rw [isB_blank]; exact hb
theorem rgt_stop (h : i < s.length) (hb : blank s[i] = false) : (rgt (s.take (i + 1))).length = i + 1 := by
  rw [List.take_succ_eq_append_getElem h, rgt_snoc _ (by rw [isB_blank]; exact hb), List.length_append, List.length_take, List.length_singleton]
  omega
end
end Lx
set_option maxRecDepth 100000 in
theorem head_any (s : List UInt8) (hs : s.length ≤ 2000000) (w : World) {v : Int} (H : Hid (Lx.headI s = v)) : Calls Tryz.prog 34 #[.string (bs s)] w fun e w' => e = .returned (.int .i64 v) ∧ w = w' := by
  have hz := bs_size s
  have hs2 : (bs s).size ≤ 2000000 := by omega
  have HZ := Lib.hid hz
  have H0 : Hid (Lx.hdI s.length (s.drop 0) = v) := by show _ = _; rw [List.drop_zero]; exact H.out
  clear hz H
  go_enter Tryz.func34, Tryz.ntmps34
  go_wp2_with fail
  go_loopw [3] (fun t3 wr => ∃ i : Nat, i ≤ (bs s).size ∧ t3 = .int .i64 (i : Int) ∧ Hid (Lx.hdI s.length (s.drop i) = v) ∧ w = wr) (fun t3 _ => (bs s).size - (intOf t3).toNat)
  case atStart => exact ⟨0, by omega, rfl, H0, by first | rfl | trivial⟩
  case round =>
    clear H0
    obtain ⟨i, hi, rfl, HR, rfl⟩ := hrel
    have j0 : (0 : Int) ≤ (i : Int) := by omega
    rcases Nat.lt_or_ge i (bs s).size with hin | hin
    · have i0 : decide ((i : Int) < ((bs s).size : Int)) = true := by rw [decide_eq_true_eq]; omega
      have i1 : (i : Int) < ((bs s).size : Int) := by omega
      have hil : i < s.length := by rw [← HZ.out]; exact hin
      have hby : ((bs s)[i]'hin).toNat < 256 := UInt8.toNat_lt _
      cases hb : Lx.blank ((bs s)[i]'hin) with
      | true =>
        have HB := Lib.hid hb
        have HN : Hid (Lx.hdI s.length (s.drop (i + 1)) = v) := by show _ = _; rw [← Lx.hd_step hil hb]; exact HR.out
        clear hb HR hil
        go_wp2_with fail
        refine (blank13_any _ _ HB).mono ?_
        rintro e1 w1 ⟨rfl, rfl⟩
        go_wp2_with fail
        go_roundw
        case rel => exact ⟨i + 1, by omega, by go_num, HN, by first | rfl | trivial⟩
        case measure => simp [intOf]; omega
      | false =>
        have HB := Lib.hid hb
        have HN : Hid (v = (i : Int)) := by show _ = _; rw [← HR.out]; exact Lx.hd_stop hil hb
        clear hb HR hil
        go_wp2_with fail
        refine (blank13_any _ _ HB).mono ?_
        rintro e1 w1 ⟨rfl, rfl⟩
        go_wp2_with fail
        go_ret
        exact ⟨by rw [HN.out]; rfl, by first | rfl | trivial⟩
    · have i0 : decide ((i : Int) < ((bs s).size : Int)) = false := by rw [decide_eq_false_iff_not]; omega
      have HN : Hid (v = -1) := by show _ = _; rw [← HR.out]; exact Lx.hd_end (by rw [← HZ.out]; exact hin)
      clear HR
      go_wp2_with fail
      go_ret
      exact ⟨by rw [HN.out]; rfl, by first | rfl | trivial⟩
set_option maxRecDepth 100000 in
theorem last_any (s : List UInt8) (hs : s.length ≤ 2000000) (w : World) {v : Int} (H : Hid (Lx.lastI s = v)) : Calls Tryz.prog 78 #[.string (bs s)] w fun e w' => e = .returned (.int .i64 v) ∧ w = w' := by
  have hz := bs_size s
  have hs2 : (bs s).size ≤ 2000000 := by omega
  have HZ := Lib.hid hz
  have H0 : Hid (((Lx.rgt (s.take (bs s).size)).length : Int) - 1 = v) := by show _ = _; rw [hz, List.take_length]; exact H.out
  clear hz H
  go_enter Tryz.func78, Tryz.ntmps78
  go_wp2_with fail
  go_loopw [3] (fun t3 wr => ∃ k : Nat, ∃ z : Int, k ≤ (bs s).size ∧ t3 = .int .i64 z ∧ z = (k : Int) - 1 ∧ Hid (((Lx.rgt (s.take k)).length : Int) - 1 = v) ∧ w = wr) (fun t3 _ => (intOf t3 + 1).toNat)
  case atStart => exact ⟨(bs s).size, _, by omega, rfl, by first | rfl | go_num | omega, H0, by first | rfl | trivial⟩
  case round =>
    clear H0
    obtain ⟨k, z, hk, rfl, hzk, HR, rfl⟩ := hrel
    cases k with
    | succ i =>
      obtain rfl : z = (i : Int) := by omega
      clear hzk
      have i0 : decide ((0 : Int) ≤ (i : Int)) = true := by rw [decide_eq_true_eq]; omega
      have j0 : (0 : Int) ≤ (i : Int) := by omega
      have hin : i < (bs s).size := by omega
      have i1 : (i : Int) < ((bs s).size : Int) := by omega
      have hil : i < s.length := by rw [← HZ.out]; exact hin
      have hby : ((bs s)[i]'hin).toNat < 256 := UInt8.toNat_lt _
      cases hb : Lx.blank ((bs s)[i]'hin) with
      | true =>
        have HB := Lib.hid hb
        have HN : Hid (((Lx.rgt (s.take i)).length : Int) - 1 = v) := by show _ = _; rw [← Lx.rgt_step hil hb]; exact HR.out
        clear hb HR hil
        go_wp2_with fail
        refine (blank13_any _ _ HB).mono ?_
        rintro e1 w1 ⟨rfl, rfl⟩
        go_wp2_with fail
        go_roundw
        case rel => exact ⟨i, _, by omega, rfl, by first | rfl | go_num | omega, HN, by first | rfl | trivial⟩
        case measure => simp [intOf]
      | false =>
        have HB := Lib.hid hb
        have HN : Hid (v = (i : Int)) := by show _ = _; rw [← HR.out, Lx.rgt_stop hil hb]; omega
        clear hb HR hil
        go_wp2_with fail
        refine (blank13_any _ _ HB).mono ?_
        rintro e1 w1 ⟨rfl, rfl⟩
        go_wp2_with fail
        go_ret
        exact ⟨by rw [HN.out]; rfl, by first | rfl | trivial⟩
    | zero =>
      obtain rfl : z = -1 := by omega
      clear hzk
      have HN : Hid (v = -1) := by show _ = _; rw [← HR.out]; rfl
      clear HR
      go_wp2_with fail
      go_ret
      exact ⟨by rw [HN.out]; rfl, by first | rfl | trivial⟩
set_option maxRecDepth 100000 in
theorem past_any (s : List UInt8) (hs : s.length ≤ 2000000) (i : Nat) (hi : i ≤ s.length) (w : World) {v : Nat} (H : Hid (Lx.pastN s i = v)) : Calls Tryz.prog 76 #[.string (bs s), .int .i64 (i : Int)] w fun e w' => e = .returned (.int .i64 (v : Int)) ∧ w = w' := by
  have hz := bs_size s
  have hs2 : (bs s).size ≤ 2000000 := by omega
  have hi2 : i ≤ (bs s).size := by omega
  have HZ := Lib.hid hz
  clear hz
  go_enter Tryz.func76, Tryz.ntmps76
  go_wp2_with fail
  go_loopw [1] (fun t1 wr => ∃ k : Nat, k ≤ (bs s).size ∧ t1 = .int .i64 (k : Int) ∧ Hid (Lx.pastN s k = v) ∧ w = wr) (fun t1 _ => (bs s).size - (intOf t1).toNat)
  case atStart => exact ⟨i, by omega, rfl, H, by first | rfl | trivial⟩
  case round =>
    clear H
    obtain ⟨k, hk, rfl, HR, rfl⟩ := hrel
    have j0 : (0 : Int) ≤ (k : Int) := by omega
    rcases Nat.lt_or_ge k (bs s).size with hin | hin
    · have i0 : decide ((k : Int) < ((bs s).size : Int)) = true := by rw [decide_eq_true_eq]; omega
      have i1 : (k : Int) < ((bs s).size : Int) := by omega
      have hil : k < s.length := by rw [← HZ.out]; exact hin
      have hby : ((bs s)[k]'hin).toNat < 256 := UInt8.toNat_lt _
      cases hb : Lx.blank ((bs s)[k]'hin) with
      | true =>
        have HB := Lib.hid hb
        have HN : Hid (Lx.pastN s (k + 1) = v) := by show _ = _; rw [← Lx.past_step hil hb]; exact HR.out
        clear hb HR hil
        go_wp2_with fail
        refine (blank13_any _ _ HB).mono ?_
        rintro e1 w1 ⟨rfl, rfl⟩
        go_wp2_with fail
        go_roundw
        case rel => exact ⟨k + 1, by omega, by go_num, HN, by first | rfl | trivial⟩
        case measure => simp [intOf]; omega
      | false =>
        have HB := Lib.hid hb
        have HN : Hid (v = k) := by show _ = _; rw [← HR.out]; exact Lx.past_stop hil hb
        clear hb HR hil
        go_wp2_with fail
        refine (blank13_any _ _ HB).mono ?_
        rintro e1 w1 ⟨rfl, rfl⟩
        go_wp2_with fail
        go_ret
        exact ⟨by rw [HN.out]; rfl, by first | rfl | trivial⟩
    · have i0 : decide ((k : Int) < ((bs s).size : Int)) = false := by rw [decide_eq_false_iff_not]; omega
      have HN : Hid (v = k) := by show _ = _; rw [← HR.out]; exact Lx.past_end (by rw [← HZ.out]; omega)
      clear HR
      go_wp2_with fail
      go_ret
      exact ⟨by rw [HN.out]; rfl, by first | rfl | trivial⟩
end Go.Proofs.YtpgnfianffjpnaaGreatDoor
