/- strataref14.Wrong, walked. -/
import Derived.Test.YtpgnfianffjpnaaGreatDoorLrF
namespace Go.Proofs.YtpgnfianffjpnaaGreatDoor
open Go Go.RowKit
namespace Lx
def wrP (o : Option (Nat × Nat)) : Nat × Nat := o.getD (0, 0)
theorem charLen_le {s : Bs} {i : Nat} (h : i < s.length) : charLen (s.drop i) ≤ s.length - i := by
  have := charN_le (s.drop i).length ((s.drop i).getD 0 0).toNat ((s.drop i).getD 1 0).toNat ((s.drop i).getD 2 0).toNat ((s.drop i).getD 3 0).toNat (by rw [List.length_drop]; omega)
  exact Nat.le_trans this (by rw [List.length_drop]; omega)
end Lx
set_option maxRecDepth 100000 in
set_option maxHeartbeats 2000000 in
theorem wrong14_any (s : List UInt8) (hs : s.length ≤ 2000000) (w : World) {a b : Nat} (H : Hid (Lx.wrP (Lx.wrongL s 0 0 1 0) = (a, b))) : Calls Tryz.prog 30 #[.string (bs s)] w fun e w' => e = .returned (.tuple #[.int .i64 (a : Int), .int .i64 (b : Int)]) ∧ w = w' := by
  have hz := bs_size s
  have HZ := Lib.hid hz
  have hs2 : (bs s).size ≤ 2000000 := by omega
  have H0 : Hid (Lx.wrP (Lx.wrongL (s.drop 0) 0 0 1 0) = (a, b)) := by show _ = _; rw [List.drop_zero]; exact H.out
  clear hz H
  go_enter Tryz.func30, Tryz.ntmps30
  go_wp2_with fail
  go_loopw [4, 5, 6, 7] (fun t4 t5 t6 _ wr => ∃ l f i : Nat, f ≤ i ∧ l ≤ i + 1 ∧ i ≤ (bs s).size ∧ t4 = .int .i64 (l : Int) ∧ t5 = .int .i64 (f : Int) ∧ t6 = .int .i64 (i : Int) ∧ Hid (Lx.wrP (Lx.wrongL (s.drop i) 0 i l f) = (a, b)) ∧ w = wr) (fun _ _ t6 _ _ => (bs s).size - (intOf t6).toNat)
  case atStart => exact ⟨1, 0, 0, by omega, by omega, by omega, rfl, rfl, rfl, H0, by first | rfl | trivial⟩
  case round =>
    clear H0
    obtain ⟨l, f, i, hf, hl, hi, rfl, rfl, rfl, HR, rfl⟩ := hrel
    have j0 : (0 : Int) ≤ (i : Int) := by omega
    rcases Nat.lt_or_ge i (bs s).size with hin | hin
    · have i0 : decide ((i : Int) < ((bs s).size : Int)) = true := by rw [decide_eq_true_eq]; omega
      have i1 : (i : Int) < ((bs s).size : Int) := by omega
      have hil : i < s.length := by rw [← HZ.out]; exact hin
      have hby : ((bs s)[i]'hin).toNat < 256 := UInt8.toNat_lt _
      obtain ⟨n, hn⟩ : ∃ n, Hid (Lx.charLen (s.drop i) = n) := ⟨_, Lib.hid rfl⟩
      have hnle := Lx.charLen_le hil
      rw [hn.out, ← HZ.out] at hnle
      cases n with
      | zero =>
        have hR := HR.out
        rw [Lx.wrong_at hil hn.out] at hR
        have HN : Hid (a = l ∧ b = i - f + 1) := by
          show _ ∧ _
          have h1 := congrArg Prod.fst hR
          have h2 := congrArg Prod.snd hR
          exact ⟨h1.symm, h2.symm⟩
        have hb1 : (i : Int) - (f : Int) + 1 = ((i - f + 1 : Nat) : Int) := by omega
        have HB1 := Lib.hid hb1
        clear hR HR hil hnle hb1
        go_wp2_with fail
        refine (size14_any s hs i hin _ hn).mono ?_
        rintro e w1 ⟨rfl, rfl⟩
        go_wp2_with fail
        go_ret2
        exact ⟨by rw [HN.out.1, HN.out.2, ← HB1.out]; rfl, by first | rfl | trivial⟩
      | succ m =>
        have hR := HR.out
        rw [Lx.wrong_go hil hn.out, show s[i] = (bs s)[i]'hin from rfl] at hR
        have n0 : (((m + 1 : Nat) : Int) == 0) = false := by rw [beq_eq_false_iff_ne]; omega
        have HNN : Hid (((m + 1 : Nat) : Int) = (m : Int) + 1) := Lib.hid (by omega)
        obtain ⟨n, hnm⟩ : ∃ n, n = m + 1 := ⟨_, rfl⟩
        rw [← hnm] at hR n0 hn hnle
        have hn1 : 1 ≤ n := by omega
        clear hnm HNN
        by_cases h10 : (bs s)[i]'hin = 10
        · have t1 : ((((bs s)[i]'hin).toNat : Int) == 10) = true := u8_yes (d := 10) h10
          rw [if_pos h10, if_pos h10] at hR
          have HN := Lib.hid hR
          clear hR HR hil h10
          go_wp2_with fail
          refine (size14_any s hs i hin _ hn).mono ?_
          rintro e w1 ⟨rfl, rfl⟩
          go_wp2_with fail
          go_roundw
          case rel => exact ⟨l + 1, i + 1, i + n, by omega, by omega, by omega, by go_num, by go_num, by go_num, HN, by first | rfl | trivial⟩
          case measure => simp [intOf]; omega
        · have t1 : ((((bs s)[i]'hin).toNat : Int) == 10) = false := u8_no (d := 10) h10
          rw [if_neg h10, if_neg h10] at hR
          have HN := Lib.hid hR
          clear hR HR hil h10
          go_wp2_with fail
          refine (size14_any s hs i hin _ hn).mono ?_
          rintro e w1 ⟨rfl, rfl⟩
          go_wp2_with fail
          go_roundw
          case rel => exact ⟨l, f, i + n, by omega, by omega, by omega, by go_num, by go_num, by go_num, HN, by first | rfl | trivial⟩
          case measure => simp [intOf]; omega
    · have i0 : decide ((i : Int) < ((bs s).size : Int)) = false := by rw [decide_eq_false_iff_not]; omega
      have hil : s.length ≤ i := by rw [← HZ.out]; exact hin
      have hR := HR.out
      rw [Lx.wrong_end hil] at hR
      have HN : Hid (a = 0 ∧ b = 0) := by
        show _ ∧ _
        have h1 := congrArg Prod.fst hR
        have h2 := congrArg Prod.snd hR
        exact ⟨h1.symm, h2.symm⟩
      clear HR hR hil
      go_wp2_with fail
      go_ret2
      exact ⟨by rw [HN.out.1, HN.out.2]; rfl, by first | rfl | trivial⟩
end Go.Proofs.YtpgnfianffjpnaaGreatDoor
