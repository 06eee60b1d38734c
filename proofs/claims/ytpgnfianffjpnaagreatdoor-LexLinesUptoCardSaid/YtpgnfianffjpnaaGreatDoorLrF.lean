/- strataref14's size, walked (printed by wip/genlrf.py). -/
import Derived.Test.YtpgnfianffjpnaaGreatDoorLrA
namespace Go.Proofs.YtpgnfianffjpnaaGreatDoor
open Go Go.RowKit
namespace Lx
def contB (x : Nat) : Bool := decide (128 ≤ x) && decide (x ≤ 191)
def byteN (s : Bs) (i j : Nat) : Nat := ((s.drop i).getD j 0).toNat
def restOk (s : Bs) (i n k : Nat) : Bool := (List.range' k (n - k)).all fun j => contB (byteN s i j)
theorem rest_step {s : Bs} {i n k : Nat} (h : k < n) : restOk s i n k = (contB (byteN s i k) && restOk s i n (k + 1)) := by
  obtain ⟨m, hm⟩ : ∃ m, n - k = m + 1 := ⟨n - k - 1, by omega⟩
  rw [restOk, restOk, hm, show n - (k + 1) = m by omega, List.range'_succ, List.all_cons]
theorem rest_end {s : Bs} {i n : Nat} : restOk s i n n = true := by rw [restOk, Nat.sub_self]; rfl
theorem byteN_eq {s : Bs} {i j : Nat} (h : i + j < (bs s).size) : byteN s i j = ((bs s)[i + j]'h).toNat := by
  rw [byteN, List.getD_eq_getElem?_getD, List.getElem?_drop, bs_at s (i + j) h]; rfl
end Lx
set_option maxRecDepth 100000 in
set_option maxHeartbeats 16000000 in
theorem size14_any (s : List UInt8) (hs : s.length ≤ 2000000) (i : Nat) (hi : i < (bs s).size) (w : World) {v : Nat} (H : Hid (Lx.charLen (s.drop i) = v)) : Calls Tryz.prog 80 #[.string (bs s), .int .i64 (i : Int)] w fun e w' => e = .returned (.int .i64 (v : Int)) ∧ w = w' := by
  have hz := bs_size s
  have HZ := Lib.hid hz
  have hs2 : (bs s).size ≤ 2000000 := by omega
  have j0 : (0 : Int) ≤ (i : Int) := by omega
  have j1 : (i : Int) < ((bs s).size : Int) := by omega
  have hv0 : Lx.charN (s.length - i) (Lx.byteN s i 0) (Lx.byteN s i 1) (Lx.byteN s i 2) (Lx.byteN s i 3) = v := by rw [← H.out, Lx.charLen, List.length_drop]; rfl
  rw [show Lx.byteN s i 0 = ((bs s)[i]'hi).toNat from Lx.byteN_eq (j := 0) hi, ← hz] at hv0
  obtain ⟨c, hcc⟩ : ∃ c, (bs s)[i]'hi = c := ⟨_, rfl⟩
  rw [hcc] at hv0
  have hby : c.toNat < 256 := UInt8.toNat_lt _
  clear H hz
  by_cases hA : c.toNat < 128
  · have t1 : decide ((c.toNat : Int) < 128) = true := by rw [decide_eq_true_eq]; omega
    have HV : Hid (v = 1) := by show _ = _; rw [← hv0, Lx.charN, if_pos hA]
    clear hv0 hA
    go_enter Tryz.func80, Tryz.ntmps80
    go_wp2_with fail
    go_ret
    exact ⟨by rw [HV.out]; rfl, rfl⟩
  by_cases hB : 194 ≤ c.toNat ∧ c.toNat ≤ 223
  · have t1 : decide ((c.toNat : Int) < 128) = false := by rw [decide_eq_false_iff_not]; omega
    have g1 : decide ((194 : Int) ≤ (c.toNat : Int)) = true := by rw [decide_eq_true_eq]; omega
    have g2 : decide ((c.toNat : Int) ≤ 223) = true := by rw [decide_eq_true_eq]; omega
    have e224 : ((c.toNat : Int) == 224) = false := by rw [beq_eq_false_iff_ne, ne_eq]; omega
    have e237 : ((c.toNat : Int) == 237) = false := by rw [beq_eq_false_iff_ne, ne_eq]; omega
    have e240 : ((c.toNat : Int) == 240) = false := by rw [beq_eq_false_iff_ne, ne_eq]; omega
    have e244 : ((c.toNat : Int) == 244) = false := by rw [beq_eq_false_iff_ne, ne_eq]; omega
    have hv1 : v = if 2 ≤ (bs s).size - i ∧ 128 ≤ Lx.byteN s i 1 ∧ Lx.byteN s i 1 ≤ 191 ∧ Lx.restOk s i 2 2 = true then 2 else 0 := by
      rw [← hv0]
      have hro : (Lx.restOk s i 2 2 = true) = (true = true) := by rw [Lx.rest_end]
      simp only [hro, and_true]
      obtain ⟨y1, hy1⟩ : ∃ y, Lx.byteN s i 1 = y := ⟨_, rfl⟩
      obtain ⟨y2, hy2⟩ : ∃ y, Lx.byteN s i 2 = y := ⟨_, rfl⟩
      obtain ⟨y3, hy3⟩ : ∃ y, Lx.byteN s i 3 = y := ⟨_, rfl⟩
      rw [hy1, hy2, hy3]
      unfold Lx.charN
      rw [if_neg hA]
      rw [if_pos hB]
      repeat' split
      all_goals first | rfl | omega
    clear hv0
    have HV1 := Lib.hid hv1
    clear hv1 hA hB
    rcases Nat.lt_or_ge (bs s).size (i + 2) with hsh | hsh
    · have j2 : decide (((bs s).size : Int) < (i : Int) + 2) = true := by rw [decide_eq_true_eq]; omega
      have HV : Hid (v = 0) := by show _ = _; rw [HV1.out, if_neg (fun h => by have := h.1; omega)]
      clear HV1
      go_enter Tryz.func80, Tryz.ntmps80
      go_wp2_with fail
      go_ret
      exact ⟨by rw [HV.out]; rfl, rfl⟩
    · have j2 : decide (((bs s).size : Int) < (i : Int) + 2) = false := by rw [decide_eq_false_iff_not]; omega
      have hx1 : i + 1 < (bs s).size := by omega
      have j3 : (i : Int) + 1 < ((bs s).size : Int) := by omega
      have j4 : (0 : Int) ≤ (i : Int) + 1 := by omega
      have hv2 := HV1.out
      rw [Lx.byteN_eq hx1] at hv2
      obtain ⟨x, hx⟩ : ∃ x, (bs s)[i + 1]'hx1 = x := ⟨_, rfl⟩
      rw [hx] at hv2
      have hbx : x.toNat < 256 := UInt8.toNat_lt _
      have hsz : 2 ≤ (bs s).size - i := by omega
      by_cases hlo : x.toNat < 128
      · have k1 : decide ((x.toNat : Int) < 128) = true := by rw [decide_eq_true_eq]; omega
        have HV : Hid (v = 0) := by show _ = _; rw [hv2, if_neg (fun h => by have := h.2.1; omega)]
        clear HV1 hv2 hlo hsz
        go_enter Tryz.func80, Tryz.ntmps80
        go_wp2_with fail
        go_ret
        exact ⟨by rw [HV.out]; rfl, rfl⟩
      have k1 : decide ((x.toNat : Int) < 128) = false := by rw [decide_eq_false_iff_not]; omega
      by_cases hhi : 191 < x.toNat
      · have k2 : decide ((191 : Int) < (x.toNat : Int)) = true := by rw [decide_eq_true_eq]; omega
        have HV : Hid (v = 0) := by show _ = _; rw [hv2, if_neg (fun h => by have := h.2.2.1; omega)]
        clear HV1 hv2 hlo hhi hsz
        go_enter Tryz.func80, Tryz.ntmps80
        go_wp2_with fail
        go_ret
        exact ⟨by rw [HV.out]; rfl, rfl⟩
      have k2 : decide ((191 : Int) < (x.toNat : Int)) = false := by rw [decide_eq_false_iff_not]; omega
      have HV : Hid (v = if Lx.restOk s i 2 2 = true then 2 else 0) := by
        show _ = _
        rw [hv2]
        by_cases hr : Lx.restOk s i 2 2 = true
        · rw [if_pos hr, if_pos ⟨hsz, by omega, by omega, hr⟩]
        · rw [if_neg hr, if_neg (fun h => hr h.2.2.2)]
      clear HV1 hv2 hlo hhi hsz
      go_enter Tryz.func80, Tryz.ntmps80
      go_wp2_with fail
      go_loopw [9] (fun t9 wr => ∃ k : Nat, 2 ≤ k ∧ k ≤ 2 ∧ t9 = .int .i64 (k : Int) ∧ Hid (v = if Lx.restOk s i 2 k = true then 2 else 0) ∧ w = wr) (fun t9 _ => 2 - (intOf t9).toNat)
      case atStart => exact ⟨2, by omega, by omega, rfl, HV, by first | rfl | trivial⟩
      case round =>
        clear HV
        obtain ⟨k, hk2, hkn, rfl, HR, rfl⟩ := hrel
        rcases Nat.lt_or_ge k 2 with hkl | hkl
        · have l0 : decide ((k : Int) < 2) = true := by rw [decide_eq_true_eq]; omega
          have l1 : (0 : Int) ≤ (i : Int) + (k : Int) := by omega
          have hik : i + k < (bs s).size := by omega
          have l2 : (i : Int) + (k : Int) < ((bs s).size : Int) := by omega
          have hR := HR.out
          rw [Lx.rest_step hkl, Lx.byteN_eq hik] at hR
          obtain ⟨y, hy⟩ : ∃ y, (bs s)[i + k]'hik = y := ⟨_, rfl⟩
          rw [hy] at hR
          have hbyy : y.toNat < 256 := UInt8.toNat_lt _
          by_cases h1 : y.toNat < 128
          · have m1 : decide ((y.toNat : Int) < 128) = true := by rw [decide_eq_true_eq]; omega
            have HV : Hid (v = 0) := by show _ = _; rw [hR, Lx.contB, decide_eq_false (by omega : ¬ 128 ≤ y.toNat)]; rfl
            clear hR HR h1
            go_wp2_with fail
            go_ret
            exact ⟨by rw [HV.out]; rfl, by first | rfl | trivial⟩
          have m1 : decide ((y.toNat : Int) < 128) = false := by rw [decide_eq_false_iff_not]; omega
          by_cases h2 : 191 < y.toNat
          · have m2 : decide ((191 : Int) < (y.toNat : Int)) = true := by rw [decide_eq_true_eq]; omega
            have HV : Hid (v = 0) := by show _ = _; rw [hR, Lx.contB, decide_eq_false (by omega : ¬ y.toNat ≤ 191), Bool.and_false]; rfl
            clear hR HR h1 h2
            go_wp2_with fail
            go_ret
            exact ⟨by rw [HV.out]; rfl, by first | rfl | trivial⟩
          have m2 : decide ((191 : Int) < (y.toNat : Int)) = false := by rw [decide_eq_false_iff_not]; omega
          have HV : Hid (v = if Lx.restOk s i 2 (k + 1) = true then 2 else 0) := by
            show _ = _
            rw [hR, Lx.contB, decide_eq_true (by omega : 128 ≤ y.toNat), decide_eq_true (by omega : y.toNat ≤ 191)]; rfl
          clear hR HR h1 h2
          go_wp2_with fail
          go_roundw
          case rel => exact ⟨k + 1, by omega, by omega, by go_num, HV, by first | rfl | trivial⟩
          case measure => simp [intOf]; omega
        · obtain rfl : k = 2 := by omega
          have HV : Hid (v = 2) := by show _ = _; rw [HR.out, Lx.rest_end]; rfl
          clear HR
          go_wp2_with fail
          go_ret
          exact ⟨by rw [HV.out]; rfl, by first | rfl | trivial⟩
  by_cases h3 : 224 ≤ c.toNat ∧ c.toNat ≤ 239
  · have t1 : decide ((c.toNat : Int) < 128) = false := by rw [decide_eq_false_iff_not]; omega
    have g1 : decide ((194 : Int) ≤ (c.toNat : Int)) = true := by rw [decide_eq_true_eq]; omega
    have g2 : decide ((c.toNat : Int) ≤ 223) = false := by rw [decide_eq_false_iff_not]; omega
    have g3 : decide ((224 : Int) ≤ (c.toNat : Int)) = true := by rw [decide_eq_true_eq]; omega
    have g4 : decide ((c.toNat : Int) ≤ 239) = true := by rw [decide_eq_true_eq]; omega
    by_cases h224 : c.toNat = 224
    · have e224 : ((c.toNat : Int) == 224) = true := by rw [beq_iff_eq]; omega
      have e237 : ((c.toNat : Int) == 237) = false := by rw [beq_eq_false_iff_ne, ne_eq]; omega
      have e240 : ((c.toNat : Int) == 240) = false := by rw [beq_eq_false_iff_ne, ne_eq]; omega
      have e244 : ((c.toNat : Int) == 244) = false := by rw [beq_eq_false_iff_ne, ne_eq]; omega
      have hv1 : v = if 3 ≤ (bs s).size - i ∧ 160 ≤ Lx.byteN s i 1 ∧ Lx.byteN s i 1 ≤ 191 ∧ Lx.restOk s i 3 2 = true then 3 else 0 := by
        rw [← hv0]
        have hro : (Lx.restOk s i 3 2 = true) = ((128 ≤ Lx.byteN s i 2 ∧ Lx.byteN s i 2 ≤ 191)) := by rw [Lx.rest_step (by omega), Lx.rest_end, Bool.and_true, Lx.contB, Bool.and_eq_true, decide_eq_true_eq, decide_eq_true_eq]
        simp only [hro]
        obtain ⟨y1, hy1⟩ : ∃ y, Lx.byteN s i 1 = y := ⟨_, rfl⟩
        obtain ⟨y2, hy2⟩ : ∃ y, Lx.byteN s i 2 = y := ⟨_, rfl⟩
        obtain ⟨y3, hy3⟩ : ∃ y, Lx.byteN s i 3 = y := ⟨_, rfl⟩
        rw [hy1, hy2, hy3]
        unfold Lx.charN
        rw [if_neg hA]
        rw [if_neg hB, if_pos h3]
        rw [if_pos h224, if_neg (show ¬ c.toNat = 237 by omega)]
        repeat' split
        all_goals first | rfl | omega
      clear hv0
      have HV1 := Lib.hid hv1
      clear hv1 hA hB h3 h224
      rcases Nat.lt_or_ge (bs s).size (i + 3) with hsh | hsh
      · have j2 : decide (((bs s).size : Int) < (i : Int) + 3) = true := by rw [decide_eq_true_eq]; omega
        have HV : Hid (v = 0) := by show _ = _; rw [HV1.out, if_neg (fun h => by have := h.1; omega)]
        clear HV1
        go_enter Tryz.func80, Tryz.ntmps80
        go_wp2_with fail
        go_ret
        exact ⟨by rw [HV.out]; rfl, rfl⟩
      · have j2 : decide (((bs s).size : Int) < (i : Int) + 3) = false := by rw [decide_eq_false_iff_not]; omega
        have hx1 : i + 1 < (bs s).size := by omega
        have j3 : (i : Int) + 1 < ((bs s).size : Int) := by omega
        have j4 : (0 : Int) ≤ (i : Int) + 1 := by omega
        have hv2 := HV1.out
        rw [Lx.byteN_eq hx1] at hv2
        obtain ⟨x, hx⟩ : ∃ x, (bs s)[i + 1]'hx1 = x := ⟨_, rfl⟩
        rw [hx] at hv2
        have hbx : x.toNat < 256 := UInt8.toNat_lt _
        have hsz : 3 ≤ (bs s).size - i := by omega
        by_cases hlo : x.toNat < 160
        · have k1 : decide ((x.toNat : Int) < 160) = true := by rw [decide_eq_true_eq]; omega
          have HV : Hid (v = 0) := by show _ = _; rw [hv2, if_neg (fun h => by have := h.2.1; omega)]
          clear HV1 hv2 hlo hsz
          go_enter Tryz.func80, Tryz.ntmps80
          go_wp2_with fail
          go_ret
          exact ⟨by rw [HV.out]; rfl, rfl⟩
        have k1 : decide ((x.toNat : Int) < 160) = false := by rw [decide_eq_false_iff_not]; omega
        by_cases hhi : 191 < x.toNat
        · have k2 : decide ((191 : Int) < (x.toNat : Int)) = true := by rw [decide_eq_true_eq]; omega
          have HV : Hid (v = 0) := by show _ = _; rw [hv2, if_neg (fun h => by have := h.2.2.1; omega)]
          clear HV1 hv2 hlo hhi hsz
          go_enter Tryz.func80, Tryz.ntmps80
          go_wp2_with fail
          go_ret
          exact ⟨by rw [HV.out]; rfl, rfl⟩
        have k2 : decide ((191 : Int) < (x.toNat : Int)) = false := by rw [decide_eq_false_iff_not]; omega
        have HV : Hid (v = if Lx.restOk s i 3 2 = true then 3 else 0) := by
          show _ = _
          rw [hv2]
          by_cases hr : Lx.restOk s i 3 2 = true
          · rw [if_pos hr, if_pos ⟨hsz, by omega, by omega, hr⟩]
          · rw [if_neg hr, if_neg (fun h => hr h.2.2.2)]
        clear HV1 hv2 hlo hhi hsz
        go_enter Tryz.func80, Tryz.ntmps80
        go_wp2_with fail
        go_loopw [9] (fun t9 wr => ∃ k : Nat, 2 ≤ k ∧ k ≤ 3 ∧ t9 = .int .i64 (k : Int) ∧ Hid (v = if Lx.restOk s i 3 k = true then 3 else 0) ∧ w = wr) (fun t9 _ => 3 - (intOf t9).toNat)
        case atStart => exact ⟨2, by omega, by omega, rfl, HV, by first | rfl | trivial⟩
        case round =>
          clear HV
          obtain ⟨k, hk2, hkn, rfl, HR, rfl⟩ := hrel
          rcases Nat.lt_or_ge k 3 with hkl | hkl
          · have l0 : decide ((k : Int) < 3) = true := by rw [decide_eq_true_eq]; omega
            have l1 : (0 : Int) ≤ (i : Int) + (k : Int) := by omega
            have hik : i + k < (bs s).size := by omega
            have l2 : (i : Int) + (k : Int) < ((bs s).size : Int) := by omega
            have hR := HR.out
            rw [Lx.rest_step hkl, Lx.byteN_eq hik] at hR
            obtain ⟨y, hy⟩ : ∃ y, (bs s)[i + k]'hik = y := ⟨_, rfl⟩
            rw [hy] at hR
            have hbyy : y.toNat < 256 := UInt8.toNat_lt _
            by_cases h1 : y.toNat < 128
            · have m1 : decide ((y.toNat : Int) < 128) = true := by rw [decide_eq_true_eq]; omega
              have HV : Hid (v = 0) := by show _ = _; rw [hR, Lx.contB, decide_eq_false (by omega : ¬ 128 ≤ y.toNat)]; rfl
              clear hR HR h1
              go_wp2_with fail
              go_ret
              exact ⟨by rw [HV.out]; rfl, by first | rfl | trivial⟩
            have m1 : decide ((y.toNat : Int) < 128) = false := by rw [decide_eq_false_iff_not]; omega
            by_cases h2 : 191 < y.toNat
            · have m2 : decide ((191 : Int) < (y.toNat : Int)) = true := by rw [decide_eq_true_eq]; omega
              have HV : Hid (v = 0) := by show _ = _; rw [hR, Lx.contB, decide_eq_false (by omega : ¬ y.toNat ≤ 191), Bool.and_false]; rfl
              clear hR HR h1 h2
              go_wp2_with fail
              go_ret
              exact ⟨by rw [HV.out]; rfl, by first | rfl | trivial⟩
            have m2 : decide ((191 : Int) < (y.toNat : Int)) = false := by rw [decide_eq_false_iff_not]; omega
            have HV : Hid (v = if Lx.restOk s i 3 (k + 1) = true then 3 else 0) := by
              show _ = _
              rw [hR, Lx.contB, decide_eq_true (by omega : 128 ≤ y.toNat), decide_eq_true (by omega : y.toNat ≤ 191)]; rfl
            clear hR HR h1 h2
            go_wp2_with fail
            go_roundw
            case rel => exact ⟨k + 1, by omega, by omega, by go_num, HV, by first | rfl | trivial⟩
            case measure => simp [intOf]; omega
          · obtain rfl : k = 3 := by omega
            have HV : Hid (v = 3) := by show _ = _; rw [HR.out, Lx.rest_end]; rfl
            clear HR
            go_wp2_with fail
            go_ret
            exact ⟨by rw [HV.out]; rfl, by first | rfl | trivial⟩
    by_cases h237 : c.toNat = 237
    · have e224 : ((c.toNat : Int) == 224) = false := by rw [beq_eq_false_iff_ne, ne_eq]; omega
      have e237 : ((c.toNat : Int) == 237) = true := by rw [beq_iff_eq]; omega
      have e240 : ((c.toNat : Int) == 240) = false := by rw [beq_eq_false_iff_ne, ne_eq]; omega
      have e244 : ((c.toNat : Int) == 244) = false := by rw [beq_eq_false_iff_ne, ne_eq]; omega
      have hv1 : v = if 3 ≤ (bs s).size - i ∧ 128 ≤ Lx.byteN s i 1 ∧ Lx.byteN s i 1 ≤ 159 ∧ Lx.restOk s i 3 2 = true then 3 else 0 := by
        rw [← hv0]
        have hro : (Lx.restOk s i 3 2 = true) = ((128 ≤ Lx.byteN s i 2 ∧ Lx.byteN s i 2 ≤ 191)) := by rw [Lx.rest_step (by omega), Lx.rest_end, Bool.and_true, Lx.contB, Bool.and_eq_true, decide_eq_true_eq, decide_eq_true_eq]
        simp only [hro]
        obtain ⟨y1, hy1⟩ : ∃ y, Lx.byteN s i 1 = y := ⟨_, rfl⟩
        obtain ⟨y2, hy2⟩ : ∃ y, Lx.byteN s i 2 = y := ⟨_, rfl⟩
        obtain ⟨y3, hy3⟩ : ∃ y, Lx.byteN s i 3 = y := ⟨_, rfl⟩
        rw [hy1, hy2, hy3]
        unfold Lx.charN
        rw [if_neg hA]
        rw [if_neg hB, if_pos h3]
        rw [if_neg h224, if_pos h237]
        repeat' split
        all_goals first | rfl | omega
      clear hv0
      have HV1 := Lib.hid hv1
      clear hv1 hA hB h3 h224 h237
      rcases Nat.lt_or_ge (bs s).size (i + 3) with hsh | hsh
      · have j2 : decide (((bs s).size : Int) < (i : Int) + 3) = true := by rw [decide_eq_true_eq]; omega
        have HV : Hid (v = 0) := by show _ = _; rw [HV1.out, if_neg (fun h => by have := h.1; omega)]
        clear HV1
        go_enter Tryz.func80, Tryz.ntmps80
        go_wp2_with fail
        go_ret
        exact ⟨by rw [HV.out]; rfl, rfl⟩
      · have j2 : decide (((bs s).size : Int) < (i : Int) + 3) = false := by rw [decide_eq_false_iff_not]; omega
        have hx1 : i + 1 < (bs s).size := by omega
        have j3 : (i : Int) + 1 < ((bs s).size : Int) := by omega
        have j4 : (0 : Int) ≤ (i : Int) + 1 := by omega
        have hv2 := HV1.out
        rw [Lx.byteN_eq hx1] at hv2
        obtain ⟨x, hx⟩ : ∃ x, (bs s)[i + 1]'hx1 = x := ⟨_, rfl⟩
        rw [hx] at hv2
        have hbx : x.toNat < 256 := UInt8.toNat_lt _
        have hsz : 3 ≤ (bs s).size - i := by omega
        by_cases hlo : x.toNat < 128
        · have k1 : decide ((x.toNat : Int) < 128) = true := by rw [decide_eq_true_eq]; omega
          have HV : Hid (v = 0) := by show _ = _; rw [hv2, if_neg (fun h => by have := h.2.1; omega)]
          clear HV1 hv2 hlo hsz
          go_enter Tryz.func80, Tryz.ntmps80
          go_wp2_with fail
          go_ret
          exact ⟨by rw [HV.out]; rfl, rfl⟩
        have k1 : decide ((x.toNat : Int) < 128) = false := by rw [decide_eq_false_iff_not]; omega
        by_cases hhi : 159 < x.toNat
        · have k2 : decide ((159 : Int) < (x.toNat : Int)) = true := by rw [decide_eq_true_eq]; omega
          have HV : Hid (v = 0) := by show _ = _; rw [hv2, if_neg (fun h => by have := h.2.2.1; omega)]
          clear HV1 hv2 hlo hhi hsz
          go_enter Tryz.func80, Tryz.ntmps80
          go_wp2_with fail
          go_ret
          exact ⟨by rw [HV.out]; rfl, rfl⟩
        have k2 : decide ((159 : Int) < (x.toNat : Int)) = false := by rw [decide_eq_false_iff_not]; omega
        have HV : Hid (v = if Lx.restOk s i 3 2 = true then 3 else 0) := by
          show _ = _
          rw [hv2]
          by_cases hr : Lx.restOk s i 3 2 = true
          · rw [if_pos hr, if_pos ⟨hsz, by omega, by omega, hr⟩]
          · rw [if_neg hr, if_neg (fun h => hr h.2.2.2)]
        clear HV1 hv2 hlo hhi hsz
        go_enter Tryz.func80, Tryz.ntmps80
        go_wp2_with fail
        go_loopw [9] (fun t9 wr => ∃ k : Nat, 2 ≤ k ∧ k ≤ 3 ∧ t9 = .int .i64 (k : Int) ∧ Hid (v = if Lx.restOk s i 3 k = true then 3 else 0) ∧ w = wr) (fun t9 _ => 3 - (intOf t9).toNat)
        case atStart => exact ⟨2, by omega, by omega, rfl, HV, by first | rfl | trivial⟩
        case round =>
          clear HV
          obtain ⟨k, hk2, hkn, rfl, HR, rfl⟩ := hrel
          rcases Nat.lt_or_ge k 3 with hkl | hkl
          · have l0 : decide ((k : Int) < 3) = true := by rw [decide_eq_true_eq]; omega
            have l1 : (0 : Int) ≤ (i : Int) + (k : Int) := by omega
            have hik : i + k < (bs s).size := by omega
            have l2 : (i : Int) + (k : Int) < ((bs s).size : Int) := by omega
            have hR := HR.out
            rw [Lx.rest_step hkl, Lx.byteN_eq hik] at hR
            obtain ⟨y, hy⟩ : ∃ y, (bs s)[i + k]'hik = y := ⟨_, rfl⟩
            rw [hy] at hR
            have hbyy : y.toNat < 256 := UInt8.toNat_lt _
            by_cases h1 : y.toNat < 128
            · have m1 : decide ((y.toNat : Int) < 128) = true := by rw [decide_eq_true_eq]; omega
              have HV : Hid (v = 0) := by show _ = _; rw [hR, Lx.contB, decide_eq_false (by omega : ¬ 128 ≤ y.toNat)]; rfl
              clear hR HR h1
              go_wp2_with fail
              go_ret
              exact ⟨by rw [HV.out]; rfl, by first | rfl | trivial⟩
            have m1 : decide ((y.toNat : Int) < 128) = false := by rw [decide_eq_false_iff_not]; omega
            by_cases h2 : 191 < y.toNat
            · have m2 : decide ((191 : Int) < (y.toNat : Int)) = true := by rw [decide_eq_true_eq]; omega
              have HV : Hid (v = 0) := by show _ = _; rw [hR, Lx.contB, decide_eq_false (by omega : ¬ y.toNat ≤ 191), Bool.and_false]; rfl
              clear hR HR h1 h2
              go_wp2_with fail
              go_ret
              exact ⟨by rw [HV.out]; rfl, by first | rfl | trivial⟩
            have m2 : decide ((191 : Int) < (y.toNat : Int)) = false := by rw [decide_eq_false_iff_not]; omega
            have HV : Hid (v = if Lx.restOk s i 3 (k + 1) = true then 3 else 0) := by
              show _ = _
              rw [hR, Lx.contB, decide_eq_true (by omega : 128 ≤ y.toNat), decide_eq_true (by omega : y.toNat ≤ 191)]; rfl
            clear hR HR h1 h2
            go_wp2_with fail
            go_roundw
            case rel => exact ⟨k + 1, by omega, by omega, by go_num, HV, by first | rfl | trivial⟩
            case measure => simp [intOf]; omega
          · obtain rfl : k = 3 := by omega
            have HV : Hid (v = 3) := by show _ = _; rw [HR.out, Lx.rest_end]; rfl
            clear HR
            go_wp2_with fail
            go_ret
            exact ⟨by rw [HV.out]; rfl, by first | rfl | trivial⟩
    · have e224 : ((c.toNat : Int) == 224) = false := by rw [beq_eq_false_iff_ne, ne_eq]; omega
      have e237 : ((c.toNat : Int) == 237) = false := by rw [beq_eq_false_iff_ne, ne_eq]; omega
      have e240 : ((c.toNat : Int) == 240) = false := by rw [beq_eq_false_iff_ne, ne_eq]; omega
      have e244 : ((c.toNat : Int) == 244) = false := by rw [beq_eq_false_iff_ne, ne_eq]; omega
      have hv1 : v = if 3 ≤ (bs s).size - i ∧ 128 ≤ Lx.byteN s i 1 ∧ Lx.byteN s i 1 ≤ 191 ∧ Lx.restOk s i 3 2 = true then 3 else 0 := by
        rw [← hv0]
        have hro : (Lx.restOk s i 3 2 = true) = ((128 ≤ Lx.byteN s i 2 ∧ Lx.byteN s i 2 ≤ 191)) := by rw [Lx.rest_step (by omega), Lx.rest_end, Bool.and_true, Lx.contB, Bool.and_eq_true, decide_eq_true_eq, decide_eq_true_eq]
        simp only [hro]
        obtain ⟨y1, hy1⟩ : ∃ y, Lx.byteN s i 1 = y := ⟨_, rfl⟩
        obtain ⟨y2, hy2⟩ : ∃ y, Lx.byteN s i 2 = y := ⟨_, rfl⟩
        obtain ⟨y3, hy3⟩ : ∃ y, Lx.byteN s i 3 = y := ⟨_, rfl⟩
        rw [hy1, hy2, hy3]
        unfold Lx.charN
        rw [if_neg hA]
        rw [if_neg hB, if_pos h3]
        rw [if_neg h224, if_neg h237]
        repeat' split
        all_goals first | rfl | omega
      clear hv0
      have HV1 := Lib.hid hv1
      clear hv1 hA hB h3 h224 h237
      rcases Nat.lt_or_ge (bs s).size (i + 3) with hsh | hsh
      · have j2 : decide (((bs s).size : Int) < (i : Int) + 3) = true := by rw [decide_eq_true_eq]; omega
        have HV : Hid (v = 0) := by show _ = _; rw [HV1.out, if_neg (fun h => by have := h.1; omega)]
        clear HV1
        go_enter Tryz.func80, Tryz.ntmps80
        go_wp2_with fail
        go_ret
        exact ⟨by rw [HV.out]; rfl, rfl⟩
      · have j2 : decide (((bs s).size : Int) < (i : Int) + 3) = false := by rw [decide_eq_false_iff_not]; omega
        have hx1 : i + 1 < (bs s).size := by omega
        have j3 : (i : Int) + 1 < ((bs s).size : Int) := by omega
        have j4 : (0 : Int) ≤ (i : Int) + 1 := by omega
        have hv2 := HV1.out
        rw [Lx.byteN_eq hx1] at hv2
        obtain ⟨x, hx⟩ : ∃ x, (bs s)[i + 1]'hx1 = x := ⟨_, rfl⟩
        rw [hx] at hv2
        have hbx : x.toNat < 256 := UInt8.toNat_lt _
        have hsz : 3 ≤ (bs s).size - i := by omega
        by_cases hlo : x.toNat < 128
        · have k1 : decide ((x.toNat : Int) < 128) = true := by rw [decide_eq_true_eq]; omega
          have HV : Hid (v = 0) := by show _ = _; rw [hv2, if_neg (fun h => by have := h.2.1; omega)]
          clear HV1 hv2 hlo hsz
          go_enter Tryz.func80, Tryz.ntmps80
          go_wp2_with fail
          go_ret
          exact ⟨by rw [HV.out]; rfl, rfl⟩
        have k1 : decide ((x.toNat : Int) < 128) = false := by rw [decide_eq_false_iff_not]; omega
        by_cases hhi : 191 < x.toNat
        · have k2 : decide ((191 : Int) < (x.toNat : Int)) = true := by rw [decide_eq_true_eq]; omega
          have HV : Hid (v = 0) := by show _ = _; rw [hv2, if_neg (fun h => by have := h.2.2.1; omega)]
          clear HV1 hv2 hlo hhi hsz
          go_enter Tryz.func80, Tryz.ntmps80
          go_wp2_with fail
          go_ret
          exact ⟨by rw [HV.out]; rfl, rfl⟩
        have k2 : decide ((191 : Int) < (x.toNat : Int)) = false := by rw [decide_eq_false_iff_not]; omega
        have HV : Hid (v = if Lx.restOk s i 3 2 = true then 3 else 0) := by
          show _ = _
          rw [hv2]
          by_cases hr : Lx.restOk s i 3 2 = true
          · rw [if_pos hr, if_pos ⟨hsz, by omega, by omega, hr⟩]
          · rw [if_neg hr, if_neg (fun h => hr h.2.2.2)]
        clear HV1 hv2 hlo hhi hsz
        go_enter Tryz.func80, Tryz.ntmps80
        go_wp2_with fail
        go_loopw [9] (fun t9 wr => ∃ k : Nat, 2 ≤ k ∧ k ≤ 3 ∧ t9 = .int .i64 (k : Int) ∧ Hid (v = if Lx.restOk s i 3 k = true then 3 else 0) ∧ w = wr) (fun t9 _ => 3 - (intOf t9).toNat)
        case atStart => exact ⟨2, by omega, by omega, rfl, HV, by first | rfl | trivial⟩
        case round =>
          clear HV
          obtain ⟨k, hk2, hkn, rfl, HR, rfl⟩ := hrel
          rcases Nat.lt_or_ge k 3 with hkl | hkl
          · have l0 : decide ((k : Int) < 3) = true := by rw [decide_eq_true_eq]; omega
            have l1 : (0 : Int) ≤ (i : Int) + (k : Int) := by omega
            have hik : i + k < (bs s).size := by omega
            have l2 : (i : Int) + (k : Int) < ((bs s).size : Int) := by omega
            have hR := HR.out
            rw [Lx.rest_step hkl, Lx.byteN_eq hik] at hR
            obtain ⟨y, hy⟩ : ∃ y, (bs s)[i + k]'hik = y := ⟨_, rfl⟩
            rw [hy] at hR
            have hbyy : y.toNat < 256 := UInt8.toNat_lt _
            by_cases h1 : y.toNat < 128
            · have m1 : decide ((y.toNat : Int) < 128) = true := by rw [decide_eq_true_eq]; omega
              have HV : Hid (v = 0) := by show _ = _; rw [hR, Lx.contB, decide_eq_false (by omega : ¬ 128 ≤ y.toNat)]; rfl
              clear hR HR h1
              go_wp2_with fail
              go_ret
              exact ⟨by rw [HV.out]; rfl, by first | rfl | trivial⟩
            have m1 : decide ((y.toNat : Int) < 128) = false := by rw [decide_eq_false_iff_not]; omega
            by_cases h2 : 191 < y.toNat
            · have m2 : decide ((191 : Int) < (y.toNat : Int)) = true := by rw [decide_eq_true_eq]; omega
              have HV : Hid (v = 0) := by show _ = _; rw [hR, Lx.contB, decide_eq_false (by omega : ¬ y.toNat ≤ 191), Bool.and_false]; rfl
              clear hR HR h1 h2
              go_wp2_with fail
              go_ret
              exact ⟨by rw [HV.out]; rfl, by first | rfl | trivial⟩
            have m2 : decide ((191 : Int) < (y.toNat : Int)) = false := by rw [decide_eq_false_iff_not]; omega
            have HV : Hid (v = if Lx.restOk s i 3 (k + 1) = true then 3 else 0) := by
              show _ = _
              rw [hR, Lx.contB, decide_eq_true (by omega : 128 ≤ y.toNat), decide_eq_true (by omega : y.toNat ≤ 191)]; rfl
            clear hR HR h1 h2
            go_wp2_with fail
            go_roundw
            case rel => exact ⟨k + 1, by omega, by omega, by go_num, HV, by first | rfl | trivial⟩
            case measure => simp [intOf]; omega
          · obtain rfl : k = 3 := by omega
            have HV : Hid (v = 3) := by show _ = _; rw [HR.out, Lx.rest_end]; rfl
            clear HR
            go_wp2_with fail
            go_ret
            exact ⟨by rw [HV.out]; rfl, by first | rfl | trivial⟩
  by_cases h4 : 240 ≤ c.toNat ∧ c.toNat ≤ 244
  · have t1 : decide ((c.toNat : Int) < 128) = false := by rw [decide_eq_false_iff_not]; omega
    have g1 : decide ((194 : Int) ≤ (c.toNat : Int)) = true := by rw [decide_eq_true_eq]; omega
    have g2 : decide ((c.toNat : Int) ≤ 223) = false := by rw [decide_eq_false_iff_not]; omega
    have g3 : decide ((224 : Int) ≤ (c.toNat : Int)) = true := by rw [decide_eq_true_eq]; omega
    have g4 : decide ((c.toNat : Int) ≤ 239) = false := by rw [decide_eq_false_iff_not]; omega
    have g5 : decide ((240 : Int) ≤ (c.toNat : Int)) = true := by rw [decide_eq_true_eq]; omega
    have g6 : decide ((c.toNat : Int) ≤ 244) = true := by rw [decide_eq_true_eq]; omega
    by_cases h240 : c.toNat = 240
    · have e224 : ((c.toNat : Int) == 224) = false := by rw [beq_eq_false_iff_ne, ne_eq]; omega
      have e237 : ((c.toNat : Int) == 237) = false := by rw [beq_eq_false_iff_ne, ne_eq]; omega
      have e240 : ((c.toNat : Int) == 240) = true := by rw [beq_iff_eq]; omega
      have e244 : ((c.toNat : Int) == 244) = false := by rw [beq_eq_false_iff_ne, ne_eq]; omega
      have hv1 : v = if 4 ≤ (bs s).size - i ∧ 144 ≤ Lx.byteN s i 1 ∧ Lx.byteN s i 1 ≤ 191 ∧ Lx.restOk s i 4 2 = true then 4 else 0 := by
        rw [← hv0]
        have hro : (Lx.restOk s i 4 2 = true) = (((128 ≤ Lx.byteN s i 2 ∧ Lx.byteN s i 2 ≤ 191) ∧ (128 ≤ Lx.byteN s i 3 ∧ Lx.byteN s i 3 ≤ 191))) := by rw [Lx.rest_step (by omega), Lx.rest_step (by omega), Lx.rest_end, Bool.and_true]; simp only [Lx.contB, Bool.and_eq_true, decide_eq_true_eq]
        simp only [hro]
        obtain ⟨y1, hy1⟩ : ∃ y, Lx.byteN s i 1 = y := ⟨_, rfl⟩
        obtain ⟨y2, hy2⟩ : ∃ y, Lx.byteN s i 2 = y := ⟨_, rfl⟩
        obtain ⟨y3, hy3⟩ : ∃ y, Lx.byteN s i 3 = y := ⟨_, rfl⟩
        rw [hy1, hy2, hy3]
        unfold Lx.charN
        rw [if_neg hA]
        rw [if_neg hB, if_neg h3, if_pos h4]
        rw [if_pos h240, if_neg (show ¬ c.toNat = 244 by omega)]
        repeat' split
        all_goals first | rfl | omega
      clear hv0
      have HV1 := Lib.hid hv1
      clear hv1 hA hB h3 h4 h240
      rcases Nat.lt_or_ge (bs s).size (i + 4) with hsh | hsh
      · have j2 : decide (((bs s).size : Int) < (i : Int) + 4) = true := by rw [decide_eq_true_eq]; omega
        have HV : Hid (v = 0) := by show _ = _; rw [HV1.out, if_neg (fun h => by have := h.1; omega)]
        clear HV1
        go_enter Tryz.func80, Tryz.ntmps80
        go_wp2_with fail
        go_ret
        exact ⟨by rw [HV.out]; rfl, rfl⟩
      · have j2 : decide (((bs s).size : Int) < (i : Int) + 4) = false := by rw [decide_eq_false_iff_not]; omega
        have hx1 : i + 1 < (bs s).size := by omega
        have j3 : (i : Int) + 1 < ((bs s).size : Int) := by omega
        have j4 : (0 : Int) ≤ (i : Int) + 1 := by omega
        have hv2 := HV1.out
        rw [Lx.byteN_eq hx1] at hv2
        obtain ⟨x, hx⟩ : ∃ x, (bs s)[i + 1]'hx1 = x := ⟨_, rfl⟩
        rw [hx] at hv2
        have hbx : x.toNat < 256 := UInt8.toNat_lt _
        have hsz : 4 ≤ (bs s).size - i := by omega
        by_cases hlo : x.toNat < 144
        · have k1 : decide ((x.toNat : Int) < 144) = true := by rw [decide_eq_true_eq]; omega
          have HV : Hid (v = 0) := by show _ = _; rw [hv2, if_neg (fun h => by have := h.2.1; omega)]
          clear HV1 hv2 hlo hsz
          go_enter Tryz.func80, Tryz.ntmps80
          go_wp2_with fail
          go_ret
          exact ⟨by rw [HV.out]; rfl, rfl⟩
        have k1 : decide ((x.toNat : Int) < 144) = false := by rw [decide_eq_false_iff_not]; omega
        by_cases hhi : 191 < x.toNat
        · have k2 : decide ((191 : Int) < (x.toNat : Int)) = true := by rw [decide_eq_true_eq]; omega
          have HV : Hid (v = 0) := by show _ = _; rw [hv2, if_neg (fun h => by have := h.2.2.1; omega)]
          clear HV1 hv2 hlo hhi hsz
          go_enter Tryz.func80, Tryz.ntmps80
          go_wp2_with fail
          go_ret
          exact ⟨by rw [HV.out]; rfl, rfl⟩
        have k2 : decide ((191 : Int) < (x.toNat : Int)) = false := by rw [decide_eq_false_iff_not]; omega
        have HV : Hid (v = if Lx.restOk s i 4 2 = true then 4 else 0) := by
          show _ = _
          rw [hv2]
          by_cases hr : Lx.restOk s i 4 2 = true
          · rw [if_pos hr, if_pos ⟨hsz, by omega, by omega, hr⟩]
          · rw [if_neg hr, if_neg (fun h => hr h.2.2.2)]
        clear HV1 hv2 hlo hhi hsz
        go_enter Tryz.func80, Tryz.ntmps80
        go_wp2_with fail
        go_loopw [9] (fun t9 wr => ∃ k : Nat, 2 ≤ k ∧ k ≤ 4 ∧ t9 = .int .i64 (k : Int) ∧ Hid (v = if Lx.restOk s i 4 k = true then 4 else 0) ∧ w = wr) (fun t9 _ => 4 - (intOf t9).toNat)
        case atStart => exact ⟨2, by omega, by omega, rfl, HV, by first | rfl | trivial⟩
        case round =>
          clear HV
          obtain ⟨k, hk2, hkn, rfl, HR, rfl⟩ := hrel
          rcases Nat.lt_or_ge k 4 with hkl | hkl
          · have l0 : decide ((k : Int) < 4) = true := by rw [decide_eq_true_eq]; omega
            have l1 : (0 : Int) ≤ (i : Int) + (k : Int) := by omega
            have hik : i + k < (bs s).size := by omega
            have l2 : (i : Int) + (k : Int) < ((bs s).size : Int) := by omega
            have hR := HR.out
            rw [Lx.rest_step hkl, Lx.byteN_eq hik] at hR
            obtain ⟨y, hy⟩ : ∃ y, (bs s)[i + k]'hik = y := ⟨_, rfl⟩
            rw [hy] at hR
            have hbyy : y.toNat < 256 := UInt8.toNat_lt _
            by_cases h1 : y.toNat < 128
            · have m1 : decide ((y.toNat : Int) < 128) = true := by rw [decide_eq_true_eq]; omega
              have HV : Hid (v = 0) := by show _ = _; rw [hR, Lx.contB, decide_eq_false (by omega : ¬ 128 ≤ y.toNat)]; rfl
              clear hR HR h1
              go_wp2_with fail
              go_ret
              exact ⟨by rw [HV.out]; rfl, by first | rfl | trivial⟩
            have m1 : decide ((y.toNat : Int) < 128) = false := by rw [decide_eq_false_iff_not]; omega
            by_cases h2 : 191 < y.toNat
            · have m2 : decide ((191 : Int) < (y.toNat : Int)) = true := by rw [decide_eq_true_eq]; omega
              have HV : Hid (v = 0) := by show _ = _; rw [hR, Lx.contB, decide_eq_false (by omega : ¬ y.toNat ≤ 191), Bool.and_false]; rfl
              clear hR HR h1 h2
              go_wp2_with fail
              go_ret
              exact ⟨by rw [HV.out]; rfl, by first | rfl | trivial⟩
            have m2 : decide ((191 : Int) < (y.toNat : Int)) = false := by rw [decide_eq_false_iff_not]; omega
            have HV : Hid (v = if Lx.restOk s i 4 (k + 1) = true then 4 else 0) := by
              show _ = _
              rw [hR, Lx.contB, decide_eq_true (by omega : 128 ≤ y.toNat), decide_eq_true (by omega : y.toNat ≤ 191)]; rfl
            clear hR HR h1 h2
            go_wp2_with fail
            go_roundw
            case rel => exact ⟨k + 1, by omega, by omega, by go_num, HV, by first | rfl | trivial⟩
            case measure => simp [intOf]; omega
          · obtain rfl : k = 4 := by omega
            have HV : Hid (v = 4) := by show _ = _; rw [HR.out, Lx.rest_end]; rfl
            clear HR
            go_wp2_with fail
            go_ret
            exact ⟨by rw [HV.out]; rfl, by first | rfl | trivial⟩
    by_cases h244 : c.toNat = 244
    · have e224 : ((c.toNat : Int) == 224) = false := by rw [beq_eq_false_iff_ne, ne_eq]; omega
      have e237 : ((c.toNat : Int) == 237) = false := by rw [beq_eq_false_iff_ne, ne_eq]; omega
      have e240 : ((c.toNat : Int) == 240) = false := by rw [beq_eq_false_iff_ne, ne_eq]; omega
      have e244 : ((c.toNat : Int) == 244) = true := by rw [beq_iff_eq]; omega
      have hv1 : v = if 4 ≤ (bs s).size - i ∧ 128 ≤ Lx.byteN s i 1 ∧ Lx.byteN s i 1 ≤ 143 ∧ Lx.restOk s i 4 2 = true then 4 else 0 := by
        rw [← hv0]
        have hro : (Lx.restOk s i 4 2 = true) = (((128 ≤ Lx.byteN s i 2 ∧ Lx.byteN s i 2 ≤ 191) ∧ (128 ≤ Lx.byteN s i 3 ∧ Lx.byteN s i 3 ≤ 191))) := by rw [Lx.rest_step (by omega), Lx.rest_step (by omega), Lx.rest_end, Bool.and_true]; simp only [Lx.contB, Bool.and_eq_true, decide_eq_true_eq]
        simp only [hro]
        obtain ⟨y1, hy1⟩ : ∃ y, Lx.byteN s i 1 = y := ⟨_, rfl⟩
        obtain ⟨y2, hy2⟩ : ∃ y, Lx.byteN s i 2 = y := ⟨_, rfl⟩
        obtain ⟨y3, hy3⟩ : ∃ y, Lx.byteN s i 3 = y := ⟨_, rfl⟩
        rw [hy1, hy2, hy3]
        unfold Lx.charN
        rw [if_neg hA]
        rw [if_neg hB, if_neg h3, if_pos h4]
        rw [if_neg h240, if_pos h244]
        repeat' split
        all_goals first | rfl | omega
      clear hv0
      have HV1 := Lib.hid hv1
      clear hv1 hA hB h3 h4 h240 h244
      rcases Nat.lt_or_ge (bs s).size (i + 4) with hsh | hsh
      · have j2 : decide (((bs s).size : Int) < (i : Int) + 4) = true := by rw [decide_eq_true_eq]; omega
        have HV : Hid (v = 0) := by show _ = _; rw [HV1.out, if_neg (fun h => by have := h.1; omega)]
        clear HV1
        go_enter Tryz.func80, Tryz.ntmps80
        go_wp2_with fail
        go_ret
        exact ⟨by rw [HV.out]; rfl, rfl⟩
      · have j2 : decide (((bs s).size : Int) < (i : Int) + 4) = false := by rw [decide_eq_false_iff_not]; omega
        have hx1 : i + 1 < (bs s).size := by omega
        have j3 : (i : Int) + 1 < ((bs s).size : Int) := by omega
        have j4 : (0 : Int) ≤ (i : Int) + 1 := by omega
        have hv2 := HV1.out
        rw [Lx.byteN_eq hx1] at hv2
        obtain ⟨x, hx⟩ : ∃ x, (bs s)[i + 1]'hx1 = x := ⟨_, rfl⟩
        rw [hx] at hv2
        have hbx : x.toNat < 256 := UInt8.toNat_lt _
        have hsz : 4 ≤ (bs s).size - i := by omega
        by_cases hlo : x.toNat < 128
        · have k1 : decide ((x.toNat : Int) < 128) = true := by rw [decide_eq_true_eq]; omega
          have HV : Hid (v = 0) := by show _ = _; rw [hv2, if_neg (fun h => by have := h.2.1; omega)]
          clear HV1 hv2 hlo hsz
          go_enter Tryz.func80, Tryz.ntmps80
          go_wp2_with fail
          go_ret
          exact ⟨by rw [HV.out]; rfl, rfl⟩
        have k1 : decide ((x.toNat : Int) < 128) = false := by rw [decide_eq_false_iff_not]; omega
        by_cases hhi : 143 < x.toNat
        · have k2 : decide ((143 : Int) < (x.toNat : Int)) = true := by rw [decide_eq_true_eq]; omega
          have HV : Hid (v = 0) := by show _ = _; rw [hv2, if_neg (fun h => by have := h.2.2.1; omega)]
          clear HV1 hv2 hlo hhi hsz
          go_enter Tryz.func80, Tryz.ntmps80
          go_wp2_with fail
          go_ret
          exact ⟨by rw [HV.out]; rfl, rfl⟩
        have k2 : decide ((143 : Int) < (x.toNat : Int)) = false := by rw [decide_eq_false_iff_not]; omega
        have HV : Hid (v = if Lx.restOk s i 4 2 = true then 4 else 0) := by
          show _ = _
          rw [hv2]
          by_cases hr : Lx.restOk s i 4 2 = true
          · rw [if_pos hr, if_pos ⟨hsz, by omega, by omega, hr⟩]
          · rw [if_neg hr, if_neg (fun h => hr h.2.2.2)]
        clear HV1 hv2 hlo hhi hsz
        go_enter Tryz.func80, Tryz.ntmps80
        go_wp2_with fail
        go_loopw [9] (fun t9 wr => ∃ k : Nat, 2 ≤ k ∧ k ≤ 4 ∧ t9 = .int .i64 (k : Int) ∧ Hid (v = if Lx.restOk s i 4 k = true then 4 else 0) ∧ w = wr) (fun t9 _ => 4 - (intOf t9).toNat)
        case atStart => exact ⟨2, by omega, by omega, rfl, HV, by first | rfl | trivial⟩
        case round =>
          clear HV
          obtain ⟨k, hk2, hkn, rfl, HR, rfl⟩ := hrel
          rcases Nat.lt_or_ge k 4 with hkl | hkl
          · have l0 : decide ((k : Int) < 4) = true := by rw [decide_eq_true_eq]; omega
            have l1 : (0 : Int) ≤ (i : Int) + (k : Int) := by omega
            have hik : i + k < (bs s).size := by omega
            have l2 : (i : Int) + (k : Int) < ((bs s).size : Int) := by omega
            have hR := HR.out
            rw [Lx.rest_step hkl, Lx.byteN_eq hik] at hR
            obtain ⟨y, hy⟩ : ∃ y, (bs s)[i + k]'hik = y := ⟨_, rfl⟩
            rw [hy] at hR
            have hbyy : y.toNat < 256 := UInt8.toNat_lt _
            by_cases h1 : y.toNat < 128
            · have m1 : decide ((y.toNat : Int) < 128) = true := by rw [decide_eq_true_eq]; omega
              have HV : Hid (v = 0) := by show _ = _; rw [hR, Lx.contB, decide_eq_false (by omega : ¬ 128 ≤ y.toNat)]; rfl
              clear hR HR h1
              go_wp2_with fail
              go_ret
              exact ⟨by rw [HV.out]; rfl, by first | rfl | trivial⟩
            have m1 : decide ((y.toNat : Int) < 128) = false := by rw [decide_eq_false_iff_not]; omega
            by_cases h2 : 191 < y.toNat
            · have m2 : decide ((191 : Int) < (y.toNat : Int)) = true := by rw [decide_eq_true_eq]; omega
              have HV : Hid (v = 0) := by show _ = _; rw [hR, Lx.contB, decide_eq_false (by omega : ¬ y.toNat ≤ 191), Bool.and_false]; rfl
              clear hR HR h1 h2
              go_wp2_with fail
              go_ret
              exact ⟨by rw [HV.out]; rfl, by first | rfl | trivial⟩
            have m2 : decide ((191 : Int) < (y.toNat : Int)) = false := by rw [decide_eq_false_iff_not]; omega
            have HV : Hid (v = if Lx.restOk s i 4 (k + 1) = true then 4 else 0) := by
              show _ = _
              rw [hR, Lx.contB, decide_eq_true (by omega : 128 ≤ y.toNat), decide_eq_true (by omega : y.toNat ≤ 191)]; rfl
            clear hR HR h1 h2
            go_wp2_with fail
            go_roundw
            case rel => exact ⟨k + 1, by omega, by omega, by go_num, HV, by first | rfl | trivial⟩
            case measure => simp [intOf]; omega
          · obtain rfl : k = 4 := by omega
            have HV : Hid (v = 4) := by show _ = _; rw [HR.out, Lx.rest_end]; rfl
            clear HR
            go_wp2_with fail
            go_ret
            exact ⟨by rw [HV.out]; rfl, by first | rfl | trivial⟩
    · have e224 : ((c.toNat : Int) == 224) = false := by rw [beq_eq_false_iff_ne, ne_eq]; omega
      have e237 : ((c.toNat : Int) == 237) = false := by rw [beq_eq_false_iff_ne, ne_eq]; omega
      have e240 : ((c.toNat : Int) == 240) = false := by rw [beq_eq_false_iff_ne, ne_eq]; omega
      have e244 : ((c.toNat : Int) == 244) = false := by rw [beq_eq_false_iff_ne, ne_eq]; omega
      have hv1 : v = if 4 ≤ (bs s).size - i ∧ 128 ≤ Lx.byteN s i 1 ∧ Lx.byteN s i 1 ≤ 191 ∧ Lx.restOk s i 4 2 = true then 4 else 0 := by
        rw [← hv0]
        have hro : (Lx.restOk s i 4 2 = true) = (((128 ≤ Lx.byteN s i 2 ∧ Lx.byteN s i 2 ≤ 191) ∧ (128 ≤ Lx.byteN s i 3 ∧ Lx.byteN s i 3 ≤ 191))) := by rw [Lx.rest_step (by omega), Lx.rest_step (by omega), Lx.rest_end, Bool.and_true]; simp only [Lx.contB, Bool.and_eq_true, decide_eq_true_eq]
        simp only [hro]
        obtain ⟨y1, hy1⟩ : ∃ y, Lx.byteN s i 1 = y := ⟨_, rfl⟩
        obtain ⟨y2, hy2⟩ : ∃ y, Lx.byteN s i 2 = y := ⟨_, rfl⟩
        obtain ⟨y3, hy3⟩ : ∃ y, Lx.byteN s i 3 = y := ⟨_, rfl⟩
        rw [hy1, hy2, hy3]
        unfold Lx.charN
        rw [if_neg hA]
        rw [if_neg hB, if_neg h3, if_pos h4]
        rw [if_neg h240, if_neg h244]
        repeat' split
        all_goals first | rfl | omega
      clear hv0
      have HV1 := Lib.hid hv1
      clear hv1 hA hB h3 h4 h240 h244
      rcases Nat.lt_or_ge (bs s).size (i + 4) with hsh | hsh
      · have j2 : decide (((bs s).size : Int) < (i : Int) + 4) = true := by rw [decide_eq_true_eq]; omega
        have HV : Hid (v = 0) := by show _ = _; rw [HV1.out, if_neg (fun h => by have := h.1; omega)]
        clear HV1
        go_enter Tryz.func80, Tryz.ntmps80
        go_wp2_with fail
        go_ret
        exact ⟨by rw [HV.out]; rfl, rfl⟩
      · have j2 : decide (((bs s).size : Int) < (i : Int) + 4) = false := by rw [decide_eq_false_iff_not]; omega
        have hx1 : i + 1 < (bs s).size := by omega
        have j3 : (i : Int) + 1 < ((bs s).size : Int) := by omega
        have j4 : (0 : Int) ≤ (i : Int) + 1 := by omega
        have hv2 := HV1.out
        rw [Lx.byteN_eq hx1] at hv2
        obtain ⟨x, hx⟩ : ∃ x, (bs s)[i + 1]'hx1 = x := ⟨_, rfl⟩
        rw [hx] at hv2
        have hbx : x.toNat < 256 := UInt8.toNat_lt _
        have hsz : 4 ≤ (bs s).size - i := by omega
        by_cases hlo : x.toNat < 128
        · have k1 : decide ((x.toNat : Int) < 128) = true := by rw [decide_eq_true_eq]; omega
          have HV : Hid (v = 0) := by show _ = _; rw [hv2, if_neg (fun h => by have := h.2.1; omega)]
          clear HV1 hv2 hlo hsz
          go_enter Tryz.func80, Tryz.ntmps80
          go_wp2_with fail
          go_ret
          exact ⟨by rw [HV.out]; rfl, rfl⟩
        have k1 : decide ((x.toNat : Int) < 128) = false := by rw [decide_eq_false_iff_not]; omega
        by_cases hhi : 191 < x.toNat
        · have k2 : decide ((191 : Int) < (x.toNat : Int)) = true := by rw [decide_eq_true_eq]; omega
          have HV : Hid (v = 0) := by show _ = _; rw [hv2, if_neg (fun h => by have := h.2.2.1; omega)]
          clear HV1 hv2 hlo hhi hsz
          go_enter Tryz.func80, Tryz.ntmps80
          go_wp2_with fail
          go_ret
          exact ⟨by rw [HV.out]; rfl, rfl⟩
        have k2 : decide ((191 : Int) < (x.toNat : Int)) = false := by rw [decide_eq_false_iff_not]; omega
        have HV : Hid (v = if Lx.restOk s i 4 2 = true then 4 else 0) := by
          show _ = _
          rw [hv2]
          by_cases hr : Lx.restOk s i 4 2 = true
          · rw [if_pos hr, if_pos ⟨hsz, by omega, by omega, hr⟩]
          · rw [if_neg hr, if_neg (fun h => hr h.2.2.2)]
        clear HV1 hv2 hlo hhi hsz
        go_enter Tryz.func80, Tryz.ntmps80
        go_wp2_with fail
        go_loopw [9] (fun t9 wr => ∃ k : Nat, 2 ≤ k ∧ k ≤ 4 ∧ t9 = .int .i64 (k : Int) ∧ Hid (v = if Lx.restOk s i 4 k = true then 4 else 0) ∧ w = wr) (fun t9 _ => 4 - (intOf t9).toNat)
        case atStart => exact ⟨2, by omega, by omega, rfl, HV, by first | rfl | trivial⟩
        case round =>
          clear HV
          obtain ⟨k, hk2, hkn, rfl, HR, rfl⟩ := hrel
          rcases Nat.lt_or_ge k 4 with hkl | hkl
          · have l0 : decide ((k : Int) < 4) = true := by rw [decide_eq_true_eq]; omega
            have l1 : (0 : Int) ≤ (i : Int) + (k : Int) := by omega
            have hik : i + k < (bs s).size := by omega
            have l2 : (i : Int) + (k : Int) < ((bs s).size : Int) := by omega
            have hR := HR.out
            rw [Lx.rest_step hkl, Lx.byteN_eq hik] at hR
            obtain ⟨y, hy⟩ : ∃ y, (bs s)[i + k]'hik = y := ⟨_, rfl⟩
            rw [hy] at hR
            have hbyy : y.toNat < 256 := UInt8.toNat_lt _
            by_cases h1 : y.toNat < 128
            · have m1 : decide ((y.toNat : Int) < 128) = true := by rw [decide_eq_true_eq]; omega
              have HV : Hid (v = 0) := by show _ = _; rw [hR, Lx.contB, decide_eq_false (by omega : ¬ 128 ≤ y.toNat)]; rfl
              clear hR HR h1
              go_wp2_with fail
              go_ret
              exact ⟨by rw [HV.out]; rfl, by first | rfl | trivial⟩
            have m1 : decide ((y.toNat : Int) < 128) = false := by rw [decide_eq_false_iff_not]; omega
            by_cases h2 : 191 < y.toNat
            · have m2 : decide ((191 : Int) < (y.toNat : Int)) = true := by rw [decide_eq_true_eq]; omega
              have HV : Hid (v = 0) := by show _ = _; rw [hR, Lx.contB, decide_eq_false (by omega : ¬ y.toNat ≤ 191), Bool.and_false]; rfl
              clear hR HR h1 h2
              go_wp2_with fail
              go_ret
              exact ⟨by rw [HV.out]; rfl, by first | rfl | trivial⟩
            have m2 : decide ((191 : Int) < (y.toNat : Int)) = false := by rw [decide_eq_false_iff_not]; omega
            have HV : Hid (v = if Lx.restOk s i 4 (k + 1) = true then 4 else 0) := by
              show _ = _
              rw [hR, Lx.contB, decide_eq_true (by omega : 128 ≤ y.toNat), decide_eq_true (by omega : y.toNat ≤ 191)]; rfl
            clear hR HR h1 h2
            go_wp2_with fail
            go_roundw
            case rel => exact ⟨k + 1, by omega, by omega, by go_num, HV, by first | rfl | trivial⟩
            case measure => simp [intOf]; omega
          · obtain rfl : k = 4 := by omega
            have HV : Hid (v = 4) := by show _ = _; rw [HR.out, Lx.rest_end]; rfl
            clear HR
            go_wp2_with fail
            go_ret
            exact ⟨by rw [HV.out]; rfl, by first | rfl | trivial⟩
  have HV : Hid (v = 0) := by show _ = _; rw [← hv0, Lx.charN, if_neg hA, if_neg hB, if_neg h3, if_neg h4]
  clear hv0
  by_cases h194 : c.toNat < 194
  · have t1 : decide ((c.toNat : Int) < 128) = false := by rw [decide_eq_false_iff_not]; omega
    have g1 : decide ((194 : Int) ≤ (c.toNat : Int)) = false := by rw [decide_eq_false_iff_not]; omega
    have g3 : decide ((224 : Int) ≤ (c.toNat : Int)) = false := by rw [decide_eq_false_iff_not]; omega
    have g5 : decide ((240 : Int) ≤ (c.toNat : Int)) = false := by rw [decide_eq_false_iff_not]; omega
    clear hA hB h3 h4 h194
    go_enter Tryz.func80, Tryz.ntmps80
    go_wp2_with fail
    go_ret
    exact ⟨by rw [HV.out]; rfl, rfl⟩
  · have t1 : decide ((c.toNat : Int) < 128) = false := by rw [decide_eq_false_iff_not]; omega
    have g1 : decide ((194 : Int) ≤ (c.toNat : Int)) = true := by rw [decide_eq_true_eq]; omega
    have g2 : decide ((c.toNat : Int) ≤ 223) = false := by rw [decide_eq_false_iff_not]; omega
    have g3 : decide ((224 : Int) ≤ (c.toNat : Int)) = true := by rw [decide_eq_true_eq]; omega
    have g4 : decide ((c.toNat : Int) ≤ 239) = false := by rw [decide_eq_false_iff_not]; omega
    have g5 : decide ((240 : Int) ≤ (c.toNat : Int)) = true := by rw [decide_eq_true_eq]; omega
    have g6 : decide ((c.toNat : Int) ≤ 244) = false := by rw [decide_eq_false_iff_not]; omega
    clear hA hB h3 h4 h194
    go_enter Tryz.func80, Tryz.ntmps80
    go_wp2_with fail
    go_ret
    exact ⟨by rw [HV.out]; rfl, rfl⟩
end Go.Proofs.YtpgnfianffjpnaaGreatDoor
