/- strataref14's Copies, isName, Opening, walked. -/
import Derived.Test.YtpgnfianffjpnaaGreatDoorLrD
import Derived.Test.YtpgnfianffjpnaaGreatDoorLxO
namespace Go.Proofs.YtpgnfianffjpnaaGreatDoor
open Go Go.RowKit
set_option maxRecDepth 100000 in
set_option maxHeartbeats 1000000 in
theorem copies14_any (s : List UInt8) (hs : s.length ≤ 2000000) (w : World) {b : Bool} (H : Hid (Lx.copL s = b)) : Calls Tryz.prog 82 #[.string (bs s)] w fun e w' => e = .returned (.bool b) ∧ Below w.heap.size w w' := by
  obtain ⟨l, ht⟩ : ∃ l, Gl.lft s = l := ⟨_, rfl⟩
  have hz := bs_size s
  cases l with
  | nil =>
    have HN : Hid (b = false) := by show _ = _; rw [← H.out, Lx.copL, ht]; rfl
    have HV : Hid (Lx.headI s = -1) := Lib.hid (Lx.head_nil ht)
    clear H ht
    go_enter Tryz.func82, Tryz.ntmps82
    go_wp2_with fail
    refine (head_any s hs _ HV).mono ?_
    rintro e w1 ⟨rfl, rfl⟩
    go_wp2_with fail
    refine (says_neg s Lx.copyW _).mono ?_
    rintro e w1 ⟨rfl, b1⟩
    go_wp2_with fail
    go_ret
    exact ⟨by rw [HN.out]; rfl, b1⟩
  | cons c r =>
    have hd := Lx.lft_head ht
    obtain ⟨k, hk⟩ : ∃ k, Lx.headN s = k := ⟨_, rfl⟩
    rw [hk] at hd
    have HV : Hid (Lx.headI s = (k : Int)) := Lib.hid hd.val
    have hkn : k < (bs s).size := by rw [hz]; exact hd.lt
    have k1 : (0 : Int) ≤ (k : Int) := by omega
    have k3 : k < 2000000 := by omega
    have k4 : (0 : Int) ≤ (k : Int) + 4 := by omega
    have hks : k ≤ s.length := by omega
    obtain ⟨p, hp⟩ : ∃ p, Hid (Lx.saysL s k Lx.copyW = p) := ⟨_, Lib.hid rfl⟩
    have hp2 : Lx.sameL ((Gl.lft s).take 4) Lx.copyW = p := by rw [← hp.out, Lx.saysL, hd.dropK, ht]; rfl
    have hln : (Gl.lft s).length = s.length - k := by rw [ht, ← hd.dropK, List.length_drop]
    have hb := H.out
    rw [Lx.copL, hp2, hln] at hb
    cases p with
    | false =>
      have HN : Hid (b = false) := by show _ = _; rw [← hb]; simp
      clear H ht hd hk hb hp2 hln
      go_enter Tryz.func82, Tryz.ntmps82
      go_wp2_with fail
      refine (head_any s hs _ HV).mono ?_
      rintro e w1 ⟨rfl, rfl⟩
      go_wp2_with fail
      refine (says_any s Lx.copyW hs (by decide) k hks _ hp).mono ?_
      rintro e w1 ⟨rfl, b1⟩
      go_wp2_with fail
      go_ret
      exact ⟨by rw [HN.out]; rfl, b1⟩
    | true =>
      rcases Nat.lt_or_ge (k + 4) (bs s).size with hin | hin
      · have i1 : decide ((k : Int) + 4 < ((bs s).size : Int)) = true := by rw [decide_eq_true_eq]; omega
        have i2 : (k : Int) + 4 < ((bs s).size : Int) := by omega
        have hby : ((bs s)[k + 4]'hin).toNat < 256 := UInt8.toNat_lt _
        have HB : Hid (Lx.blank ((bs s)[k + 4]'hin) = b) := by
          show _ = _
          rw [← hb]
          have e1 : (Gl.lft s).getD 4 0 = (bs s)[k + 4]'hin := by
            rw [ht, ← hd.dropK, List.getD_eq_getElem?_getD, List.getElem?_drop, bs_at s (k + 4) hin]; rfl
          rw [e1, decide_eq_true (by omega : 4 < s.length - k)]
          simp
        clear H ht hd hk hb hp2 hln
        go_enter Tryz.func82, Tryz.ntmps82
        go_wp2_with fail
        refine (head_any s hs _ HV).mono ?_
        rintro e w1 ⟨rfl, rfl⟩
        go_wp2_with fail
        refine (says_any s Lx.copyW hs (by decide) k hks _ hp).mono ?_
        rintro e w1 ⟨rfl, b1⟩
        go_wp2_with fail
        refine (blank13_any _ _ HB).mono ?_
        rintro e w2 ⟨rfl, rfl⟩
        go_wp2_with fail
        go_ret
        exact ⟨rfl, b1⟩
      · have i1 : decide ((k : Int) + 4 < ((bs s).size : Int)) = false := by rw [decide_eq_false_iff_not]; omega
        have HN : Hid (b = false) := by show _ = _; rw [← hb, decide_eq_false (by omega : ¬ 4 < s.length - k)]; simp
        clear H ht hd hk hb hp2 hln
        go_enter Tryz.func82, Tryz.ntmps82
        go_wp2_with fail
        refine (head_any s hs _ HV).mono ?_
        rintro e w1 ⟨rfl, rfl⟩
        go_wp2_with fail
        refine (says_any s Lx.copyW hs (by decide) k hks _ hp).mono ?_
        rintro e w1 ⟨rfl, b1⟩
        go_wp2_with fail
        go_ret
        exact ⟨by rw [HN.out]; rfl, b1⟩
theorem letter_low (c : UInt8) : Lx.letter c = !((decide (((Lx.low c).toNat : Int) < 97) || decide ((122 : Int) < ((Lx.low c).toNat : Int))) && (decide (((Lx.low c).toNat : Int) < 48) || decide ((57 : Int) < ((Lx.low c).toNat : Int))) && (((Lx.low c).toNat : Int) != 95)) := by
  have h1 : (c == 95) = decide (c.toNat = 95) := by rw [Bool.eq_iff_iff]; simp [← UInt8.toNat_inj]
  rw [Lx.letter, h1]
  by_cases hup : 65 ≤ c.toNat ∧ c.toNat ≤ 90
  · rw [low_up hup, Bool.eq_iff_iff]
    simp [UInt8.le_iff_toNat_le]
    omega
  · rw [low_id hup, Bool.eq_iff_iff]
    simp [UInt8.le_iff_toNat_le]
    omega
set_option maxRecDepth 100000 in
set_option maxHeartbeats 4000000 in
theorem isName14_any (s : List UInt8) (hs : s.length ≤ 2000000) (w : World) {b : Bool} (H : Hid (Lx.nameOk s = b)) : Calls Tryz.prog 79 #[.string (bs s)] w fun e w' => e = .returned (.bool b) ∧ w = w' := by
  have hz := bs_size s
  have HZ := Lib.hid hz
  by_cases hlen : 1 ≤ s.length ∧ s.length ≤ 96
  · have z1 : decide (((bs s).size : Int) < 1) = false := by rw [decide_eq_false_iff_not]; omega
    have z2 : decide ((96 : Int) < ((bs s).size : Int)) = false := by rw [decide_eq_false_iff_not]; omega
    have hs2 : (bs s).size ≤ 96 := by omega
    have H0 : Hid ((s.drop 0).all Lx.letter = b) := by
      show _ = _
      rw [List.drop_zero, ← H.out, Lx.nameOk, decide_eq_true hlen.2]
      have : (s != []) = true := by cases s with
        | nil => simp at hlen
        | cons x r => rfl
      rw [this]; simp
    clear hz H hlen
    go_enter Tryz.func79, Tryz.ntmps79
    go_wp2_with fail
    go_loopw [3, 4] (fun t3 _ wr => ∃ i : Nat, i ≤ (bs s).size ∧ t3 = .int .i64 (i : Int) ∧ Hid ((s.drop i).all Lx.letter = b) ∧ w = wr) (fun t3 _ _ => (bs s).size - (intOf t3).toNat)
    case atStart => exact ⟨0, by omega, rfl, H0, by first | rfl | trivial⟩
    case round =>
      clear H0
      obtain ⟨i, hi, rfl, HR, rfl⟩ := hrel
      have j0 : (0 : Int) ≤ (i : Int) := by omega
      rcases Nat.lt_or_ge i (bs s).size with hin | hin
      · have i0 : decide ((i : Int) < ((bs s).size : Int)) = true := by rw [decide_eq_true_eq]; omega
        have i1 : (i : Int) < ((bs s).size : Int) := by omega
        have hil : i < s.length := by rw [← HZ.out]; exact hin
        have hby : ((bs s)[i]'hin).toNat < 256 := UInt8.toNat_lt _
        have hR := HR.out
        rw [List.drop_eq_getElem_cons hil, show s[i] = (bs s)[i]'hin from rfl, List.all_cons, letter_low] at hR
        obtain ⟨d, hd⟩ : ∃ d, Hid (Lx.low ((bs s)[i]'hin) = d) := ⟨_, Lib.hid rfl⟩
        rw [hd.out] at hR
        have hbd : d.toNat < 256 := UInt8.toNat_lt _
        obtain ⟨b1, e1⟩ : ∃ b1, decide ((d.toNat : Int) < 97) = b1 := ⟨_, rfl⟩
        obtain ⟨b2, e2⟩ : ∃ b2, decide ((122 : Int) < (d.toNat : Int)) = b2 := ⟨_, rfl⟩
        obtain ⟨b3, e3⟩ : ∃ b3, decide ((d.toNat : Int) < 48) = b3 := ⟨_, rfl⟩
        obtain ⟨b4, e4⟩ : ∃ b4, decide ((57 : Int) < (d.toNat : Int)) = b4 := ⟨_, rfl⟩
        obtain ⟨b5, e5⟩ : ∃ b5, ((d.toNat : Int) != 95) = b5 := ⟨_, rfl⟩
        rw [e1, e2, e3, e4, e5] at hR
        obtain ⟨q, hq⟩ : ∃ q, ((b1 || b2) && (b3 || b4) && b5) = q := ⟨_, rfl⟩
        rw [hq] at hR
        have HQ := Lib.hid hq
        have HN := Lib.hid hR
        clear hR HR hq hil
        go_wp2_with fail
        refine (lower14_any _ _ hd).mono ?_
        rintro e1 w1 ⟨rfl, rfl⟩
        go_upto_region 7 with fail
        go_cut [40] (fun s40 wx => s40 = .bool q ∧ w = wx)
        case first =>
          clear HN
          cases b1 <;> cases b2 <;> cases b3 <;> cases b4 <;> cases b5 <;> (
            go_wp2_with fail
            go_meet
            exact ⟨by rw [← HQ.out]; rfl, by first | rfl | trivial⟩)
        case rest =>
          obtain ⟨rfl, rfl⟩ := hcut
          clear e1 e2 e3 e4 e5 HQ
          have hN := HN.out
          cases q with
          | true =>
            have HF : Hid (b = false) := by show _ = _; rw [← hN]; rfl
            clear hN HN
            go_wp2_with fail
            go_ret
            exact ⟨by rw [HF.out]; rfl, by first | rfl | trivial⟩
          | false =>
            have HF : Hid ((s.drop (i + 1)).all Lx.letter = b) := by show _ = _; rw [← hN]; rfl
            clear hN HN
            go_wp2_with fail
            go_roundw
            case rel => exact ⟨i + 1, by omega, by go_num, HF, by first | rfl | trivial⟩
            case measure => simp [intOf]; omega
      · have i0 : decide ((i : Int) < ((bs s).size : Int)) = false := by rw [decide_eq_false_iff_not]; omega
        have hil : s.length ≤ i := by rw [← HZ.out]; exact hin
        have HF : Hid (b = true) := by show _ = _; rw [← HR.out, List.drop_eq_nil_of_le hil]; rfl
        clear HR hil
        go_wp2_with fail
        go_ret
        exact ⟨by rw [HF.out]; rfl, by first | rfl | trivial⟩
  · have HF : Hid (b = false) := by
      show _ = _
      rw [← H.out, Lx.nameOk]
      cases s with
      | nil => rfl
      | cons x r =>
        rw [decide_eq_false (by simp only [List.length_cons] at hlen ⊢; omega)]; simp
    obtain ⟨b1, z1⟩ : ∃ b1, decide (((bs s).size : Int) < 1) = b1 := ⟨_, rfl⟩
    obtain ⟨b2, z2⟩ : ∃ b2, decide ((96 : Int) < ((bs s).size : Int)) = b2 := ⟨_, rfl⟩
    have HBB : Hid ((b1 || b2) = true) := by
      show _ = _
      rw [← z1, ← z2, Bool.or_eq_true, decide_eq_true_eq, decide_eq_true_eq]
      omega
    clear hz H hlen
    cases b1 <;> cases b2 <;> first
      | exact absurd HBB.out (by decide)
      | (go_enter Tryz.func79, Tryz.ntmps79
         go_wp2_with fail
         go_ret
         exact ⟨by rw [HF.out]; rfl, rfl⟩)
end Go.Proofs.YtpgnfianffjpnaaGreatDoor
