/- strataref14's Directive, Copies, bare, walked. -/
import Derived.Test.YtpgnfianffjpnaaGreatDoorLrC
namespace Go.Proofs.YtpgnfianffjpnaaGreatDoor
open Go Go.RowKit
namespace Lx
theorem dir_35 {s r : Bs} (hl : Gl.lft s = 35 :: r) : dirP s = if sameL ((Gl.lft r).take 6) escW then (match Gl.lft ((Gl.lft r).drop 6) with
    | [] => none
    | d :: v => if d = 61 then some (s.length - v.length) else none) else none := by rw [dirP, hl]; exact if_pos rfl
theorem says_esc {s r : Bs} {k : Nat} (h : HdIs s 35 r k) : saysL s (pastN s (k + 1)) escW = sameL ((Gl.lft r).take 6) escW := by
  rw [saysL, (past_drop (by have := h.lt; omega)).1, h.drop1]; rfl
end Lx
set_option maxRecDepth 100000 in
set_option maxHeartbeats 1000000 in
theorem directive14_any (s : List UInt8) (hs : s.length ≤ 2000000) (w : World) {v : Int} (H : Hid (Lx.dirI s = v)) : Calls Tryz.prog 21 #[.string (bs s)] w fun e w' => e = .returned (.int .i64 v) ∧ Below w.heap.size w w' := by
  obtain ⟨l, ht⟩ : ∃ l, Gl.lft s = l := ⟨_, rfl⟩
  have hz := bs_size s
  cases l with
  | nil =>
    have HN : Hid (v = -1) := by show _ = _; rw [← H.out, Lx.dirI, Lx.dir_nil ht]
    have HV : Hid (Lx.headI s = -1) := Lib.hid (Lx.head_nil ht)
    clear H ht
    go_enter Tryz.func21, Tryz.ntmps21
    go_wp2_with fail
    refine (head_any s hs _ HV).mono ?_
    rintro e w1 ⟨rfl, rfl⟩
    go_wp2_with fail
    go_ret
    exact ⟨by rw [HN.out]; rfl, Below.refl _ _⟩
  | cons c r =>
    have hd := Lx.lft_head ht
    obtain ⟨k, hk⟩ : ∃ k, Lx.headN s = k := ⟨_, rfl⟩
    rw [hk] at hd
    have HV : Hid (Lx.headI s = (k : Int)) := Lib.hid hd.val
    have hkn : k < (bs s).size := by rw [hz]; exact hd.lt
    have hc := get_of hd.get hkn
    have k0 : decide ((k : Int) < 0) = false := by rw [decide_eq_false_iff_not]; omega
    have k1 : (0 : Int) ≤ (k : Int) := by omega
    have k2 : (k : Int) < ((bs s).size : Int) := by omega
    have k3 : k < 2000000 := by omega
    have hby : c.toNat < 256 := UInt8.toNat_lt _
    by_cases h35 : c = 35
    · subst h35
      obtain ⟨i1, hi1⟩ : ∃ i1, Hid (Lx.pastN s (k + 1) = i1) := ⟨_, Lib.hid rfl⟩
      obtain ⟨b, hb⟩ : ∃ b, Hid (Lx.saysL s i1 Lx.escW = b) := ⟨_, Lib.hid rfl⟩
      have hk1 : k + 1 ≤ s.length := hd.lt
      have hp := Lx.past_drop (s := s) (i := k + 1) hk1
      rw [hi1.out, hd.drop1] at hp
      obtain ⟨p1, p2, p3⟩ := hp
      have hdir := Lx.dir_35 ht
      have hse := Lx.says_esc hd
      rw [hi1.out, hb.out] at hse
      rw [← hse] at hdir
      have d1 : ((35 : UInt8).toNat : Int) = 35 := rfl
      cases b with
      | false =>
        have HN : Hid (v = -1) := by show _ = _; rw [← H.out, Lx.dirI, hdir]; rfl
        clear hdir hse H ht hd hk p1
        go_enter Tryz.func21, Tryz.ntmps21
        go_wp2_with fail
        refine (head_any s hs _ HV).mono ?_
        rintro e w1 ⟨rfl, rfl⟩
        go_wp2_with fail
        refine (past_any s hs (k + 1) hk1 _ hi1).mono ?_
        rintro e w1 ⟨rfl, rfl⟩
        go_wp2_with fail
        refine (says_any s Lx.escW hs (by decide) i1 p3 _ hb).mono ?_
        rintro e w1 ⟨rfl, b1⟩
        go_wp2_with fail
        go_ret
        exact ⟨by rw [HN.out]; rfl, b1⟩
      | true =>
        have hlen : i1 + 6 ≤ s.length := by
          have e1 := Lx.esc_len (w := (Gl.lft r).take 6) hse.symm
          rw [List.length_take, ← p1, List.length_drop] at e1
          omega
        obtain ⟨i2, hi2⟩ : ∃ i2, Hid (Lx.pastN s (i1 + 6) = i2) := ⟨_, Lib.hid rfl⟩
        have hq := Lx.past_drop (s := s) (i := i1 + 6) hlen
        rw [hi2.out, ← List.drop_drop, p1] at hq
        obtain ⟨q1, q2, q3⟩ := hq
        rw [if_pos rfl, ← q1] at hdir
        rcases Nat.lt_or_ge i2 (bs s).size with hin | hin
        · have hil : i2 < s.length := by omega
          rw [List.drop_eq_getElem_cons hil] at hdir
          have i20 : decide ((i2 : Int) < ((bs s).size : Int)) = true := by rw [decide_eq_true_eq]; omega
          have i21 : (i2 : Int) < ((bs s).size : Int) := by omega
          have i22 : (0 : Int) ≤ (i2 : Int) := by omega
          have hby2 : ((bs s)[i2]'hin).toNat < 256 := UInt8.toNat_lt _
          have hse2 : s[i2] = (bs s)[i2]'hin := rfl
          rw [hse2] at hdir
          by_cases h61 : (bs s)[i2]'hin = 61
          · have t1 : ((((bs s)[i2]'hin).toNat : Int) == 61) = true := u8_yes (d := 61) h61
            have HN : Hid (v = (i2 : Int)) := by
              show _ = _
              rw [← H.out, Lx.dirI, hdir]
              simp only [h61, if_true, List.length_drop]
              omega
            clear hdir hse H ht hd hk p1 q1 h61 hse2 hil
            go_enter Tryz.func21, Tryz.ntmps21
            go_wp2_with fail
            refine (head_any s hs _ HV).mono ?_
            rintro e w1 ⟨rfl, rfl⟩
            go_wp2_with fail
            refine (past_any s hs (k + 1) hk1 _ hi1).mono ?_
            rintro e w1 ⟨rfl, rfl⟩
            go_wp2_with fail
            refine (says_any s Lx.escW hs (by decide) i1 p3 _ hb).mono ?_
            rintro e w1 ⟨rfl, b1⟩
            go_wp2_with fail
            refine (past_any s hs (i1 + 6) hlen _ hi2).mono ?_
            rintro e w2 ⟨rfl, rfl⟩
            go_wp2_with fail
            go_ret
            exact ⟨by rw [HN.out]; rfl, b1⟩
          · have t1 : ((((bs s)[i2]'hin).toNat : Int) == 61) = false := u8_no (d := 61) h61
            have HN : Hid (v = -1) := by
              show _ = _
              rw [← H.out, Lx.dirI, hdir]
              simp only [if_neg h61]
            clear hdir hse H ht hd hk p1 q1 h61 hse2 hil
            go_enter Tryz.func21, Tryz.ntmps21
            go_wp2_with fail
            refine (head_any s hs _ HV).mono ?_
            rintro e w1 ⟨rfl, rfl⟩
            go_wp2_with fail
            refine (past_any s hs (k + 1) hk1 _ hi1).mono ?_
            rintro e w1 ⟨rfl, rfl⟩
            go_wp2_with fail
            refine (says_any s Lx.escW hs (by decide) i1 p3 _ hb).mono ?_
            rintro e w1 ⟨rfl, b1⟩
            go_wp2_with fail
            refine (past_any s hs (i1 + 6) hlen _ hi2).mono ?_
            rintro e w2 ⟨rfl, rfl⟩
            go_wp2_with fail
            go_ret
            exact ⟨by rw [HN.out]; rfl, b1⟩
        · have hil : s.length ≤ i2 := by omega
          rw [List.drop_eq_nil_of_le hil] at hdir
          have i20 : decide ((i2 : Int) < ((bs s).size : Int)) = false := by rw [decide_eq_false_iff_not]; omega
          have i22 : (0 : Int) ≤ (i2 : Int) := by omega
          have HN : Hid (v = -1) := by show _ = _; rw [← H.out, Lx.dirI, hdir]
          clear hdir hse H ht hd hk p1 q1 hil
          go_enter Tryz.func21, Tryz.ntmps21
          go_wp2_with fail
          refine (head_any s hs _ HV).mono ?_
          rintro e w1 ⟨rfl, rfl⟩
          go_wp2_with fail
          refine (past_any s hs (k + 1) hk1 _ hi1).mono ?_
          rintro e w1 ⟨rfl, rfl⟩
          go_wp2_with fail
          refine (says_any s Lx.escW hs (by decide) i1 p3 _ hb).mono ?_
          rintro e w1 ⟨rfl, b1⟩
          go_wp2_with fail
          refine (past_any s hs (i1 + 6) hlen _ hi2).mono ?_
          rintro e w2 ⟨rfl, rfl⟩
          go_wp2_with fail
          go_ret
          exact ⟨by rw [HN.out]; rfl, b1⟩
    · have t1 : ((c.toNat : Int) != 35) = true := by rw [bne, show ((c.toNat : Int) == 35) = false from u8_no (d := 35) h35]; rfl
      have HN : Hid (v = -1) := by show _ = _; rw [← H.out, Lx.dirI, Lx.dir_no ht h35]
      clear H ht hd hk h35
      go_enter Tryz.func21, Tryz.ntmps21
      go_wp2_with fail
      refine (head_any s hs _ HV).mono ?_
      rintro e w1 ⟨rfl, rfl⟩
      go_wp2_with fail
      go_ret
      exact ⟨by rw [HN.out]; rfl, Below.refl _ _⟩
set_option maxRecDepth 100000 in
theorem bare14_any (s : List UInt8) (hs : s.length ≤ 2000000) (tabs : Bool) (w : World) {t : List UInt8} (H : Hid (Lx.bare tabs s = t)) : Calls Tryz.prog 136 #[.string (bs s), .bool tabs] w fun e w' => e = .returned (.string (bs t)) ∧ w = w' := by
  have hz := bs_size s
  have hs2 : (bs s).size ≤ 2000000 := by omega
  have HZ := Lib.hid hz
  cases tabs with
  | false =>
    have hsl := slice_from s 0 0 rfl (by omega)
    have HT : Hid (s = t) := H
    rw [List.drop_zero, HT.out] at hsl
    rw [HT.out]
    clear H hz HZ hs2
    go_enter Tryz.func136, Tryz.ntmps136
    go_wp2_with fail
    go_loopw [5] (fun t5 wr => t5 = .int .i64 0 ∧ w = wr) (fun _ _ => 0)
    case atStart => exact ⟨rfl, by first | rfl | trivial⟩
    case round =>
      obtain ⟨rfl, rfl⟩ := hrel
      go_wp2_with fail
      go_ret
      exact ⟨rfl, by first | rfl | trivial⟩
  | true =>
    have H0 : Hid (Lib.trimLeftS (s.drop 0) [9] = t) := by show _ = _; rw [List.drop_zero]; exact H.out
    clear H hz
    go_enter Tryz.func136, Tryz.ntmps136
    go_wp2_with fail
    go_loopw [5] (fun t5 wr => ∃ i : Nat, i ≤ (bs s).size ∧ t5 = .int .i64 (i : Int) ∧ Hid (Lib.trimLeftS (s.drop i) [9] = t) ∧ w = wr) (fun t5 _ => (bs s).size - (intOf t5).toNat)
    case atStart => exact ⟨0, by omega, rfl, H0, by first | rfl | trivial⟩
    case round =>
      clear H0
      obtain ⟨i, hi, rfl, HR, rfl⟩ := hrel
      have j0 : (0 : Int) ≤ (i : Int) := by omega
      rcases Nat.lt_or_ge i (bs s).size with hin | hin
      · have i0 : decide ((i : Int) < ((bs s).size : Int)) = true := by rw [decide_eq_true_eq]; omega
        have i1 : (i : Int) < ((bs s).size : Int) := by omega
        have hil : i < s.length := by rw [← HZ.out]; exact hin
        have hby : ((bs s)[i]'hin).toNat < 256 := UInt8.toNat_lt _
        have hR := HR.out
        rw [List.drop_eq_getElem_cons hil, show s[i] = (bs s)[i]'hin from rfl] at hR
        by_cases h9 : (bs s)[i]'hin = 9
        · have t1 : ((((bs s)[i]'hin).toNat : Int) == 9) = true := u8_yes (d := 9) h9
          have HN : Hid (Lib.trimLeftS (s.drop (i + 1)) [9] = t) := by
            show _ = _
            rw [← hR, Lib.trimLeftS, Lib.trimLeftS, List.dropWhile_cons_of_pos (by rw [h9]; rfl)]
          clear hR HR h9 hil
          go_wp2_with fail
          go_roundw
          case rel => exact ⟨i + 1, by omega, by go_num, HN, by first | rfl | trivial⟩
          case measure => simp [intOf]; omega
        · have t1 : ((((bs s)[i]'hin).toNat : Int) == 9) = false := u8_no (d := 9) h9
          have hT : t = s.drop i := by
            rw [← hR, Lib.trimLeftS, List.dropWhile_cons_of_neg (by simpa using h9)]
            exact (List.drop_eq_getElem_cons hil).symm
          have hsl := slice_from s i (i : Int) rfl (by omega)
          rw [← hT] at hsl
          clear hR HR h9 hil hT
          go_wp2_with fail
          go_ret
          exact ⟨rfl, by first | rfl | trivial⟩
      · have i0 : decide ((i : Int) < ((bs s).size : Int)) = false := by rw [decide_eq_false_iff_not]; omega
        have hil : s.length ≤ i := by rw [← HZ.out]; exact hin
        have hT : t = s.drop i := by rw [← HR.out, List.drop_eq_nil_of_le hil]; rfl
        have hsl := slice_from s i (i : Int) rfl (by rw [← HZ.out]; omega)
        rw [← hT] at hsl
        clear HR hil hT
        go_wp2_with fail
        go_ret
        exact ⟨rfl, by first | rfl | trivial⟩
end Go.Proofs.YtpgnfianffjpnaaGreatDoor
