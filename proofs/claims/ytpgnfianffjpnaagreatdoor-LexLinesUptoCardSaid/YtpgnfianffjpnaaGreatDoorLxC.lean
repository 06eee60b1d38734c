/- lex's leaves, walked: fault, nothing, same, directive, copies. -/
import Derived.Test.YtpgnfianffjpnaaGreatDoorLxB
import Derived.Test.YtpgnfianffjpnaaGreatDoorWdA
import Derived.Lib.CutLaws
import Derived.Deep.QuietTactic
import Derived.BigQuiet
namespace Go.Proofs.YtpgnfianffjpnaaGreatDoor
open Go Go.RowKit

theorem fault_any (no line at_ : Int) (w : World) : Calls Tryz.prog 36 #[.int .i64 no, .int .i64 line, .int .i64 at_] w fun e w' => e = .returned (eFault no line at_) ∧ w = w' := by
  go_enter Tryz.func36, Tryz.ntmps36
  go_wp2_with fail
  go_ret
  exact ⟨rfl, rfl⟩
/-- a text that is not empty, as the walk reads it. -/
structure TxtIs (S : ByteArray) (c : UInt8) (r : List UInt8) : Prop where
  size : S.size = r.length + 1
  pos : 0 < S.size
  zero : S[0] = c
  ne : S.toList.isEmpty = false
  ne2 : (S.toList == []) = false
theorem txtIs (c : UInt8) (r : List UInt8) : TxtIs (bs (c :: r)) c r := by
  refine ⟨by rw [bs_size]; rfl, by rw [bs_size]; simp, rfl, by rw [toList_bs]; rfl, by rw [toList_bs]; rfl⟩
set_option maxRecDepth 100000 in
theorem nothing_any (l : List UInt8) (w : World) {b : Bool} (H : Hid (Lx.nothingL l = b)) : Calls Tryz.prog 93 #[.string (bs l)] w fun e w' => e = .returned (.bool b) ∧ Below w.heap.size w w' := by
  obtain ⟨t, ht⟩ : ∃ t, Hid (Gl.lft l = t) := ⟨_, Lib.hid rfl⟩
  have hb := H.out
  unfold Lx.nothingL at hb
  rw [ht.out] at hb
  cases t with
  | nil =>
    have HB := Lib.hid hb
    have hcall : Calls Tryz.prog 92 #[.string (bs l), .string ⟨#[32, 9, 13]⟩] w fun e w' => e = .returned (.string ⟨#[]⟩) ∧ Below w.heap.size w w' := trimLeft_any l w ht
    have HCL := Lib.hid hcall
    clear hb H hcall
    go_enter Tryz.func93, Tryz.ntmps93
    go_wp2_with fail
    refine (HCL.out).mono ?_
    rintro e w1 ⟨rfl, b1⟩
    go_wp2_with fail
    go_ret
    exact ⟨by rw [← HB.out]; rfl, b1⟩
  | cons c r =>
    obtain ⟨S, hS⟩ : ∃ S, bs (c :: r) = S := ⟨_, rfl⟩
    have hT := txtIs c r
    have hcall := trimLeft_any l w ht
    rw [hS] at hT hcall
    obtain ⟨z1, z2, z3, z4, z5⟩ := hT
    have hby : c.toNat < 256 := UInt8.toNat_lt _
    have HB : Hid (b = decide (c = 35)) := by show _ = _; rw [← hb, Bool.eq_iff_iff]; simp
    have HCL := Lib.hid hcall
    clear hb H hS hcall
    by_cases hc : c = 35
    · have t1 : ((c.toNat : Int) == 35) = true := u8_yes (d := 35) hc
      have HB2 : Hid (b = true) := by show _ = _; rw [HB.out]; simpa using hc
      clear hc HB z1
      go_enter Tryz.func93, Tryz.ntmps93
      go_wp2_with fail
      refine (HCL.out).mono ?_
      rintro e w1 ⟨rfl, b1⟩
      go_wp2_with fail
      go_ret
      exact ⟨by rw [HB2.out]; rfl, b1⟩
    · have t1 : ((c.toNat : Int) == 35) = false := u8_no (d := 35) hc
      have HB2 : Hid (b = false) := by show _ = _; rw [HB.out]; simpa using hc
      clear hc HB z1
      go_enter Tryz.func93, Tryz.ntmps93
      go_wp2_with fail
      refine (HCL.out).mono ?_
      rintro e w1 ⟨rfl, b1⟩
      go_wp2_with fail
      go_ret
      exact ⟨by rw [HB2.out]; rfl, b1⟩
theorem same_step {s w : List UInt8} {i : Nat} (h1 : i < s.length) (h2 : i < w.length) : Lx.sameL (s.drop i) (w.drop i) = (decide (Lx.low s[i] = w[i]) && Lx.sameL (s.drop (i + 1)) (w.drop (i + 1))) := by
  rw [List.drop_eq_getElem_cons h1, List.drop_eq_getElem_cons h2]
  rw [Lx.sameL, Lx.sameL, List.map_cons, Bool.eq_iff_iff]
  simp only [beq_iff_eq, List.cons.injEq, Bool.and_eq_true, decide_eq_true_eq]
theorem same_len {s w : List UInt8} (h : s.length ≠ w.length) : Lx.sameL s w = false := by
  rw [Lx.sameL, beq_eq_false_iff_ne]
  intro e
  have := congrArg List.length e
  rw [List.length_map] at this
  exact h this
theorem low_up {c : UInt8} (h : 65 ≤ c.toNat ∧ c.toNat ≤ 90) : ((Lx.low c).toNat : Int) = (c.toNat : Int) + 32 := by
  have h1 : (65 : UInt8) ≤ c := by rw [UInt8.le_iff_toNat_le]; exact h.1
  have h2 : c ≤ (90 : UInt8) := by rw [UInt8.le_iff_toNat_le]; exact h.2
  rw [Lx.low, if_pos ⟨h1, h2⟩, UInt8.toNat_add]
  rw [show (32 : UInt8).toNat = 32 from rfl]
  have := h.2
  omega
theorem low_id {c : UInt8} (h : ¬ (65 ≤ c.toNat ∧ c.toNat ≤ 90)) : Lx.low c = c := by
  rw [Lx.low, if_neg]
  rintro ⟨h1, h2⟩
  rw [UInt8.le_iff_toNat_le] at h1 h2
  exact h ⟨h1, h2⟩
set_option maxRecDepth 100000 in
set_option maxHeartbeats 4000000 in
theorem same_any (s t : List UInt8) (ht : t.length ≤ 2000000) (w : World) {b : Bool} (H : Hid (Lx.sameL s t = b)) : Calls Tryz.prog 140 #[.string (bs s), .string (bs t)] w fun e w' => e = .returned (.bool b) ∧ w = w' := by
  have hzs := bs_size s
  have hzt := bs_size t
  by_cases hl : s.length = t.length
  · have HL := Lib.hid hl
    have HZS := Lib.hid hzs
    have HZT := Lib.hid hzt
    have t0 : (((bs s).size : Int) != ((bs t).size : Int)) = false := by rw [hzs, hzt, hl]; simp
    have q1 : (bs s).size ≤ 2000000 := by omega
    have q2 : (bs t).size ≤ 2000000 := by omega
    have H0 : Hid (Lx.sameL (s.drop 0) (t.drop 0) = b) := by show _ = _; rw [List.drop_zero, List.drop_zero]; exact H.out
    clear hl hzs hzt H
    go_enter Tryz.func140, Tryz.ntmps140
    go_wp2_with fail
    go_loopw [5, 6, 14] (fun _ _ t14 wr => ∃ i : Nat, i ≤ (bs s).size ∧ t14 = .int .i64 (i : Int) ∧ Hid (Lx.sameL (s.drop i) (t.drop i) = b) ∧ w = wr) (fun _ _ t14 _ => (bs s).size - (intOf t14).toNat)
    case atStart => exact ⟨0, by omega, rfl, H0, by first | rfl | trivial⟩
    case round =>
      clear H0
      obtain ⟨i, hi, rfl, HS, rfl⟩ := hrel
      have j0 : (0 : Int) ≤ (i : Int) := by omega
      rcases Nat.lt_or_ge i (bs s).size with hin | hin
      · have i0 : decide ((i : Int) < ((bs s).size : Int)) = true := by rw [decide_eq_true_eq]; omega
        have i1 : (i : Int) < ((bs s).size : Int) := by omega
        have hin2 : i < (bs t).size := by rw [HZT.out, ← HL.out, ← HZS.out]; exact hin
        have i2 : (i : Int) < ((bs t).size : Int) := by omega
        have hst := same_step (s := s) (w := t) (i := i) (by rw [← HZS.out]; exact hin) (by rw [← HZT.out]; exact hin2)
        have hS := HS.out
        rw [hst] at hS
        rw [show s[i]'(by rw [← HZS.out]; exact hin) = (bs s)[i]'hin from rfl, show t[i]'(by rw [← HZT.out]; exact hin2) = (bs t)[i]'hin2 from rfl] at hS
        obtain ⟨c, hc⟩ : ∃ c, (bs s)[i]'hin = c := ⟨_, rfl⟩
        obtain ⟨d, hd⟩ : ∃ d, (bs t)[i]'hin2 = d := ⟨_, rfl⟩
        rw [hc, hd] at hS
        have hby : c.toNat < 256 := UInt8.toNat_lt _
        have hby2 : d.toNat < 256 := UInt8.toNat_lt _
        have HC := Lib.hid hc
        have HD := Lib.hid hd
        clear hst HS
        by_cases hup : 65 ≤ c.toNat ∧ c.toNat ≤ 90
        · have g1 : decide ((65 : Int) ≤ (c.toNat : Int)) = true := by rw [decide_eq_true_eq]; omega
          have g2 : decide ((c.toNat : Int) ≤ 90) = true := by rw [decide_eq_true_eq]; omega
          have g3 : (c.toNat : Int) ≤ 90 := by omega
          have hlow := low_up hup
          by_cases he : Lx.low c = d
          · have g4 : (((c.toNat : Int) + 32) != (d.toNat : Int)) = false := by rw [← hlow, he]; simp
            have HN : Hid (Lx.sameL (s.drop (i + 1)) (t.drop (i + 1)) = b) := by show _ = _; rw [← hS, he]; simp
            clear hS hlow he
            go_wp2_with fail
            go_roundw
            case rel => exact ⟨i + 1, by omega, by go_num, HN, by first | rfl | trivial⟩
            case measure => simp [intOf]; omega
          · have g4 : (((c.toNat : Int) + 32) != (d.toNat : Int)) = true := by rw [← hlow]; rw [bne_iff_ne]; exact fun e => he (UInt8.toNat_inj.1 (by omega))
            have HN : Hid (b = false) := by show _ = _; rw [← hS]; simp [he]
            clear hS hlow he
            go_wp2_with fail
            go_ret
            exact ⟨by rw [HN.out]; rfl, by first | rfl | trivial⟩
        · have hlow := low_id hup
          rw [hlow] at hS
          have g : ∃ b1 b2, decide ((65 : Int) ≤ (c.toNat : Int)) = b1 ∧ decide ((c.toNat : Int) ≤ 90) = b2 ∧ (b1 && b2) = false := by
            refine ⟨_, _, rfl, rfl, ?_⟩
            rw [Bool.and_eq_false_iff, decide_eq_false_iff_not, decide_eq_false_iff_not]
            omega
          obtain ⟨b1, b2, g1, g2, hbb⟩ := g
          have HBB := Lib.hid hbb
          clear hbb hup hlow
          by_cases he : c = d
          · have g4 : ((c.toNat : Int) != (d.toNat : Int)) = false := by rw [he]; simp
            have HN : Hid (Lx.sameL (s.drop (i + 1)) (t.drop (i + 1)) = b) := by show _ = _; rw [← hS, he]; simp
            clear hS he
            cases b1 <;> cases b2 <;> first
              | exact absurd HBB.out (by decide)
              | (go_wp2_with fail
                 go_roundw
                 case rel => exact ⟨i + 1, by omega, by go_num, HN, by first | rfl | trivial⟩
                 case measure => simp [intOf]; omega)
          · have g4 : ((c.toNat : Int) != (d.toNat : Int)) = true := by rw [bne_iff_ne]; exact fun e => he (UInt8.toNat_inj.1 (by omega))
            have HN : Hid (b = false) := by show _ = _; rw [← hS]; simp [he]
            clear hS he
            cases b1 <;> cases b2 <;> first
              | exact absurd HBB.out (by decide)
              | (go_wp2_with fail
                 go_ret
                 exact ⟨by rw [HN.out]; rfl, by first | rfl | trivial⟩)
      · have i0 : decide ((i : Int) < ((bs s).size : Int)) = false := by rw [decide_eq_false_iff_not]; omega
        have HN : Hid (b = true) := by
          show _ = _
          have e1 : s.length ≤ i := by rw [← HZS.out]; exact hin
          rw [← HS.out, List.drop_eq_nil_of_le e1, List.drop_eq_nil_of_le (by rw [← HL.out]; exact e1)]; rfl
        clear HS
        go_wp2_with fail
        go_ret
        exact ⟨by rw [HN.out]; rfl, by first | rfl | trivial⟩
  · have t0 : (((bs s).size : Int) != ((bs t).size : Int)) = true := by rw [hzs, hzt, bne_iff_ne]; omega
    have HN : Hid (b = false) := by show _ = _; rw [← H.out]; exact same_len hl
    clear hl hzs hzt H
    go_enter Tryz.func140, Tryz.ntmps140
    go_wp2_with fail
    go_ret
    exact ⟨by rw [HN.out]; rfl, rfl⟩
end Go.Proofs.YtpgnfianffjpnaaGreatDoor
