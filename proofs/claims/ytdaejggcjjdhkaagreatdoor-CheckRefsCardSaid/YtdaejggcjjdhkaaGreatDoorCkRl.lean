/- CheckRefs: the law's walk. -/
import Derived.Test.YtdaejggcjjdhkaaGreatDoorCkFu
import Derived.Test.YtdaejggcjjdhkaaGreatDoorCkTl
namespace Go.Proofs.YtdaejggcjjdhkaaGreatDoor
open Go Go.RowKit
theorem ref18_yes (s : List UInt8) (hs : s.length ≤ 70000) (w : World) (H : Hid (Ck.refR s = true)) : Calls Tryz.prog 18 #[.string (bs s)] w fun r w' => r = .returned (.int .i64 0) ∧ Below w.heap.size w w' := ref18_any s hs w H
theorem ref18_no (s : List UInt8) (hs : s.length ≤ 70000) (w : World) (H : Hid (Ck.refR s = false)) : Calls Tryz.prog 18 #[.string (bs s)] w fun r w' => r = .returned (.int .i64 31) ∧ Below w.heap.size w w' := ref18_any s hs w H
set_option maxRecDepth 100000 in
set_option maxHeartbeats 1000000 in
theorem lawRefs (p : ByteArray) (w : World) (hT : Tabs w) (hg : ErrVar w) (hm : Maxl w) : Calls Tryz.prog 5 #[.string p] w fun e w' => e = .returned (.bool true) ∧ Below w.heap.size w w' := by
  obtain ⟨s, rfl⟩ : ∃ s, bs s = p := ⟨_, bs_bl p⟩
  have hz := bs_size s
  rcases Nat.lt_or_ge 65536 (bs s).size with h0 | h0
  · have k0 : decide ((65536 : Int) < ((bs s).size : Int)) = true := by rw [decide_eq_true_eq]; omega
    have k1 : (65536 : Int) < ((bs s).size : Int) := by omega
    go_enter Tryz.func5, Tryz.ntmps5
    go_wp2_with fail
    go_ret
    exact ⟨rfl, Below.refl _ _⟩
  have k0 : decide ((65536 : Int) < ((bs s).size : Int)) = false := by rw [decide_eq_false_iff_not]; omega
  have k1 : ¬ (65536 : Int) < ((bs s).size : Int) := by omega
  obtain ⟨b, H⟩ : ∃ b, Hid (Ck.refR s = b) := ⟨_, Lib.hid rfl⟩
  have HT := Lib.hid hT
  have HV := Lib.hid hg
  have HM := Lib.hid hm
  clear hT hg hm
  cases b with
  | true =>
    go_enter Tryz.func5, Tryz.ntmps5
    go_wp2_with fail
    refine (ref18_yes s (by omega) w H).mono ?_
    rintro r w1 ⟨rfl, p1⟩
    have P1 := Lib.hid p1
    clear p1
    go_wp2_with fail
    refine (ref_yes s (by omega) w1 (HM.out.grow P1.out) H.out).mono ?_
    rintro r w2 ⟨rfl, p2⟩
    have P2 := Lib.hid (P1.out.trans (p2.mono P1.out.size))
    clear p2
    go_wp2_with fail
    refine (plainK_nil 0 w2).mono ?_
    rintro r w3 ⟨rfl, p3⟩
    have P3 := Lib.hid (P2.out.trans (p3.mono P2.out.size))
    clear p3
    go_wp2_with fail
    refine (ref_yes s (by omega) w3 (HM.out.grow P3.out) H.out).mono ?_
    rintro r w4 ⟨rfl, p4⟩
    have P4 := Lib.hid (P3.out.trans (p4.mono P3.out.size))
    clear p4
    go_wp2_with fail
    refine (plainK_nil 0 w4).mono ?_
    rintro r w5 ⟨rfl, p5⟩
    have P5 := Lib.hid (P4.out.trans (p5.mono P4.out.size))
    clear p5
    go_wp2_with fail
    refine (works_ck w5 (HT.out.new P5.out) (HV.out.below P5.out HV.out.lt) (HM.out.grow P5.out)).mono ?_
    rintro r w6 ⟨rfl, p6⟩
    have P6 := Lib.hid (P5.out.trans (p6.mono P5.out.size))
    clear p6
    go_wp2_with fail
    go_ret
    exact ⟨rfl, P6.out⟩
  | false =>
    go_enter Tryz.func5, Tryz.ntmps5
    go_wp2_with fail
    refine (ref18_no s (by omega) w H).mono ?_
    rintro r w1 ⟨rfl, p1⟩
    have P1 := Lib.hid p1
    clear p1
    go_wp2_with fail
    refine (ref_not s (by omega) w1 (HM.out.grow P1.out) H.out).mono ?_
    rintro r w2 ⟨rfl, p2⟩
    have P2 := Lib.hid (P1.out.trans (p2.mono P1.out.size))
    clear p2
    go_wp2_with fail
    refine (plain_31 w2 (HV.out.below P2.out HV.out.lt)).mono ?_
    rintro r w3 ⟨rfl, p3⟩
    have P3 := Lib.hid (P2.out.trans (p3.mono P2.out.size))
    clear p3
    go_wp2_with fail
    refine (ref_not s (by omega) w3 (HM.out.grow P3.out) H.out).mono ?_
    rintro r w4 ⟨rfl, p4⟩
    have P4 := Lib.hid (P3.out.trans (p4.mono P3.out.size))
    clear p4
    go_wp2_with fail
    refine (plain_31 w4 (HV.out.below P4.out HV.out.lt)).mono ?_
    rintro r w5 ⟨rfl, p5⟩
    have P5 := Lib.hid (P4.out.trans (p5.mono P4.out.size))
    clear p5
    go_wp2_with fail
    refine (works_ck w5 (HT.out.new P5.out) (HV.out.below P5.out HV.out.lt) (HM.out.grow P5.out)).mono ?_
    rintro r w6 ⟨rfl, p6⟩
    have P6 := Lib.hid (P5.out.trans (p6.mono P5.out.size))
    clear p6
    go_wp2_with fail
    go_ret
    exact ⟨rfl, P6.out⟩
end Go.Proofs.YtdaejggcjjdhkaaGreatDoor
