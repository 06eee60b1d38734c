/- stratalaw14.works: lex answers as it shall at two texts. -/
import Derived.Test.YtpgnfianffjpnaaGreatDoorLxY
import Derived.Test.YtpgnfianffjpnaaGreatDoorLxT
import Derived.Test.YtpgnfianffjpnaaGreatDoorErrAt
namespace Go.Proofs.YtpgnfianffjpnaaGreatDoor
open Go Go.RowKit
theorem works_one : Lx.linesL [65, 32, 92, 10, 98, 10] = .inr (92, [⟨1, [65, 32, 98], [⟨0, 1, 1⟩, ⟨2, 2, 1⟩], []⟩]) := by kernel_rfl
theorem works_two : Lx.linesL [67, 79, 80, 89, 32, 60, 60, 69, 32, 100, 10] = .inl (26, 1, 6) := by kernel_rfl
set_option maxRecDepth 100000 in
set_option maxHeartbeats 1000000 in
theorem works_any (w : World) (hT : Tabs w) (hv : ErrVar w) (hm : Maxl w) : Calls Tryz.prog 15 #[] w fun e w' => e = .returned (.bool true) ∧ Below w.heap.size w w' := by
  have h1 : Calls Tryz.prog 9 #[.string ⟨#[65, 32, 92, 10, 98, 10]⟩] w fun r w' => (∃ b o c, r = .returned (.tuple #[.int .u8 92, .slice (some ⟨b, o, none⟩) 1 c, .nilIface]) ∧ w'.cell? ⟨b, o + 1, none⟩ = some (.string ⟨#[65, 32, 98]⟩)) ∧ Below w.heap.size w w' := by
    refine (lexLines_any [65, 32, 92, 10, 98, 10] (by decide) w hT hv hm (Lib.hid works_one)).mono ?_
    rintro r w' ⟨⟨v, cs, hr, ho, hl⟩, hb⟩
    refine ⟨?_, hb⟩
    obtain ⟨vm, vd, m, q, e, _⟩ := hl
    obtain ⟨A, c, rfl, hc⟩ := RdRow.own ho
    obtain ⟨b, o, rfl, h⟩ := hc 1 (.string (bs [65, 32, 98])) (by rw [e]; rfl)
    exact ⟨b, o, c, hr, h⟩
  have HT := Lib.hid hT
  have HV := Lib.hid hv
  have HM := Lib.hid hm
  have H1 := Lib.hid h1
  have h2 : ∀ w1, Tabs w1 → ErrVar w1 → Maxl w1 → Calls Tryz.prog 9 #[.string ⟨#[67, 79, 80, 89, 32, 60, 60, 69, 32, 100, 10]⟩] w1 fun r w' => r = .returned (.tuple #[.int .u8 0, .slice none 0 0, eFault 26 1 6]) ∧ Below w1.heap.size w1 w' := fun w1 a1 a2 a3 =>
    (lexLines_any [67, 79, 80, 89, 32, 60, 60, 69, 32, 100, 10] (by decide) w1 a1 a2 a3 (Lib.hid works_two)).mono fun r w' h => ⟨h.1, h.2⟩
  have H2 := Lib.hid h2
  clear hT hv hm h1 h2
  go_enter Tryz.func15, Tryz.ntmps15
  go_wp2_with fail
  refine (H1.out).mono ?_
  rintro e w1 ⟨⟨b, o, c, rfl, d1⟩, b1⟩
  have HT1 := Lib.hid (HT.out.new b1)
  have HV1 := Lib.hid (HV.out.below b1 HV.out.lt)
  have HM1 := Lib.hid (HM.out.grow b1)
  go_wp2_with fail
  refine (H2.out _ HT1.out HV1.out HM1.out).mono ?_
  rintro e w2 ⟨rfl, b2⟩
  have B2 := below_of_below b1 b2 b1.size
  have HV2 := Lib.hid (HV1.out.below b2 HV1.out.lt)
  have d2 : w2.cell? ⟨b, o + 1, none⟩ = some (.string ⟨#[65, 32, 98]⟩) := by rw [← d1]; exact b2.cell (p := ⟨b, o + 1, none⟩) (World.block_lt_of_cell? w1 _ d1)
  go_wp2_with fail
  have h3 := at_fault 26 1 6 (by decide) (by decide) w2 HV2.out
  refine h3.mono ?_
  rintro e w3 ⟨rfl, b3⟩
  go_wp2_with fail
  go_ret
  exact ⟨rfl, below_of_below B2 b3 B2.size⟩
end Go.Proofs.YtpgnfianffjpnaaGreatDoor
