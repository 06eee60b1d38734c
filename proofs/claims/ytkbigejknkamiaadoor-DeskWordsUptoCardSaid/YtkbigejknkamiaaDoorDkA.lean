/- desk.Words' leaves, walked: isBlank, hex. -/
import Derived.Test.YtkbigejknkamiaaDoorProg
import Derived.Test.YtkbigejknkamiaaDoorOwn
import Derived.Test.YtkbigejknkamiaaDoorDkPlain
import Derived.Deep.QuietTactic
import Derived.BigQuiet
namespace Go.Proofs.YtkbigejknkamiaaDoor
open Go.RowKit

theorem isBlank_any (c : UInt8) (w : World) : Calls Tryd.prog 11 #[.int .u8 (c.toNat : Int)] w fun e w' => e = .returned (.bool (Dk.isBl c)) ∧ w = w' := by
  have hb : c.toNat < 256 := c.toNat_lt
  by_cases h1 : c.toNat = 32
  · have e1 : Dk.isBl c = true := by simp [Dk.isBl, h1]
    have t1 : (((c.toNat : Int)) == 32) = true := by simp [h1]
    have H := Lib.hid e1
    clear e1 h1
    go_enter Tryd.func11, Tryd.ntmps11
    go_wp2_with fail
    go_ret
    exact ⟨by rw [H.out]; rfl, rfl⟩
  · have t1 : (((c.toNat : Int)) == 32) = false := by simp; omega
    by_cases h2 : c.toNat = 9
    · have e1 : Dk.isBl c = true := by simp [Dk.isBl, h2]
      have t2 : (((c.toNat : Int)) == 9) = true := by simp [h2]
      have H := Lib.hid e1
      clear e1 h1 h2
      go_enter Tryd.func11, Tryd.ntmps11
      go_wp2_with fail
      go_ret
      exact ⟨by rw [H.out]; rfl, rfl⟩
    · have t2 : (((c.toNat : Int)) == 9) = false := by simp; omega
      have e1 : Dk.isBl c = ((c.toNat : Int) == 13) := by
        simp only [Dk.isBl, beq_false_of_ne h1, beq_false_of_ne h2, Bool.false_or]
        rw [Bool.eq_iff_iff]; simp; omega
      have H := Lib.hid e1
      clear e1 h1 h2
      go_enter Tryd.func11, Tryd.ntmps11
      go_wp2_with fail
      go_ret
      exact ⟨by rw [H.out]; rfl, rfl⟩

theorem ret_u8 {a b : Int} (h : a = b) : Ending.returned (.int .u8 a) = .returned (.int .u8 b) := by rw [h]

theorem deskHex_any (c : UInt8) (w : World) : Calls Tryd.prog 17 #[.int .u8 (c.toNat : Int)] w fun e w' => e = .returned (.int .u8 (Dk.hexv c : Int)) ∧ w = w' := by
  have hb : c.toNat < 256 := c.toNat_lt
  have hcase : c.toNat < 48 ∨ (48 ≤ c.toNat ∧ c.toNat ≤ 57) ∨ (58 ≤ c.toNat ∧ c.toNat ≤ 64) ∨ (65 ≤ c.toNat ∧ c.toNat ≤ 70) ∨ (71 ≤ c.toNat ∧ c.toNat ≤ 96) ∨ (97 ≤ c.toNat ∧ c.toNat ≤ 102) ∨ 103 ≤ c.toNat := by omega
  have HD : Hid (Dk.hexv c = if 48 ≤ c.toNat ∧ c.toNat ≤ 57 then c.toNat - 48 else if 97 ≤ c.toNat ∧ c.toNat ≤ 102 then c.toNat - 87 else if 65 ≤ c.toNat ∧ c.toNat ≤ 70 then c.toNat - 55 else 16) := Lib.hid rfl
  rcases hcase with h | ⟨h, h'⟩ | ⟨h, h'⟩ | ⟨h, h'⟩ | ⟨h, h'⟩ | ⟨h, h'⟩ | h
  all_goals
    go_enter Tryd.func17, Tryd.ntmps17
    go_wp2_with fail
    go_ret
    refine ⟨?_, rfl⟩
    rw [HD.out]
    refine ret_u8 ?_
    repeat (first | rw [if_pos (by omega)] | rw [if_neg (by omega)])
    first | omega | rfl

end Go.Proofs.YtkbigejknkamiaaDoor
