/- desk.Words' leaves, walked: isBlank, hex; stratalaw32's hex, stratakit.Pick, strataref0.SameTexts. -/
import Derived.Test.YtkbigejknkamiaaProg
import Derived.Test.YtkbigejknkamiaaOwn
import Derived.Test.YtkbigejknkamiaaDkPlain
import Derived.Deep.QuietTactic
import Derived.BigQuiet
namespace Go.Proofs.Ytkbigejknkamiaa
open Go.RowKit

theorem isBlank_any (c : UInt8) (w : World) : Calls Try.prog 9 #[.int .u8 (c.toNat : Int)] w fun e w' => e = .returned (.bool (Dk.isBl c)) ∧ w = w' := by
  have hb : c.toNat < 256 := c.toNat_lt
  by_cases h1 : c.toNat = 32
  · have e1 : Dk.isBl c = true := by simp [Dk.isBl, h1]
    have t1 : (((c.toNat : Int)) == 32) = true := by simp [h1]
    have H := Lib.hid e1
    clear e1 h1
    go_enter Try.func9, Try.ntmps9
    go_wp2_with fail
    go_ret
    exact ⟨by rw [H.out]; rfl, rfl⟩
  · have t1 : (((c.toNat : Int)) == 32) = false := by simp; omega
    by_cases h2 : c.toNat = 9
    · have e1 : Dk.isBl c = true := by simp [Dk.isBl, h2]
      have t2 : (((c.toNat : Int)) == 9) = true := by simp [h2]
      have H := Lib.hid e1
      clear e1 h1 h2
      go_enter Try.func9, Try.ntmps9
      go_wp2_with fail
      go_ret
      exact ⟨by rw [H.out]; rfl, rfl⟩
    · have t2 : (((c.toNat : Int)) == 9) = false := by simp; omega
      have e1 : Dk.isBl c = ((c.toNat : Int) == 13) := by
        simp only [Dk.isBl, beq_false_of_ne h1, beq_false_of_ne h2, Bool.false_or]
        rw [Bool.eq_iff_iff]; simp; omega
      have H := Lib.hid e1
      clear e1 h1 h2
      go_enter Try.func9, Try.ntmps9
      go_wp2_with fail
      go_ret
      exact ⟨by rw [H.out]; rfl, rfl⟩

theorem ret_u8 {a b : Int} (h : a = b) : Ending.returned (.int .u8 a) = .returned (.int .u8 b) := by rw [h]

theorem deskHex_any (c : UInt8) (w : World) : Calls Try.prog 12 #[.int .u8 (c.toNat : Int)] w fun e w' => e = .returned (.int .u8 (Dk.hexv c : Int)) ∧ w = w' := by
  have hb : c.toNat < 256 := c.toNat_lt
  have hcase : c.toNat < 48 ∨ (48 ≤ c.toNat ∧ c.toNat ≤ 57) ∨ (58 ≤ c.toNat ∧ c.toNat ≤ 64) ∨ (65 ≤ c.toNat ∧ c.toNat ≤ 70) ∨ (71 ≤ c.toNat ∧ c.toNat ≤ 96) ∨ (97 ≤ c.toNat ∧ c.toNat ≤ 102) ∨ 103 ≤ c.toNat := by omega
  have HD : Hid (Dk.hexv c = if 48 ≤ c.toNat ∧ c.toNat ≤ 57 then c.toNat - 48 else if 97 ≤ c.toNat ∧ c.toNat ≤ 102 then c.toNat - 87 else if 65 ≤ c.toNat ∧ c.toNat ≤ 70 then c.toNat - 55 else 16) := Lib.hid rfl
  rcases hcase with h | ⟨h, h'⟩ | ⟨h, h'⟩ | ⟨h, h'⟩ | ⟨h, h'⟩ | ⟨h, h'⟩ | h
  all_goals
    go_enter Try.func12, Try.ntmps12
    go_wp2_with fail
    go_ret
    refine ⟨?_, rfl⟩
    rw [HD.out]
    refine ret_u8 ?_
    repeat (first | rw [if_pos (by omega)] | rw [if_neg (by omega)])
    first | omega | rfl

theorem lawHex_any (n : Int) (h0 : 0 ≤ n) (h1 : n < 16) (w : World) : Calls Try.prog 11 #[.int .u8 n] w fun e w' => e = .returned (.int .u8 ((Dk.hexd n.toNat).toNat : Int)) ∧ w = w' := by
  have HD : Hid (((Dk.hexd n.toNat).toNat : Int) = if n < 10 then 48 + n else 97 + n - 10) := by
    obtain ⟨m, rfl⟩ := Int.eq_ofNat_of_zero_le h0
    have : ∀ k : Fin 16, ((Dk.hexd k.val).toNat : Int) = if (k.val : Int) < 10 then 48 + (k.val : Int) else 97 + (k.val : Int) - 10 := by decide
    exact this ⟨m, by omega⟩
  rcases (show n < 10 ∨ 10 ≤ n by omega) with h | h
  all_goals
    go_enter Try.func11, Try.ntmps11
    go_wp2_with fail
    go_ret
    refine ⟨?_, rfl⟩
    rw [HD.out]
    refine ret_u8 ?_
    first | rw [if_pos (by omega)] | rw [if_neg (by omega)]

/-- stratakit.Pick -/
def pick (k n : Int) : Int := if n < 1 then 0 else if k.tmod n < 0 then k.tmod n + n else k.tmod n
theorem pick_range (k n : Int) (h : 1 ≤ n) : 0 ≤ pick k n ∧ pick k n < n := by
  have h1 := Int.tmod_lt_of_pos k (show 0 < n by omega)
  have h2 := Int.lt_tmod_of_pos k (show 0 < n by omega)
  unfold pick
  rw [if_neg (by omega)]
  split <;> omega
theorem pick_any (k n : Int) (hn : n ≤ 1000000000) (h1 : 1 ≤ n) (hk1 : -9223372036854775808 ≤ k) (hk2 : k ≤ 9223372036854775807) (w : World) :
    Calls Try.prog 7 #[.int .i64 k, .int .i64 n] w fun e w' => e = .returned (.int .i64 (pick k n)) ∧ w = w' := by
  have b1 := Int.tmod_lt_of_pos k (show 0 < n by omega)
  have b2 := Int.lt_tmod_of_pos k (show 0 < n by omega)
  have hw : IntKind.i64.wrap (k.tmod n) = k.tmod n := IntWalk.i64_in _ (by omega)
  have HD : Hid (pick k n = if n < 1 then 0 else if k.tmod n < 0 then k.tmod n + n else k.tmod n) := Lib.hid rfl
  rcases (show 0 ≤ k ∨ k < 0 by omega) with hk | hk
  · have e1 : k.tmod n = k % n := Int.tmod_eq_emod_of_nonneg hk
    rw [e1] at b1 b2 hw HD
    have hp : 0 ≤ k % n := Int.emod_nonneg _ (by omega)
    clear e1
    go_enter Try.func7, Try.ntmps7
    go_wp2_with fail
    all_goals go_ret
    all_goals refine ⟨?_, rfl⟩
    all_goals rw [HD.out, if_neg (by omega), if_neg (by omega)]
    all_goals rfl
  · rcases (show k.tmod n < 0 ∨ 0 ≤ k.tmod n by omega) with hp | hp
    all_goals
      go_enter Try.func7, Try.ntmps7
      go_wp2_with fail
      go_ret
      refine ⟨?_, rfl⟩
      rw [HD.out, if_neg (by omega)]
      first | rw [if_pos (by omega)] | rw [if_neg (by omega)]
      rfl
end Go.Proofs.Ytkbigejknkamiaa
