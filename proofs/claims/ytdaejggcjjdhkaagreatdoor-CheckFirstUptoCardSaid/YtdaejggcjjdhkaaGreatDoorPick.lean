/- stratakit.Pick, walked. -/
import Derived.Test.YtdaejggcjjdhkaaGreatDoorProg
import Derived.Test.YtdaejggcjjdhkaaGreatDoorMkA
import Derived.WalkKit
import Derived.IntWalk
import Derived.Lib.Hide
namespace Go.Proofs.YtdaejggcjjdhkaaGreatDoor
open Go.RowKit

/-- stratakit.Pick -/
def pick (k n : Int) : Int := if n < 1 then 0 else if k.tmod n < 0 then k.tmod n + n else k.tmod n
theorem pick_range (k n : Int) (h : 1 ≤ n) : 0 ≤ pick k n ∧ pick k n < n := by
  have h1 := Int.tmod_lt_of_pos k (show 0 < n by omega)
  have h2 := Int.lt_tmod_of_pos k (show 0 < n by omega)
  unfold pick
  rw [if_neg (by omega)]
  split <;> omega
theorem pick_any (k n : Int) (hn : n ≤ 1000000000) (h1 : 1 ≤ n) (hk1 : -9223372036854775808 ≤ k) (hk2 : k ≤ 9223372036854775807) (w : World) :
    Calls Tryz.prog 25 #[.int .i64 k, .int .i64 n] w fun e w' => e = .returned (.int .i64 (pick k n)) ∧ w = w' := by
  have b1 := Int.tmod_lt_of_pos k (show 0 < n by omega)
  have b2 := Int.lt_tmod_of_pos k (show 0 < n by omega)
  have hw : IntKind.i64.wrap (k.tmod n) = k.tmod n := IntWalk.i64_in _ (by omega)
  have HD : Hid (pick k n = if n < 1 then 0 else if k.tmod n < 0 then k.tmod n + n else k.tmod n) := Lib.hid rfl
  rcases (show 0 ≤ k ∨ k < 0 by omega) with hk | hk
  · have e1 : k.tmod n = k % n := Int.tmod_eq_emod_of_nonneg hk
    rw [e1] at b1 b2 hw HD
    have hp : 0 ≤ k % n := Int.emod_nonneg _ (by omega)
    clear e1
    go_enter Tryz.func25, Tryz.ntmps25
    go_wp2_with fail
    all_goals go_ret
    all_goals refine ⟨?_, rfl⟩
    all_goals rw [HD.out, if_neg (by omega), if_neg (by omega)]
    all_goals rfl
  · rcases (show k.tmod n < 0 ∨ 0 ≤ k.tmod n by omega) with hp | hp
    all_goals
      go_enter Tryz.func25, Tryz.ntmps25
      go_wp2_with fail
      go_ret
      refine ⟨?_, rfl⟩
      rw [HD.out, if_neg (by omega)]
      first | rw [if_pos (by omega)] | rw [if_neg (by omega)]
      rfl
end Go.Proofs.YtdaejggcjjdhkaaGreatDoor
