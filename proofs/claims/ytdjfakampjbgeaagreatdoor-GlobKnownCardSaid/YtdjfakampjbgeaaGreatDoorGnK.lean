/- stratalaw02.GlobKnown, walked: true. -/
import Derived.Test.YtdjfakampjbgeaaGreatDoorGnS
import Derived.Test.YtdjfakampjbgeaaGreatDoorGnE
namespace Go.Proofs.YtdjfakampjbgeaaGreatDoor
open Go Go.RowKit

set_option maxRecDepth 100000 in
theorem lawKnown (w : World) (hg : ErrVar w) (hm : Maxl w) : Calls Tryz.prog 4 #[] w fun e w' => e = .returned (.bool true) ∧ Below w.heap.size w w' := by
  go_enter Tryz.func4, Tryz.ntmps4
  go_wp2_with fail
  refine (shown_any _ hg hm).mono ?_
  rintro e w1 ⟨rfl, b1⟩
  have G1 := hg.below b1 hg.lt
  have M1 := hm.below b1 hm.lt
  go_wp2_with fail
  refine (edged_any _ G1 M1).mono ?_
  rintro e w2 ⟨rfl, b2⟩
  go_wp2_with fail
  go_ret
  exact ⟨rfl, below_of_below b1 b2 b1.size⟩
end Go.Proofs.YtdjfakampjbgeaaGreatDoor
