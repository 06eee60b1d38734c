/- stratalaw05.UstarKnown, walked: true. -/
import Derived.Test.YtfhfahlocpmdkaaDoorKnW
import Derived.Test.YtfhfahlocpmdkaaDoorKnR
import Derived.Test.YtfhfahlocpmdkaaDoorKnE
namespace Go.Proofs.YtfhfahlocpmdkaaDoor
open Go.RowKit
set_option maxRecDepth 100000 in
set_option maxHeartbeats 2000000 in
theorem lawKnown (w : World) (hg : ErrVar w) : Calls Tryd.prog 11 #[] w fun e w' => e = .returned (.bool true) ∧ Below w.heap.size w w' := by
  have HG := Lib.hid hg
  clear hg
  go_enter Tryd.func11, Tryd.ntmps11
  go_wp2_with fail
  refine (written_any _ HG.out).mono ?_
  rintro e w1 ⟨rfl, b1⟩
  have G1 := HG.out.below b1 HG.out.lt
  go_wp2_with fail
  refine (read_any _ G1).mono ?_
  rintro e w2 ⟨rfl, b2⟩
  have B2 := below_of_below b1 b2 b1.size
  have G2 := HG.out.below B2 HG.out.lt
  clear b1 b2 G1
  go_wp2_with fail
  refine (ends_any _ G2).mono ?_
  rintro e w3 ⟨rfl, b3⟩
  go_wp2_with fail
  go_ret
  exact ⟨rfl, below_of_below B2 b3 B2.size⟩
end Go.Proofs.YtfhfahlocpmdkaaDoor
