/- CheckAlone, at arguments within the bulk. -/
import Derived.Test.YtdaejggcjjdhkaaGreatDoorCkAl
import Derived.Test.YtdaejggcjjdhkaaGreatDoorCkOs
namespace Go.Proofs.YtdaejggcjjdhkaaGreatDoor
open Go Go.RowKit
theorem lawAloneW (f : FM) (m : SM) (w : World) (h1 : f.Ok w) (h2 : FlLe 1048576 f) (h3 : m.Ok w) (h4 : StLe 1048576 m.s) (hT : Tabs w) (hV : ErrVar w) (hM : Maxl w) :
    Calls Tryz.prog 6 #[f.val, .agg (smL m).toArray] w fun r w' => r = .returned (.bool true) ∧ Below w.heap.size w w' := lawAlone f m w h1 h3 (small_fl h2) (small_st h4) (cnt_fl h2) hT hV hM
end Go.Proofs.YtdaejggcjjdhkaaGreatDoor
