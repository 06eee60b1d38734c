/- CheckFirst, at arguments within the bulk. -/
import Derived.Test.YtdaejggcjjdhkaaGreatDoorCkFl
import Derived.Test.YtdaejggcjjdhkaaGreatDoorCkOs
namespace Go.Proofs.YtdaejggcjjdhkaaGreatDoor
open Go Go.RowKit
theorem lawFirstW (f : FM) (ln : Int) (w : World) (h1 : f.Ok w) (h2 : FlLe 1048576 f) (b1 : -9223372036854775808 ≤ ln) (b2 : ln ≤ 9223372036854775807) (hT : Tabs w) (hV : ErrVar w) (hM : Maxl w) :
    Calls Tryz.prog 7 #[f.val, .int .i64 ln] w fun r w' => r = .returned (.bool true) ∧ Below w.heap.size w w' := lawFirst f ln w h1 (small_fl h2) b1 b2 hT hV hM
end Go.Proofs.YtdaejggcjjdhkaaGreatDoor
