/- stratalaw05's UstarEncode, walked: of all inputs, true. -/
import Derived.Test.YtfhfahlocpmdkaaDoorUsF
import Derived.Test.YtfhfahlocpmdkaaDoorUsY
namespace Go.Proofs.YtfhfahlocpmdkaaDoor
open Go.RowKit

theorem refEnc_at (h : Us.Hd) (w : World) (hs : Short h) {N : Nat} {B : List UInt8} (H : Hid (Us.enc h = (N, B))) : Calls Tryd.prog 13 #[.agg (hdC h)] w fun e w' => e = .returned (.tuple #[.string (bs B), .int .i64 (N : Int)]) ∧ Below w.heap.size w w' := by
  have := refEncode_any h w hs
  rwa [H.out] at this
theorem enc_at (h : Us.Hd) (w : World) (hs : Short h) {N : Nat} {B : List UInt8} (H : Hid (Us.enc h = (N, B))) : Calls Tryd.prog 14 #[.agg (hdC h)] w fun e w' => e = .returned (.tuple #[.string (bs B), errN N]) ∧ Below w.heap.size w w' := by
  have := encode_any h w hs
  rwa [H.out] at this
set_option maxRecDepth 100000 in
set_option maxHeartbeats 4000000 in
theorem lawEncode (h : Us.Hd) (w : World) (hs : Short h) (hg : ErrVar w) : Calls Tryd.prog 3 #[.agg (hdC h)] w fun e w' => e = .returned (.bool true) ∧ Below w.heap.size w w' := by
  obtain ⟨N, B, hD⟩ : ∃ N B, Us.enc h = (N, B) := ⟨_, _, rfl⟩
  have hN : N ≤ 32 := by have := enc_le h; rw [hD] at this; exact this
  have HD := Lib.hid hD
  have HG := Lib.hid hg
  clear hD hg
  unfold hdC
  go_enter Tryd.func3, Tryd.ntmps3
  go_wp2_with fail
  refine (refEnc_at h _ hs HD).mono ?_
  rintro e w1 ⟨rfl, b1⟩
  obtain ⟨hh1, B1⟩ := new_hd w h b1
  clear b1
  obtain ⟨c0, c1, c2, c3, c4, c5, c6, c7, c8, c9, c10, c11, _, _, _, _, _, _, _, _, _, _, _, _⟩ := cells12 hh1
  go_wp2_with fail
  refine (enc_at h _ hs HD).mono ?_
  rintro e w2 ⟨rfl, b2⟩
  have B2 := below_of_below B1 b2 B1.size
  have G2 := HG.out.below B2 HG.out.lt
  clear b2
  go_wp2_with fail
  refine (plain_n N hN _ G2).mono ?_
  rintro e w3 ⟨rfl, b3⟩
  have B3 := below_of_below B2 b3 B2.size
  have G3 := HG.out.below B3 HG.out.lt
  go_wp2_with fail
  refine (works_any _ G3).mono ?_
  rintro e w4 ⟨rfl, b4⟩
  go_wp2_with fail
  go_ret
  exact ⟨rfl, below_of_below B3 b4 B3.size⟩
end Go.Proofs.YtfhfahlocpmdkaaDoor
