/- stratalaw05's UstarDecode, walked: of all inputs, true. -/
import Derived.Test.YtfhfahlocpmdkaaDoorUsW
namespace Go.Proofs.YtfhfahlocpmdkaaDoor
open Go.RowKit

theorem plain_n (N : Nat) (hN : N ≤ 32) (w : World) (hg : ErrVar w) : Calls Tryd.prog 15 #[errN N, .int .i64 (N : Int)] w fun e w' => e = .returned (.bool true) ∧ Below w.heap.size w w' := by
  by_cases h : N = 0
  · subst h
    exact plain_nil 0 w
  · have e : errN N = eno (N : Int) := by rw [errN, if_neg h]
    rw [e]
    have := plain_of _ _ (N : Int) (isNum_eno (N : Int)) (isPlain_eno (N : Int)) (by omega) (by omega) (N : Int) w hg
    simpa using this
theorem dec_le (s : List UInt8) : (Us.dec s).1 ≤ 32 := by
  unfold Us.dec
  repeat' split
  all_goals simp
theorem refDec_at (s : ByteArray) (w : World) (hs : s.size ≤ 1000000000) {N : Nat} {h : Us.Hd} (H : Hid (Us.dec (bl s) = (N, h))) : Calls Tryd.prog 17 #[.string s] w fun e w' => e = .returned (.tuple #[.agg (hdC h), .int .i64 (N : Int)]) ∧ Below w.heap.size w w' := by
  have := refDecode_any s w hs
  rwa [H.out] at this
theorem dec_at (s : ByteArray) (w : World) (hs : s.size ≤ 1000000000) {N : Nat} {h : Us.Hd} (H : Hid (Us.dec (bl s) = (N, h))) : Calls Tryd.prog 18 #[.string s] w fun e w' => e = .returned (.tuple #[.agg (hdC h), errN N]) ∧ Below w.heap.size w w' := by
  have := decode_any s w hs
  rwa [H.out] at this
set_option maxRecDepth 100000 in
set_option maxHeartbeats 4000000 in
theorem lawDecode (s : ByteArray) (w : World) (hs : s.size ≤ 1000000000) (hg : ErrVar w) : Calls Tryd.prog 4 #[.string s] w fun e w' => e = .returned (.bool true) ∧ Below w.heap.size w w' := by
  obtain ⟨N, h, hD⟩ : ∃ N h, Us.dec (bl s) = (N, h) := ⟨_, _, rfl⟩
  have hN : N ≤ 32 := by have := dec_le (bl s); rw [hD] at this; exact this
  have HD := Lib.hid hD
  have HG := Lib.hid hg
  clear hD hg
  go_enter Tryd.func4, Tryd.ntmps4
  go_wp2_with fail
  refine (refDec_at _ _ hs HD).mono ?_
  rintro e w1 ⟨rfl, b1⟩
  go_wp2_with (refine wpList_store_hd rfl _ _ rfl w1.heap.size h rfl rfl Us.hd0 (Blk.new _ _ _) ?_; intro w2 hB2 hb2 hz2)
  have b2 : Below w1.heap.size w1 w2 := ((Below.refl _ _).alloc (Nat.le_refl _) _).trans hb2
  have B2 := below_of_below b1 b2 b1.size
  refine (dec_at _ _ hs HD).mono ?_
  rintro e w3 ⟨rfl, b3⟩
  have hB3 := hB2.below b3 hB2.lt
  have B3 := below_of_below B2 b3 B2.size
  go_wp2_with (refine wpList_store_hd rfl _ _ rfl w3.heap.size h rfl rfl Us.hd0 (Blk.new _ _ _) ?_; intro w4 hB4 hb4 hz4; have b4 : Below w3.heap.size w3 w4 := ((Below.refl _ _).alloc (Nat.le_refl _) _).trans hb4; have B4 := below_of_below B3 b4 B3.size; have hA4 := hB3.below b4 hB3.lt; have G4 := HG.out.below B4 HG.out.lt; obtain ⟨c0, c1, c2, c3, c4, c5, c6, c7, c8, c9, c10, c11, _, _, _, _, _, _, _, _, _, _, _, _⟩ := cells12 hB4; obtain ⟨d0, d1, d2, d3, d4, d5, d6, d7, d8, d9, d10, d11, _, _, _, _, _, _, _, _, _, _, _, _⟩ := cells12 hA4)
  refine (plain_n N hN _ G4).mono ?_
  rintro e w5 ⟨rfl, b5⟩
  have B5 := below_of_below B4 b5 B4.size
  have G5 := HG.out.below B5 HG.out.lt
  go_wp2_with fail
  refine (works_any _ G5).mono ?_
  rintro e w6 ⟨rfl, b6⟩
  go_wp2_with fail
  go_ret
  exact ⟨rfl, below_of_below B5 b6 B5.size⟩
end Go.Proofs.YtfhfahlocpmdkaaDoor
