/- stratalaw05.works, walked: it answers true. -/
import Derived.Test.YtfhfahlocpmdkaaDoorUsP
import Derived.Test.YtfhfahlocpmdkaaDoorErrNum
import Derived.Test.YtfhfahlocpmdkaaDoorUsU
import Derived.Laws.Rows
namespace Go.Proofs.YtfhfahlocpmdkaaDoor
open Go.RowKit
attribute [local go_sem ↓] run_eql_hd

theorem enc_ok_at (h : Us.Hd) (w : World) (hs : Short h) {B : List UInt8} (H : Hid (Us.enc h = (0, B))) : Calls Tryd.prog 14 #[.agg (hdC h)] w fun e w' => e = .returned (.tuple #[.string (bs B), .nilIface]) ∧ Below w.heap.size w w' := by
  have := encode_any h w hs
  rwa [H.out] at this
theorem enc_bad_at (h : Us.Hd) (w : World) (hs : Short h) {n : Nat} (hn : n ≠ 0) (H : Hid (Us.enc h = (n, []))) : Calls Tryd.prog 14 #[.agg (hdC h)] w fun e w' => e = .returned (.tuple #[.string ⟨#[]⟩, eno (n : Int)]) ∧ Below w.heap.size w w' := by
  have := encode_any h w hs
  rw [H.out, errN, if_neg hn] at this
  exact this
theorem dec_ok_at (s : ByteArray) (w : World) (hs : s.size ≤ 1000000000) {h : Us.Hd} (H : Hid (Us.dec (bl s) = (0, h))) : Calls Tryd.prog 18 #[.string s] w fun e w' => e = .returned (.tuple #[.agg (hdC h), .nilIface]) ∧ Below w.heap.size w w' := by
  have := decode_any s w hs
  rwa [H.out] at this
theorem dec_bad_at (s : ByteArray) (w : World) (hs : s.size ≤ 1000000000) {n : Nat} (hn : n ≠ 0) (H : Hid (Us.dec (bl s) = (n, Us.hd0))) : Calls Tryd.prog 18 #[.string s] w fun e w' => e = .returned (.tuple #[.agg (hdC Us.hd0), eno (n : Int)]) ∧ Below w.heap.size w w' := by
  have := decode_any s w hs
  rw [H.out, errN, if_neg hn] at this
  exact this
def hW : Us.Hd := ⟨[97], 420, 0, 0, 0, 0, 48, [], [], [], 0, 0⟩
def hV : Us.Hd := ⟨[97], -1, 0, 0, 0, 0, 0, [], [], [], 0, 0⟩
theorem encW : ∃ B, Us.enc hW = (0, B) ∧ B.length = 512 ∧ Us.dec B = (0, hW) := by
  have h0 : (Us.enc hW).1 = 0 := by decide +kernel
  have hd := Us.dec_enc h0
  obtain ⟨_, pre, name, _, _, _, e⟩ := Us.enc_ok h0
  refine ⟨(Us.enc hW).2, Prod.ext h0 rfl, by rw [e, Us.bytes_length], hd⟩
theorem encV : Us.enc hV = (1, []) := by decide +kernel
theorem shortW : Short hW := ⟨by decide, by decide, by decide, by decide⟩
theorem shortV : Short hV := ⟨by decide, by decide, by decide, by decide⟩
theorem num1_plain (w : World) (hg : ErrVar w) : Calls Tryd.prog 15 #[eno 1, .int .i64 1] w fun e w' => e = .returned (.bool true) ∧ Below w.heap.size w w' :=
  plain_of _ _ 1 (isNum_eno 1) (isPlain_eno 1) (by omega) (by omega) 1 w hg
set_option maxRecDepth 100000 in
set_option maxHeartbeats 4000000 in
theorem works_any (w : World) (hg : ErrVar w) : Calls Tryd.prog 16 #[] w fun e w' => e = .returned (.bool true) ∧ Below w.heap.size w w' := by
  obtain ⟨B, e1, e2, e3⟩ := encW
  have E1 := Lib.hid e1
  have E3 : Hid (Us.dec (bl (bs B)) = (0, hW)) := e3
  have E4 : Hid (Us.enc hV = (1, [])) := encV
  have hz : (bs B).size = 512 := by rw [bs_size]; exact e2
  have HG := Lib.hid hg
  clear e1 e2 e3 hg
  go_enter Tryd.func16, Tryd.ntmps16
  go_wp2_with fail
  refine (enc_ok_at hW _ shortW E1).mono ?_
  rintro e w1 ⟨rfl, b1⟩
  have s1 := b1.size
  have hb0 : Blk (w.alloc (.cells (hdC hW) 23)) w.heap.size 23 (hdC hW) := Blk.new _ _ _
  have hh1 : Blk w1 w.heap.size 23 (hdC hW) := hb0.below b1 (by show _ < (World.alloc _ _).heap.size; simp)
  have B1 : Below w.heap.size w w1 := ((Below.refl _ _).alloc (Nat.le_refl _) _).trans (b1.mono (by simp))
  go_wp2_with fail
  refine (dec_ok_at _ _ (by omega) E3).mono ?_
  rintro e w2 ⟨rfl, b2⟩
  have hh2 := hh1.below b2 hh1.lt
  have B2 := below_of_below B1 b2 (Nat.le_of_lt hh1.lt)
  go_wp2_with (refine wpList_store_hd rfl _ _ rfl w2.heap.size hW rfl rfl Us.hd0 (Blk.new _ _ _) ?_; intro w3 hB3 hb3 hz3)
  have b3 : Below w2.heap.size w2 w3 := ((Below.refl _ _).alloc (Nat.le_refl _) _).trans hb3
  have hh3 := hh2.below b3 hh2.lt
  have B3 := below_of_below B2 b3 (Nat.le_of_lt hh2.lt)
  refine (enc_bad_at hV _ shortV (by decide) E4).mono ?_
  rintro e w4 ⟨rfl, b4⟩
  have hh4 := hh3.below b4 hh3.lt
  have hB4 := hB3.below b4 hB3.lt
  have B4 := below_of_below B3 b4 (Nat.le_of_lt hh3.lt)
  have G4 := HG.out.below B4 HG.out.lt
  obtain ⟨c0, c1, c2, c3, c4, c5, c6, c7, c8, c9, c10, c11, _, _, _, _, _, _, _, _, _, _, _, _⟩ := cells12 hB4
  obtain ⟨d0, d1, d2, d3, d4, d5, d6, d7, d8, d9, d10, d11, _, _, _, _, _, _, _, _, _, _, _, _⟩ := cells12 hh4
  go_wp2_with (go_at_call 15; refine (num1_plain _ G4).mono ?_; rintro e w5 ⟨rfl, b5⟩)
  go_ret
  exact ⟨rfl, below_of_below B4 b5 (Nat.le_of_lt hh4.lt)⟩
end Go.Proofs.YtfhfahlocpmdkaaDoor
