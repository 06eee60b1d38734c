/- stratalaw05's UstarBack and UstarUnlike, walked: of all inputs, true. -/
import Derived.Test.YtfhfahlocpmdkaaDoorUsX
namespace Go.Proofs.YtfhfahlocpmdkaaDoor
open Go.RowKit

theorem enc_le (h : Us.Hd) : (Us.enc h).1 ≤ 32 := by
  unfold Us.enc
  repeat' split
  all_goals simp
theorem enc_cases (h : Us.Hd) : (∃ B, Us.enc h = (0, B) ∧ B.length = 512 ∧ Us.dec B = (0, h)) ∨ (∃ N, N ≠ 0 ∧ Us.enc h = (N, [])) := by
  by_cases h0 : (Us.enc h).1 = 0
  · have hd := Us.dec_enc h0
    obtain ⟨_, pre, name, _, _, _, e⟩ := Us.enc_ok h0
    exact .inl ⟨(Us.enc h).2, Prod.ext h0 rfl, by rw [e, Us.bytes_length], hd⟩
  · exact .inr ⟨(Us.enc h).1, h0, Prod.ext rfl (Us.enc_bad h0)⟩
theorem new_hd (w : World) (h : Us.Hd) {w1 : World} (b : Below (w.alloc (.cells (hdC h) 23)).heap.size (w.alloc (.cells (hdC h) 23)) w1) : Blk w1 w.heap.size 23 (hdC h) ∧ Below w.heap.size w w1 :=
  ⟨(Blk.new _ _ _).below b (by simp), ((Below.refl _ _).alloc (Nat.le_refl _) _).trans (b.mono (by simp))⟩
set_option maxRecDepth 100000 in
set_option maxHeartbeats 4000000 in
theorem lawBack (h : Us.Hd) (w : World) (hs : Short h) (hg : ErrVar w) : Calls Tryd.prog 6 #[.agg (hdC h)] w fun e w' => e = .returned (.bool true) ∧ Below w.heap.size w w' := by
  have HG := Lib.hid hg
  clear hg
  rcases enc_cases h with ⟨B, e1, e2, e3⟩ | ⟨N, hN, e1⟩
  · have E1 := Lib.hid e1
    have E3 : Hid (Us.dec (bl (bs B)) = (0, h)) := e3
    have hz : (bs B).size = 512 := by rw [bs_size]; exact e2
    clear e1 e2 e3
    unfold hdC
    go_enter Tryd.func6, Tryd.ntmps6
    go_wp2_with fail
    refine (enc_ok_at h _ hs E1).mono ?_
    rintro e w1 ⟨rfl, b1⟩
    obtain ⟨hh1, B1⟩ := new_hd w h b1
    clear b1
    go_wp2_with fail
    refine (dec_ok_at _ _ (by omega) E3).mono ?_
    rintro e w2 ⟨rfl, b2⟩
    have hh2 := hh1.below b2 hh1.lt
    have B2 := below_of_below B1 b2 B1.size
    clear b2
    go_wp2_with (refine wpList_store_hd rfl _ _ rfl w2.heap.size h rfl rfl Us.hd0 (Blk.new _ _ _) ?_; intro w3 hB3 hb3 hz3; have b3 : Below w2.heap.size w2 w3 := ((Below.refl _ _).alloc (Nat.le_refl _) _).trans hb3; have B3 := below_of_below B2 b3 B2.size; have hh3 := hh2.below b3 hh2.lt; obtain ⟨c0, c1, c2, c3, c4, c5, c6, c7, c8, c9, c10, c11, _, _, _, _, _, _, _, _, _, _, _, _⟩ := cells12 hB3; clear b3 hb3 hz3)
    refine (enc_ok_at h _ hs E1).mono ?_
    rintro e w4 ⟨rfl, b4⟩
    have hh4 := hh3.below b4 hh3.lt
    have hB4 := hB3.below b4 hB3.lt
    have B4 := below_of_below B3 b4 B3.size
    have G4 := HG.out.below B4 HG.out.lt
    obtain ⟨d0, d1, d2, d3, d4, d5, d6, d7, d8, d9, d10, d11, _, _, _, _, _, _, _, _, _, _, _, _⟩ := cells12 hB4
    obtain ⟨e0, e1, e2, e3, e4, e5, e6, e7, e8, e9, e10, e11, _, _, _, _, _, _, _, _, _, _, _, _⟩ := cells12 hh4
    go_wp2_with (go_at_call 16; refine (works_any _ G4).mono ?_; rintro e w5 ⟨rfl, b5⟩)
    go_ret
    exact ⟨rfl, below_of_below B4 b5 B4.size⟩
  · have E1 := Lib.hid e1
    clear e1
    unfold hdC
    go_enter Tryd.func6, Tryd.ntmps6
    go_wp2_with fail
    refine (enc_bad_at h _ hs hN E1).mono ?_
    rintro e w1 ⟨rfl, b1⟩
    obtain ⟨hh1, B1⟩ := new_hd w h b1
    have G1 := HG.out.below B1 HG.out.lt
    clear b1
    go_wp2_with (go_at_call 16; refine (works_any _ G1).mono ?_; rintro e w5 ⟨rfl, b5⟩)
    go_ret
    exact ⟨rfl, below_of_below B1 b5 B1.size⟩
end Go.Proofs.YtfhfahlocpmdkaaDoor
