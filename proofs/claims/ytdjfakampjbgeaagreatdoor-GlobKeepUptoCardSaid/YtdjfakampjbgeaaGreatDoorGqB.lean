/- stratalaw02's works, sameNames; GlobQuoted, walked: true. -/
import Derived.Test.YtdjfakampjbgeaaGreatDoorGqA
import Derived.Test.YtdjfakampjbgeaaGreatDoorMD
namespace Go.Proofs.YtdjfakampjbgeaaGreatDoor
open Go.RowKit

theorem plain_24 (w : World) (hg : ErrVar w) : Calls Tryz.prog 27 #[eno 24, .int .i64 24] w fun e w' => e = .returned (.bool true) ∧ Below w.heap.size w w' :=
  plain_of _ _ 24 (isNum_eno 24) (isPlain_eno 24) (by decide) (by decide) 24 w hg
theorem match_some (a b : List UInt8) (h1 : a.length ≤ 1100000) (h2 : b.length ≤ 1100000) (w : World) (hmx : Maxl w) {r : Bool} (H : Hid (Gl.matchL a b = some r)) : Calls Tryz.prog 26 #[.string (bs a), .string (bs b)] w fun e w' => e = .returned (.tuple #[.bool r, .nilIface]) ∧ Below w.heap.size w w' := by
  have := match_any (bs a) (bs b) (by rw [bs_size]; exact h1) (by rw [bs_size]; exact h2) w hmx
  rw [bl_bs, bl_bs, H.out] at this
  exact this
theorem match_none (a b : List UInt8) (h1 : a.length ≤ 1100000) (h2 : b.length ≤ 1100000) (w : World) (hmx : Maxl w) (H : Hid (Gl.matchL a b = none)) : Calls Tryz.prog 26 #[.string (bs a), .string (bs b)] w fun e w' => e = .returned (.tuple #[.bool false, eno 24]) ∧ Below w.heap.size w w' := by
  have := match_any (bs a) (bs b) (by rw [bs_size]; exact h1) (by rw [bs_size]; exact h2) w hmx
  rw [bl_bs, bl_bs, H.out] at this
  exact this
theorem m1 (w : World) (hm : Maxl w) : Calls Tryz.prog 26 #[.string ⟨#[97, 42, 99]⟩, .string ⟨#[97, 98, 98, 99]⟩] w fun e w' => e = .returned (.tuple #[.bool true, .nilIface]) ∧ Below w.heap.size w w' :=
  match_some [97, 42, 99] [97, 98, 98, 99] (by decide) (by decide) w hm (show _ = _ by decide +kernel)
theorem m2 (w : World) (hm : Maxl w) : Calls Tryz.prog 26 #[.string ⟨#[97, 42, 99]⟩, .string ⟨#[97, 98, 98]⟩] w fun e w' => e = .returned (.tuple #[.bool false, .nilIface]) ∧ Below w.heap.size w w' :=
  match_some [97, 42, 99] [97, 98, 98] (by decide) (by decide) w hm (show _ = _ by decide +kernel)
theorem m3 (w : World) (hm : Maxl w) : Calls Tryz.prog 26 #[.string ⟨#[91, 97]⟩, .string ⟨#[97]⟩] w fun e w' => e = .returned (.tuple #[.bool false, eno 24]) ∧ Below w.heap.size w w' :=
  match_none [91, 97] [97] (by decide) (by decide) w hm (show _ = _ by decide +kernel)
set_option maxRecDepth 100000 in
set_option maxHeartbeats 1000000 in
theorem works_any (w : World) (hg : ErrVar w) (hm : Maxl w) : Calls Tryz.prog 8 #[] w fun e w' => e = .returned (.bool true) ∧ Below w.heap.size w w' := by
  have HG := Lib.hid hg
  clear hg
  go_enter Tryz.func8, Tryz.ntmps8
  go_wp2_with fail
  refine (m1 _ hm).mono ?_
  rintro e w1 ⟨rfl, b1⟩
  have hm1 := hm.below b1 hm.lt
  go_wp2_with fail
  refine (m2 _ hm1).mono ?_
  rintro e w2 ⟨rfl, b2⟩
  have B2 := below_of_below b1 b2 b1.size
  have hm2 := hm.below B2 hm.lt
  go_wp2_with fail
  refine (m3 _ hm2).mono ?_
  rintro e w3 ⟨rfl, b3⟩
  have B3 := below_of_below B2 b3 B2.size
  have G3 := HG.out.below B3 HG.out.lt
  go_wp2_with fail
  refine (plain_24 _ G3).mono ?_
  rintro e w4 ⟨rfl, b4⟩
  go_wp2_with fail
  go_ret
  exact ⟨rfl, below_of_below B3 b4 B3.size⟩
theorem head_510 (s : ByteArray) (w : World) : Calls Tryz.prog 63 #[.string s, .int .i64 510] w fun e w' => e = .returned (.string (bs ((bl s).take 510))) ∧ w = w' := head_any s 510 (by decide) (by decide) w
theorem head_2000 (s : ByteArray) (w : World) : Calls Tryz.prog 63 #[.string s, .int .i64 2000] w fun e w' => e = .returned (.string (bs ((bl s).take 2000))) ∧ w = w' := head_any s 2000 (by decide) (by decide) w
theorem refNames_at (l : List UInt8) (hl : l.length ≤ 2000000) (w : World) {ns : List (List UInt8)} (H : Hid (Gl.namesL l = ns)) : Calls Tryz.prog 40 #[.string (bs l)] w fun e w' => ∃ A c, e = .returned (.slice A ns.length c) ∧ w'.ownsRow w.heap.size 9 1 (.slice A ns.length c) ns.length (sc ns) ∧ Below w.heap.size w w' := by
  refine (refNames_any (bs l) (by rw [bs_size]; exact hl) w).mono ?_
  rintro e w' ⟨v, rfl, hv, hb⟩
  rw [bl_bs, H.out] at hv
  obtain ⟨A, c, rfl⟩ := own_form hv
  exact ⟨A, c, rfl, hv, hb⟩
end Go.Proofs.YtdjfakampjbgeaaGreatDoor
