/- stratalaw02's works, sameNames; GlobQuoted, walked: true. -/
import Derived.Test.YtdjfakampjbgeaaDoorGqA
import Derived.Test.YtdjfakampjbgeaaDoorDkS
import Derived.Test.YtdjfakampjbgeaaDoorErrNum
namespace Go.Proofs.YtdjfakampjbgeaaDoor
open Go.RowKit

theorem plain_24 (w : World) (hg : ErrVar w) : Calls Tryd.prog 13 #[eno 24, .int .i64 24] w fun e w' => e = .returned (.bool true) ∧ Below w.heap.size w w' :=
  plain_of _ _ 24 (isNum_eno 24) (isPlain_eno 24) (by decide) (by decide) 24 w hg
theorem match_some (a b : List UInt8) (h1 : a.length ≤ 1100000) (h2 : b.length ≤ 1100000) (w : World) (hmx : Maxl w) {r : Bool} (H : Hid (Gl.matchL a b = some r)) : Calls Tryd.prog 11 #[.string (bs a), .string (bs b)] w fun e w' => e = .returned (.tuple #[.bool r, .nilIface]) ∧ Below w.heap.size w w' := by
  have := match_any (bs a) (bs b) (by rw [bs_size]; exact h1) (by rw [bs_size]; exact h2) w hmx
  rw [bl_bs, bl_bs, H.out] at this
  exact this
theorem match_none (a b : List UInt8) (h1 : a.length ≤ 1100000) (h2 : b.length ≤ 1100000) (w : World) (hmx : Maxl w) (H : Hid (Gl.matchL a b = none)) : Calls Tryd.prog 11 #[.string (bs a), .string (bs b)] w fun e w' => e = .returned (.tuple #[.bool false, eno 24]) ∧ Below w.heap.size w w' := by
  have := match_any (bs a) (bs b) (by rw [bs_size]; exact h1) (by rw [bs_size]; exact h2) w hmx
  rw [bl_bs, bl_bs, H.out] at this
  exact this
theorem m1 (w : World) (hm : Maxl w) : Calls Tryd.prog 11 #[.string ⟨#[97, 42, 99]⟩, .string ⟨#[97, 98, 98, 99]⟩] w fun e w' => e = .returned (.tuple #[.bool true, .nilIface]) ∧ Below w.heap.size w w' :=
  match_some [97, 42, 99] [97, 98, 98, 99] (by decide) (by decide) w hm (show _ = _ by decide +kernel)
theorem m2 (w : World) (hm : Maxl w) : Calls Tryd.prog 11 #[.string ⟨#[97, 42, 99]⟩, .string ⟨#[97, 98, 98]⟩] w fun e w' => e = .returned (.tuple #[.bool false, .nilIface]) ∧ Below w.heap.size w w' :=
  match_some [97, 42, 99] [97, 98, 98] (by decide) (by decide) w hm (show _ = _ by decide +kernel)
theorem m3 (w : World) (hm : Maxl w) : Calls Tryd.prog 11 #[.string ⟨#[91, 97]⟩, .string ⟨#[97]⟩] w fun e w' => e = .returned (.tuple #[.bool false, eno 24]) ∧ Below w.heap.size w w' :=
  match_none [91, 97] [97] (by decide) (by decide) w hm (show _ = _ by decide +kernel)
set_option maxRecDepth 100000 in
set_option maxHeartbeats 1000000 in
theorem works_any (w : World) (hg : ErrVar w) (hm : Maxl w) : Calls Tryd.prog 14 #[] w fun e w' => e = .returned (.bool true) ∧ Below w.heap.size w w' := by
  have HG := Lib.hid hg
  clear hg
  go_enter Tryd.func14, Tryd.ntmps14
  go_wp2_with fail
  refine (m1 _ hm).mono ?_
  rintro e w1 ⟨rfl, b1⟩
  have hm1 := hm.below b1 hm.lt
  go_wp2_with fail
  refine (m2 _ hm1).mono ?_
  rintro e w2 ⟨rfl, b2⟩
  have B2 := below_of_below b1 b2 b1.size
  have hm2 := hm.below B2 hm.lt
  go_wp2_with fail
  refine (m3 _ hm2).mono ?_
  rintro e w3 ⟨rfl, b3⟩
  have B3 := below_of_below B2 b3 B2.size
  have G3 := HG.out.below B3 HG.out.lt
  go_wp2_with fail
  refine (plain_24 _ G3).mono ?_
  rintro e w4 ⟨rfl, b4⟩
  go_wp2_with fail
  go_ret
  exact ⟨rfl, below_of_below B3 b4 B3.size⟩
theorem head_510 (s : ByteArray) (w : World) : Calls Tryd.prog 9 #[.string s, .int .i64 510] w fun e w' => e = .returned (.string (bs ((bl s).take 510))) ∧ w = w' := head_any s 510 (by decide) (by decide) w
theorem head_2000 (s : ByteArray) (w : World) : Calls Tryd.prog 9 #[.string s, .int .i64 2000] w fun e w' => e = .returned (.string (bs ((bl s).take 2000))) ∧ w = w' := head_any s 2000 (by decide) (by decide) w
theorem quoted_at (l : List UInt8) (hl : l.length ≤ 2000000) (w : World) : Calls Tryd.prog 10 #[.string (bs l)] w fun e w' => e = .returned (.string (bs (Gl.quotedL l))) ∧ w = w' := by
  have := quoted_any (bs l) (by rw [bs_size]; exact hl) w
  rwa [bl_bs] at this
theorem refNames_at (l : List UInt8) (hl : l.length ≤ 2000000) (w : World) {ns : List (List UInt8)} (H : Hid (Gl.namesL l = ns)) : Calls Tryd.prog 12 #[.string (bs l)] w fun e w' => ∃ A c, e = .returned (.slice A ns.length c) ∧ w'.ownsRow w.heap.size 9 1 (.slice A ns.length c) ns.length (sc ns) ∧ Below w.heap.size w w' := by
  refine (refNames_any (bs l) (by rw [bs_size]; exact hl) w).mono ?_
  rintro e w' ⟨v, rfl, hv, hb⟩
  rw [bl_bs, H.out] at hv
  obtain ⟨A, c, rfl⟩ := own_form hv
  exact ⟨A, c, rfl, hv, hb⟩
set_option maxRecDepth 100000 in
theorem sameNames_any (a b : List UInt8) (ha : a.length ≤ 2000000) (hb : b.length ≤ 2000000) (w : World) {r : Bool} (H : Hid ((Gl.namesL a == Gl.namesL b) = r)) : Calls Tryd.prog 15 #[.string (bs a), .string (bs b)] w fun e w' => e = .returned (.bool r) ∧ Below w.heap.size w w' := by
  obtain ⟨na, hna⟩ : ∃ n, Hid (Gl.namesL a = n) := ⟨_, rfl⟩
  obtain ⟨nb, hnb⟩ : ∃ n, Hid (Gl.namesL b = n) := ⟨_, rfl⟩
  have hr : Hid ((na == nb) = r) := by show _ = _; rw [← H.out, hna.out, hnb.out]
  have hl : na.length ≤ 9000000000000000000 := by have := Gl.namesL_length a; rw [hna.out] at this; omega
  clear H
  go_enter Tryd.func15, Tryd.ntmps15
  go_wp2_with fail
  refine (refNames_at a ha _ hna).mono ?_
  rintro e w1 ⟨A, c, rfl, hv1, b1⟩
  go_wp2_with fail
  refine (refNames_at b hb _ hnb).mono ?_
  rintro e w2 ⟨A2, c2, rfl, hv2, b2⟩
  have R1 := (Reads.of_own hv1).below b2
  have R2 := Reads.of_own hv2
  have B2 := below_of_below b1 b2 b1.size
  have R1' := R1.more b2.size
  clear hv1 hv2 b1 b2 R1
  go_wp2_with fail
  refine (sameTexts_any A A2 na nb na.length nb.length c c2 w2.heap.size _ R1' R2 hl).mono ?_
  rintro e w3 ⟨rfl, q, rfl⟩
  go_wp2_with fail
  go_ret
  exact ⟨by rw [← hr.out]; rfl, below_drewN B2 q⟩
set_option maxRecDepth 100000 in
set_option maxHeartbeats 2000000 in
theorem lawQuoted (p q : ByteArray) (w : World) (hg : ErrVar w) (hm : Maxl w) : Calls Tryd.prog 3 #[.string p, .string q] w fun e w' => e = .returned (.bool true) ∧ Below w.heap.size w w' := by
  have HG := Lib.hid hg
  clear hg
  obtain ⟨a, ha⟩ : ∃ a, (bl p).take 510 = a := ⟨_, rfl⟩
  obtain ⟨b, hb⟩ : ∃ b, (bl q).take 2000 = b := ⟨_, rfl⟩
  have la : a.length ≤ 510 := by rw [← ha, List.length_take]; omega
  have lb : b.length ≤ 2000 := by rw [← hb, List.length_take]; omega
  have lq := Gl.quoted_length a
  have hp1 := head_510 p
  have hq1 := head_2000 q
  rw [ha] at hp1
  rw [hb] at hq1
  clear ha hb
  obtain ⟨qa, hqa⟩ : ∃ x, Gl.quotedL a = x := ⟨_, rfl⟩
  have hqt := quoted_at a (by omega)
  rw [hqa] at hqt lq
  have M1 : Gl.matchL qa a = if Gl.namesL a = [] then none else some (Gl.namesL a == Gl.namesL a) := by rw [← hqa]; exact Gl.match_quoted a a la
  have M2 : Gl.matchL qa b = if Gl.namesL a = [] then none else some (Gl.namesL a == Gl.namesL b) := by rw [← hqa]; exact Gl.match_quoted a b la
  clear hqa
  obtain ⟨na, hna⟩ : ∃ n, Hid (Gl.namesL a = n) := ⟨_, rfl⟩
  by_cases hnil : Gl.namesL a = []
  · rw [if_pos hnil] at M1 M2
    have H1 := Lib.hid M1
    have H2 := Lib.hid M2
    have hn0 : na = [] := by rw [← hna.out]; exact hnil
    subst hn0
    clear M1 M2 hnil
    go_enter Tryd.func3, Tryd.ntmps3
    go_wp2_with (first | (go_at_call 9; (first | (with_reducible refine (hp1 _).mono ?_) | (with_reducible refine (hq1 _).mono ?_)); rintro e w1 ⟨rfl, rfl⟩) | (go_at_call 10; refine (hqt _).mono ?_; rintro e w1 ⟨rfl, rfl⟩))
    refine (match_none qa a (by omega) (by omega) _ hm H1).mono ?_
    rintro e w1 ⟨rfl, b1⟩
    have hm1 := hm.below b1 hm.lt
    go_wp2_with fail
    refine (match_none qa b (by omega) (by omega) _ hm1 H2).mono ?_
    rintro e w2 ⟨rfl, b2⟩
    have B2 := below_of_below b1 b2 b1.size
    go_wp2_with fail
    refine (refNames_at a (by omega) _ hna).mono ?_
    rintro e w3 ⟨A, c, rfl, _, b3⟩
    have B3 := below_of_below B2 b3 B2.size
    have G3 := HG.out.below B3 HG.out.lt
    clear b1 b2 b3 B2
    go_wp2_with fail
    refine (plain_24 _ G3).mono ?_
    rintro e w4 ⟨rfl, b4⟩
    have B4 := below_of_below B3 b4 B3.size
    have G4 := HG.out.below B4 HG.out.lt
    have hm4 := hm.below B4 hm.lt
    go_wp2_with fail
    refine (works_any _ G4 hm4).mono ?_
    rintro e w5 ⟨rfl, b5⟩
    go_wp2_with fail
    go_ret
    exact ⟨rfl, below_of_below B4 b5 B4.size⟩
  · rw [if_neg hnil] at M1 M2
    rw [show (Gl.namesL a == Gl.namesL a) = true by simp] at M1
    obtain ⟨r, hr⟩ : ∃ r, Hid ((Gl.namesL a == Gl.namesL b) = r) := ⟨_, rfl⟩
    rw [hr.out] at M2
    have H1 := Lib.hid M1
    have H2 := Lib.hid M2
    have t0 : ((na.length : Int) == 0) = false := by
      have : na ≠ [] := by rw [← hna.out]; exact hnil
      simpa using this
    clear M1 M2 hnil
    go_enter Tryd.func3, Tryd.ntmps3
    go_wp2_with (first | (go_at_call 9; (first | (with_reducible refine (hp1 _).mono ?_) | (with_reducible refine (hq1 _).mono ?_)); rintro e w1 ⟨rfl, rfl⟩) | (go_at_call 10; refine (hqt _).mono ?_; rintro e w1 ⟨rfl, rfl⟩))
    refine (match_some qa a (by omega) (by omega) _ hm H1).mono ?_
    rintro e w1 ⟨rfl, b1⟩
    have hm1 := hm.below b1 hm.lt
    go_wp2_with fail
    refine (match_some qa b (by omega) (by omega) _ hm1 H2).mono ?_
    rintro e w2 ⟨rfl, b2⟩
    have B2 := below_of_below b1 b2 b1.size
    go_wp2_with fail
    refine (refNames_at a (by omega) _ hna).mono ?_
    rintro e w3 ⟨A, c, rfl, _, b3⟩
    have B3 := below_of_below B2 b3 B2.size
    clear b1 b2 b3 B2
    go_wp2_with fail
    refine (sameNames_any a b (by omega) (by omega) _ hr).mono ?_
    rintro e w4 ⟨rfl, b4⟩
    go_wp2_with fail
    go_ret
    exact ⟨by first | rfl | (simp; done) | (cases r <;> rfl), below_of_below B3 b4 B3.size⟩
end Go.Proofs.YtdjfakampjbgeaaDoor
