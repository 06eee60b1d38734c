/- strataref02.Match; stratalaw02.GlobMatch, walked: of all inputs up to 2^20 bytes, true. -/
import Derived.Test.YtdjfakampjbgeaaGreatDoorGrG
import Derived.Test.YtdjfakampjbgeaaGreatDoorME
namespace Go.Proofs.YtdjfakampjbgeaaGreatDoor
open Go Go.RowKit

/-- what the document's Match answers. -/
def refMatchE (r : Option Bool) : Value := match r with
  | some b => .tuple #[.bool b, .int .i64 0]
  | none => .tuple #[.bool false, .int .i64 24]
set_option maxRecDepth 100000 in
set_option maxHeartbeats 2000000 in
theorem refMatch_any (pat p : ByteArray) (h1 : pat.size ≤ 2000000) (h2 : p.size ≤ 2000000) (w : World) {r : Option Bool} (H : Hid (Gl.matchL (bl pat) (bl p) = r)) : Calls Tryz.prog 61 #[.string pat, .string p] w fun e w' => e = .returned (refMatchE r) ∧ Below w.heap.size w w' := by
  cases hr : Gl.readL (bl pat) with
  | none =>
    have hR : Hid (r = none) := by show _ = _; rw [← H.out, Gl.matchL, hr]; rfl
    have hP := fun w => pattern_any pat h1 w (b := false) (Lib.hid (by rw [hr]; rfl))
    clear hr
    go_enter Tryz.func61, Tryz.ntmps61
    go_wp2_with fail
    refine (hP _).mono ?_
    rintro e w1 ⟨rfl, b1⟩
    go_wp2_with fail
    go_ret2
    exact ⟨by rw [hR.out]; rfl, b1⟩
  | some ps =>
    obtain ⟨ns, hns⟩ : ∃ ns, Hid (Gl.namesL (bl p) = ns) := ⟨_, Lib.hid rfl⟩
    have hnl : ns.length ≤ 2000001 := by have := Gl.namesL_length (bl p); rw [hns.out, bl_length] at this; omega
    have hnx : Hid (∀ x ∈ ns, x.length ≤ 2000000) := fun x hx => by
      rw [← hns.out] at hx
      have := Gl.namesL_piece hx
      rw [bl_length] at this
      omega
    have hR : Hid (r = some (Gl.takesAll ps ns)) := by show _ = _; rw [← H.out, Gl.matchL, hr, hns.out]; rfl
    have hP := fun w => pattern_any pat h1 w (b := true) (Lib.hid (by rw [hr]; rfl))
    have HR := Lib.hid hr
    have i0 : (0 : Int) ≤ (ns.length : Int) := by omega
    have i1 : (ns.length : Int) < (ns.length : Int) + 1 := by omega
    clear hr
    go_enter Tryz.func61, Tryz.ntmps61
    go_wp2_with fail
    refine (hP _).mono ?_
    rintro e w1 ⟨rfl, b1⟩
    go_wp2_with fail
    refine (refNames_pat p h2 _ hns).mono ?_
    rintro e w2 ⟨A, c, rfl, hQ, b2⟩
    have B2 := below_of_below b1 b2 b1.size
    clear b1 b2
    go_wp2_with fail
    refine (reached_any pat h1 HR ns _ _ hQ hnl hnx).mono ?_
    rintro e w3 ⟨g, rfl, ⟨_, hG⟩, b3⟩
    have B3 := below_of_below B2 b3 B2.size
    have c0 := hG.cell (i := ns.length) (by omega)
    rw [reachP_end] at c0
    obtain ⟨t, ht⟩ : ∃ t, Gl.takesAll ps ns = t := ⟨_, rfl⟩
    have hR2 : Hid (r = some t) := by show _ = _; rw [hR.out, ht]
    rw [ht] at c0
    clear hG hQ b3 B2 ht hR
    go_wp2_with fail
    go_ret2
    exact ⟨by rw [hR2.out]; rfl, B3⟩
theorem refMatch_at (pat p : ByteArray) (h1 : pat.size ≤ 2000000) (h2 : p.size ≤ 2000000) (w : World) {r : Option Bool} (H : Hid (Gl.matchL (bl pat) (bl p) = r)) {b : Bool} {n : Int} (hb : refMatchE r = .tuple #[.bool b, .int .i64 n]) : Calls Tryz.prog 61 #[.string pat, .string p] w fun e w' => e = .returned (.tuple #[.bool b, .int .i64 n]) ∧ Below w.heap.size w w' := by
  rw [← hb]
  exact refMatch_any pat p h1 h2 w H
theorem match_at (pat p : ByteArray) (h1 : pat.size ≤ 1100000) (h2 : p.size ≤ 1100000) (w : World) (hmx : Maxl w) {r : Option Bool} (H : Hid (Gl.matchL (bl pat) (bl p) = r)) {b : Bool} {v : Value} (hb : matchE r = .tuple #[.bool b, v]) : Calls Tryz.prog 26 #[.string pat, .string p] w fun e w' => e = .returned (.tuple #[.bool b, v]) ∧ Below w.heap.size w w' := by
  rw [← hb, ← H.out]
  exact match_any pat p h1 h2 w hmx
theorem plain_0 (w : World) : Calls Tryz.prog 27 #[.nilIface, .int .i64 0] w fun e w' => e = .returned (.bool true) ∧ Below w.heap.size w w' := plain_nil 0 w
set_option maxRecDepth 100000 in
set_option maxHeartbeats 4000000 in
theorem lawMatch (p q : ByteArray) (w : World) (hp : p.size ≤ 1048576) (hq : q.size ≤ 1048576) (hg : ErrVar w) (hm : Maxl w) : Calls Tryz.prog 36 #[.string p, .string q] w fun e w' => e = .returned (.bool true) ∧ Below w.heap.size w w' := by
  have HG := Lib.hid hg
  clear hg
  obtain ⟨r, hr⟩ : ∃ r, Hid (Gl.matchL (bl p) (bl q) = r) := ⟨_, Lib.hid rfl⟩
  obtain ⟨m1, hm1⟩ : ∃ m, Hid (Gl.metaL (bl p) = m) := ⟨_, Lib.hid rfl⟩
  obtain ⟨m2, hm2⟩ : ∃ m, Hid (Gl.metaL (bl q) = m) := ⟨_, Lib.hid rfl⟩
  have t1 : (m1 == m1) = true := by simp
  have t2 : (m2 == m2) = true := by simp
  obtain ⟨b, n, v, hb1, hb2, hpl⟩ : ∃ (b : Bool) (n : Int) (v : Value), refMatchE r = .tuple #[.bool b, .int .i64 n] ∧ matchE r = .tuple #[.bool b, v] ∧ Hid (∀ W, ErrVar W → Calls Tryz.prog 27 #[v, .int .i64 n] W fun e w' => e = .returned (.bool true) ∧ Below W.heap.size W w') := by
    cases r with
    | none => exact ⟨false, 24, eno 24, rfl, rfl, fun W h => plain_24 W h⟩
    | some b => exact ⟨b, 0, .nilIface, rfl, rfl, fun W _ => plain_0 W⟩
  have t0 : (b == b) = true := by simp
  have HB1 := Lib.hid hb1
  have HB2 := Lib.hid hb2
  clear hb1 hb2
  go_enter Tryz.func36, Tryz.ntmps36
  go_wp2_with fail
  refine (refMatch_at p q (by omega) (by omega) _ hr HB1.out).mono ?_
  rintro e w1 ⟨rfl, b1⟩
  have hx1 := hm.below b1 hm.lt
  go_wp2_with fail
  refine (match_at p q (by omega) (by omega) _ hx1 hr HB2.out).mono ?_
  rintro e w2 ⟨rfl, b2⟩
  have B2 := below_of_below b1 b2 b1.size
  have G2 := HG.out.below B2 HG.out.lt
  clear b1 b2 hx1
  go_wp2_with fail
  refine (hpl.out _ G2).mono ?_
  rintro e w3 ⟨rfl, b3⟩
  have B3 := below_of_below B2 b3 B2.size
  clear B2 b3 G2
  go_wp2_with fail
  refine (meta_any p (by omega) _ hm1).mono ?_
  rintro e w4 ⟨rfl, b4⟩
  have B4 := below_of_below B3 b4 B3.size
  clear B3 b4
  go_wp2_with fail
  refine (refMeta_any p (by omega) _ hm1).mono ?_
  rintro e w5 ⟨rfl, rfl⟩
  go_wp2_with fail
  refine (meta_any q (by omega) _ hm2).mono ?_
  rintro e w6 ⟨rfl, b6⟩
  have B6 := below_of_below B4 b6 B4.size
  clear B4 b6
  go_wp2_with fail
  refine (refMeta_any q (by omega) _ hm2).mono ?_
  rintro e w7 ⟨rfl, rfl⟩
  have G6 := HG.out.below B6 HG.out.lt
  have hx6 := hm.below B6 hm.lt
  go_wp2_with fail
  refine (works_any _ G6 hx6).mono ?_
  rintro e w8 ⟨rfl, b8⟩
  go_wp2_with fail
  go_ret
  exact ⟨by first | rfl | (simp; done), below_of_below B6 b8 B6.size⟩
end Go.Proofs.YtdjfakampjbgeaaGreatDoor
