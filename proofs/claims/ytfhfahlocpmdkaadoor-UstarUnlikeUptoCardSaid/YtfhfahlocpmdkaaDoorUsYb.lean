/- stratalaw05's UstarUnlike, walked: of all inputs, true. -/
import Derived.Test.YtfhfahlocpmdkaaDoorUsY
namespace Go.Proofs.YtfhfahlocpmdkaaDoor
open Go.RowKit

theorem run_eql_lit (p l u g p' l' u' g' : List UInt8) (a b c d e m n a' b' c' d' e' m' n' : Int) (t t' : UInt8) (w : World) :
    (binOp .eql 23 (.agg #[.string (bs p), .int .i64 a, .int .i64 b, .int .i64 c, .int .i64 d, .int .i64 e, .int .u8 (t.toNat : Int), .string (bs l), .string (bs u), .string (bs g), .int .i64 m, .int .i64 n]) (.agg #[.string (bs p'), .int .i64 a', .int .i64 b', .int .i64 c', .int .i64 d', .int .i64 e', .int .u8 (t'.toNat : Int), .string (bs l'), .string (bs u'), .string (bs g'), .int .i64 m', .int .i64 n'])).run Tryd.prog w = .ok (.bool (hdEq ⟨p, a, b, c, d, e, t, l, u, g, m, n⟩ ⟨p', a', b', c', d', e', t', l', u', g', m', n'⟩)) w :=
  run_eql_hd ⟨p, a, b, c, d, e, t, l, u, g, m, n⟩ ⟨p', a', b', c', d', e', t', l', u', g', m', n'⟩ w
attribute [local go_sem ↓] run_eql_lit
theorem new_two (w : World) (a b : Us.Hd) {w1 : World} (h : Below ((w.alloc (.cells (hdC a) 23)).alloc (.cells (hdC b) 23)).heap.size ((w.alloc (.cells (hdC a) 23)).alloc (.cells (hdC b) 23)) w1) :
    Blk w1 w.heap.size 23 (hdC a) ∧ Blk w1 (w.heap.size + 1) 23 (hdC b) ∧ Below w.heap.size w w1 := by
  have z : (w.alloc (.cells (hdC a) 23)).heap.size = w.heap.size + 1 := by simp
  have q := Blk.new (w.alloc (.cells (hdC a) 23)) 23 (hdC b)
  rw [z] at q
  exact ⟨((Blk.new w _ _).alloc _).below h (by simp; omega), q.below h (by simp), (((Below.refl _ _).alloc (Nat.le_refl _) _).alloc (by simp) _).trans (h.mono (by simp; omega))⟩
set_option maxRecDepth 100000 in
set_option maxHeartbeats 8000000 in
theorem lawUnlike (a b : Us.Hd) (w : World) (ha : Short a) (hb : Short b) (hg : ErrVar w) : Calls Tryd.prog 7 #[.agg (hdC a), .agg (hdC b)] w fun e w' => e = .returned (.bool true) ∧ Below w.heap.size w w' := by
  have HG := Lib.hid hg
  clear hg
  unfold hdC
  rcases enc_cases a with ⟨B1, e1, _, d1⟩ | ⟨N1, hN1, e1⟩ <;> rcases enc_cases b with ⟨B2, e2, _, d2⟩ | ⟨N2, hN2, e2⟩
  · have E1 := Lib.hid e1
    have E2 := Lib.hid e2
    by_cases hab : a = b
    · subst hab
      have hB : B1 = B2 := by rw [e1] at e2; injection e2
      subst hB
      clear e1 e2 d1 d2
      have hEq : hdEq ⟨a.path, a.mode, a.uid, a.gid, a.size, a.time, a.type, a.link, a.user, a.group, a.major, a.minor⟩ ⟨a.path, a.mode, a.uid, a.gid, a.size, a.time, a.type, a.link, a.user, a.group, a.major, a.minor⟩ = true := hdEq_refl a
      go_enter Tryd.func7, Tryd.ntmps7
      go_wp2_with fail
      refine (enc_ok_at a _ ha E1).mono ?_
      rintro e w1 ⟨rfl, b1⟩
      obtain ⟨ha1, hb1, B1⟩ := new_two w a a b1
      clear b1
      obtain ⟨c0, c1, c2, c3, c4, c5, c6, c7, c8, c9, c10, c11, _, _, _, _, _, _, _, _, _, _, _, _⟩ := cells12 hb1
      go_wp2_with fail
      refine (enc_ok_at a _ hb E2).mono ?_
      rintro e w2 ⟨rfl, b2⟩
      have ha2 := ha1.below b2 ha1.lt
      have hb2 := hb1.below b2 hb1.lt
      have B2 := below_of_below B1 b2 B1.size
      have G2 := HG.out.below B2 HG.out.lt
      clear b2
      clear c0 c1 c2 c3 c4 c5 c6 c7 c8 c9 c10 c11
      obtain ⟨d0, d1, d2, d3, d4, d5, d6, d7, d8, d9, d10, d11, _, _, _, _, _, _, _, _, _, _, _, _⟩ := cells12 ha2
      obtain ⟨e0, e1, e2, e3, e4, e5, e6, e7, e8, e9, e10, e11, _, _, _, _, _, _, _, _, _, _, _, _⟩ := cells12 hb2
      go_wp2_with (go_at_call 16; refine (works_any _ G2).mono ?_; rintro e w5 ⟨rfl, b5⟩)
      go_ret
      exact ⟨rfl, below_of_below B2 b5 B2.size⟩
    · have hB : ((bs B1).toList == (bs B2).toList) = false := by
        rw [toList_bs, toList_bs]
        simp only [beq_eq_false_iff_ne, ne_eq]
        rintro rfl
        rw [d1] at d2
        injection d2 with _ h
        exact hab h
      have hEq : hdEq ⟨a.path, a.mode, a.uid, a.gid, a.size, a.time, a.type, a.link, a.user, a.group, a.major, a.minor⟩ ⟨b.path, b.mode, b.uid, b.gid, b.size, b.time, b.type, b.link, b.user, b.group, b.major, b.minor⟩ = false := by rw [show hdEq ⟨a.path, a.mode, a.uid, a.gid, a.size, a.time, a.type, a.link, a.user, a.group, a.major, a.minor⟩ ⟨b.path, b.mode, b.uid, b.gid, b.size, b.time, b.type, b.link, b.user, b.group, b.major, b.minor⟩ = hdEq a b from rfl, hdEq_iff]; simp [hab]
      clear e1 e2 d1 d2 hab
      go_enter Tryd.func7, Tryd.ntmps7
      go_wp2_with fail
      refine (enc_ok_at a _ ha E1).mono ?_
      rintro e w1 ⟨rfl, b1⟩
      obtain ⟨ha1, hb1, B1⟩ := new_two w a b b1
      clear b1
      obtain ⟨c0, c1, c2, c3, c4, c5, c6, c7, c8, c9, c10, c11, _, _, _, _, _, _, _, _, _, _, _, _⟩ := cells12 hb1
      go_wp2_with fail
      refine (enc_ok_at b _ hb E2).mono ?_
      rintro e w2 ⟨rfl, b2⟩
      have ha2 := ha1.below b2 ha1.lt
      have hb2 := hb1.below b2 hb1.lt
      have B2 := below_of_below B1 b2 B1.size
      have G2 := HG.out.below B2 HG.out.lt
      clear b2
      clear c0 c1 c2 c3 c4 c5 c6 c7 c8 c9 c10 c11
      obtain ⟨d0, d1, d2, d3, d4, d5, d6, d7, d8, d9, d10, d11, _, _, _, _, _, _, _, _, _, _, _, _⟩ := cells12 ha2
      obtain ⟨e0, e1, e2, e3, e4, e5, e6, e7, e8, e9, e10, e11, _, _, _, _, _, _, _, _, _, _, _, _⟩ := cells12 hb2
      go_wp2_with (go_at_call 16; refine (works_any _ G2).mono ?_; rintro e w5 ⟨rfl, b5⟩)
      go_ret
      exact ⟨rfl, below_of_below B2 b5 B2.size⟩
  · have E1 := Lib.hid e1
    have E2 := Lib.hid e2
    clear e1 e2
    go_enter Tryd.func7, Tryd.ntmps7
    go_wp2_with fail
    refine (enc_ok_at a _ ha E1).mono ?_
    rintro e w1 ⟨rfl, b1⟩
    obtain ⟨ha1, hb1, B1⟩ := new_two w a b b1
    clear b1
    obtain ⟨c0, c1, c2, c3, c4, c5, c6, c7, c8, c9, c10, c11, _, _, _, _, _, _, _, _, _, _, _, _⟩ := cells12 hb1
    go_wp2_with fail
    refine (enc_bad_at b _ hb hN2 E2).mono ?_
    rintro e w2 ⟨rfl, b2⟩
    have ha2 := ha1.below b2 ha1.lt
    have hb2 := hb1.below b2 hb1.lt
    have B2 := below_of_below B1 b2 B1.size
    have G2 := HG.out.below B2 HG.out.lt
    clear b2
    clear c0 c1 c2 c3 c4 c5 c6 c7 c8 c9 c10 c11
    go_wp2_with (go_at_call 16; refine (works_any _ G2).mono ?_; rintro e w5 ⟨rfl, b5⟩)
    go_ret
    exact ⟨rfl, below_of_below B2 b5 B2.size⟩
  · have E1 := Lib.hid e1
    have E2 := Lib.hid e2
    clear e1 e2
    go_enter Tryd.func7, Tryd.ntmps7
    go_wp2_with fail
    refine (enc_bad_at a _ ha hN1 E1).mono ?_
    rintro e w1 ⟨rfl, b1⟩
    obtain ⟨ha1, hb1, B1⟩ := new_two w a b b1
    clear b1
    obtain ⟨c0, c1, c2, c3, c4, c5, c6, c7, c8, c9, c10, c11, _, _, _, _, _, _, _, _, _, _, _, _⟩ := cells12 hb1
    go_wp2_with fail
    refine (enc_ok_at b _ hb E2).mono ?_
    rintro e w2 ⟨rfl, b2⟩
    have ha2 := ha1.below b2 ha1.lt
    have hb2 := hb1.below b2 hb1.lt
    have B2 := below_of_below B1 b2 B1.size
    have G2 := HG.out.below B2 HG.out.lt
    clear b2
    clear c0 c1 c2 c3 c4 c5 c6 c7 c8 c9 c10 c11
    go_wp2_with (go_at_call 16; refine (works_any _ G2).mono ?_; rintro e w5 ⟨rfl, b5⟩)
    go_ret
    exact ⟨rfl, below_of_below B2 b5 B2.size⟩
  · have E1 := Lib.hid e1
    have E2 := Lib.hid e2
    clear e1 e2
    go_enter Tryd.func7, Tryd.ntmps7
    go_wp2_with fail
    refine (enc_bad_at a _ ha hN1 E1).mono ?_
    rintro e w1 ⟨rfl, b1⟩
    obtain ⟨ha1, hb1, B1⟩ := new_two w a b b1
    clear b1
    obtain ⟨c0, c1, c2, c3, c4, c5, c6, c7, c8, c9, c10, c11, _, _, _, _, _, _, _, _, _, _, _, _⟩ := cells12 hb1
    go_wp2_with fail
    refine (enc_bad_at b _ hb hN2 E2).mono ?_
    rintro e w2 ⟨rfl, b2⟩
    have ha2 := ha1.below b2 ha1.lt
    have hb2 := hb1.below b2 hb1.lt
    have B2 := below_of_below B1 b2 B1.size
    have G2 := HG.out.below B2 HG.out.lt
    clear b2
    clear c0 c1 c2 c3 c4 c5 c6 c7 c8 c9 c10 c11
    go_wp2_with (go_at_call 16; refine (works_any _ G2).mono ?_; rintro e w5 ⟨rfl, b5⟩)
    go_ret
    exact ⟨rfl, below_of_below B2 b5 B2.size⟩
end Go.Proofs.YtfhfahlocpmdkaaDoor
