/- strataref01.Compare, walked. -/
import Derived.Test.YtdjfakampjbgeaaDoorGtB
import Derived.Laws.Cover1
namespace Go.Proofs.YtdjfakampjbgeaaDoor
open Go Go.RowKit

namespace Gl
/-- how the pieces of two paths lie. -/
def cmpL : List (List UInt8) → List (List UInt8) → Int
  | [], [] => 0
  | [], _ :: _ => -1
  | _ :: _, [] => 1
  | a :: x, b :: y => if Op.bytesLess a b then -1 else if a = b then cmpL x y else 1
theorem less_irr : ∀ a : List UInt8, Op.bytesLess a a = false
  | [] => rfl
  | a :: x => by
    have : ¬ a < a := by rw [UInt8.lt_iff_toNat_lt]; omega
    simp [Op.bytesLess, this, less_irr x]
theorem less_trans : ∀ a b c : List UInt8, Op.bytesLess a b = true → Op.bytesLess b c = true → Op.bytesLess a c = true
  | _, [], _, h, _ => by cases ‹List UInt8› <;> simp [Op.bytesLess] at h
  | _, b :: y, [], _, h => by simp [Op.bytesLess] at h
  | [], b :: y, c :: z, _, _ => rfl
  | a :: x, b :: y, c :: z, h1, h2 => by
    simp only [Op.bytesLess, Bool.or_eq_true, decide_eq_true_eq, Bool.and_eq_true, beq_iff_eq] at h1 h2 ⊢
    rcases h1 with h1 | ⟨rfl, h1⟩
    · rcases h2 with h2 | ⟨rfl, _⟩
      · left
        rw [UInt8.lt_iff_toNat_lt] at h1 h2 ⊢
        omega
      · exact .inl h1
    · rcases h2 with h2 | ⟨rfl, h2⟩
      · exact .inl h2
      · exact .inr ⟨rfl, less_trans x y z h1 h2⟩
theorem cmp_trans : ∀ x y z : List (List UInt8), cmpL x y < 0 → cmpL y z < 0 → cmpL x z < 0
  | [], [], z, h, _ => by simp [cmpL] at h
  | _ :: _, [], _, h, _ => by simp [cmpL] at h
  | _, _ :: _, [], _, h => by simp [cmpL] at h
  | [], _ :: _, _ :: _, _, _ => by simp [cmpL]
  | a :: x, b :: y, c :: z, h1, h2 => by
    rw [cmpL] at h1 h2 ⊢
    split at h1
    · rename_i l1
      split at h2
      · rename_i l2
        rw [if_pos (less_trans _ _ _ l1 l2)]; decide
      · split at h2
        · rename_i e2
          rw [← e2, if_pos l1]; decide
        · exact absurd h2 (by decide)
    · split at h1
      · rename_i e1
        subst e1
        split at h2
        · rename_i l2
          rw [if_pos l2]; decide
        · rename_i l2
          split at h2
          · rename_i e2
            rw [if_neg l2, if_pos e2]
            exact cmp_trans x y z h1 h2
          · exact absurd h2 (by decide)
      · exact absurd h1 (by decide)
theorem cmpL_nil {x y : List (List UInt8)} (h : x = [] ∨ y = []) : cmpL x y = if x.length < y.length then -1 else if y.length < x.length then 1 else 0 := by
  rcases h with rfl | rfl
  · cases y <;> simp [cmpL]
  · cases x <;> simp [cmpL]
end Gl
set_option maxRecDepth 100000 in
set_option maxHeartbeats 4000000 in
theorem compare_hid (a b : ByteArray) (w : World) (ha : a.size ≤ 2000000) (hb : b.size ≤ 2000000) {r : Int} (H : Hid (Gl.cmpL (Gl.cutL 47 (bl a)) (Gl.cutL 47 (bl b)) = r)) : Calls Tryd.prog 50 #[.string a, .string b] w fun e w' => e = .returned (.int .i64 r) ∧ Below w.heap.size w w' := by
  obtain ⟨xs, hxs⟩ : ∃ xs, Hid (Gl.cutL 47 (bl a) = xs) := ⟨_, Lib.hid rfl⟩
  obtain ⟨ys, hys⟩ : ∃ ys, Hid (Gl.cutL 47 (bl b) = ys) := ⟨_, Lib.hid rfl⟩
  have lx : xs.length ≤ 2000001 := by have := Gl.cutL_length 47 (bl a); rw [hxs.out, bl_length] at this; omega
  have ly : ys.length ≤ 2000001 := by have := Gl.cutL_length 47 (bl b); rw [hys.out, bl_length] at this; omega
  have HR : Hid (r = Gl.cmpL (xs.drop 0) (ys.drop 0)) := Lib.hid (by rw [List.drop_zero, List.drop_zero, ← hxs.out, ← hys.out, H.out])
  clear H
  go_enter Tryd.func50, Tryd.ntmps50
  go_wp2_with fail
  refine (cut47_any a ha _ hxs).mono ?_
  rintro e w1 ⟨Ax, cx, rfl, hX, b1⟩
  go_wp2_with fail
  refine (cut47_any b hb _ hys).mono ?_
  rintro e w2 ⟨Ay, cy, rfl, hY, b2⟩
  have HX := Lib.hid (hX.below b2)
  have HY := Lib.hid hY
  have hB := below_of_below b1 b2 b1.size
  have HB := Lib.hid hB
  clear hX hY b1 b2 hB
  go_wp2_with fail
  go_loopw [7] (fun t7 wr => ∃ i : Nat, i ≤ xs.length ∧ i ≤ ys.length ∧ t7 = .int .i64 (i : Int) ∧ Hid (r = Gl.cmpL (xs.drop i) (ys.drop i)) ∧ Below w2.heap.size w2 wr) (fun t7 _ => xs.length - (intOf t7).toNat)
  case atStart => exact ⟨0, by omega, by omega, rfl, HR, Below.refl _ _⟩
  case round =>
    obtain ⟨i, hi, hi2, rfl, HN, hB⟩ := hrel
    have j0 : (0 : Int) ≤ (i : Int) := by omega
    by_cases hin : i < xs.length ∧ i < ys.length
    · obtain ⟨hix, hiy⟩ := hin
      have i0 : decide ((i : Int) < (xs.length : Int)) = true := by rw [decide_eq_true_eq]; omega
      have i1 : (i : Int) < (xs.length : Int) := by omega
      have i2 : decide ((i : Int) < (ys.length : Int)) = true := by rw [decide_eq_true_eq]; omega
      have i3 : (i : Int) < (ys.length : Int) := by omega
      have hX := HX.out.below hB
      have hY := HY.out.below hB
      obtain ⟨g, o, c, hvl, d0⟩ := hX.str hix
      obtain ⟨hA, hcc⟩ : Ax = some ⟨g, o, none⟩ ∧ cx = c := by injection hvl with e1 _ e3; exact ⟨e1, e3⟩
      subst hA hcc
      obtain ⟨g', o', c', hvl', f0⟩ := hY.str hiy
      obtain ⟨hA', hcc'⟩ : Ay = some ⟨g', o', none⟩ ∧ cy = c' := by injection hvl' with e1 _ e3; exact ⟨e1, e3⟩
      subst hA' hcc'
      have hdx : xs.drop i = xs[i] :: xs.drop (i + 1) := List.drop_eq_getElem_cons hix
      have hdy : ys.drop i = ys[i] :: ys.drop (i + 1) := List.drop_eq_getElem_cons hiy
      obtain ⟨sx, hsx⟩ : ∃ s, bs xs[i] = s := ⟨_, rfl⟩
      obtain ⟨sy, hsy⟩ : ∃ s, bs ys[i] = s := ⟨_, rfl⟩
      have tx : sx.toList = xs[i] := by rw [← hsx, toList_bs]
      have ty : sy.toList = ys[i] := by rw [← hsy, toList_bs]
      rw [hsx] at d0
      rw [hsy] at f0
      obtain ⟨q, hq⟩ : ∃ q, Op.bytesLess sx.toList sy.toList = q := ⟨_, rfl⟩
      obtain ⟨p, hp⟩ : ∃ p, (sx.toList == sy.toList) = p := ⟨_, rfl⟩
      have HN2 : Hid (r = if q then -1 else if p then Gl.cmpL (xs.drop (i + 1)) (ys.drop (i + 1)) else 1) := Lib.hid (by
        rw [HN.out, hdx, hdy, Gl.cmpL, ← tx, ← ty, hq, ← hp]
        by_cases e : sx.toList = sy.toList <;> simp [e])
      have BX := Below.refl wr.heap.size wr
      have HSX := Lib.hid hsx
      have HSY := Lib.hid hsy
      have HXX := Lib.hid hX
      have HYY := Lib.hid hY
      clear hvl hvl' hX hY hdx hdy hsx hsy tx ty HN
      have HP := Lib.hid hp
      clear hp
      go_upto_region 6 with fail
      go_cut [32] (fun s32 wx => s32 = .bool q ∧ Below wr.heap.size wr wx)
      case first =>
        go_quiet (fail)
        go_wp2_with fail
        go_meet
        exact ⟨rfl, by first | exact BX | exact below_drewN BX _⟩
      case rest =>
        obtain ⟨rfl, bx⟩ := hcut
        have hB2 := below_of_below hB bx hB.size
        have HQ := Lib.hid hq
        clear d0 f0 BX hq
        cases q with
        | true =>
          have hR : Hid (r = -1) := HN2
          go_wp2_with fail
          go_ret
          exact ⟨by rw [hR.out]; rfl, below_of_below HB.out hB2 HB.out.size⟩
        | false =>
          obtain ⟨g1, o1, c1, hvl, d0⟩ := (HXX.out.below bx).str hix
          obtain ⟨hA, hcc⟩ : (⟨g, o, none⟩ : Addr) = ⟨g1, o1, none⟩ ∧ cx = c1 := by injection hvl with e1 _ e3; injection e1 with e1; exact ⟨e1, e3⟩
          injection hA with hA1 hA2
          subst hA1 hA2 hcc
          obtain ⟨g2, o2, c2, hvl', f0⟩ := (HYY.out.below bx).str hiy
          obtain ⟨hA', hcc'⟩ : (⟨g', o', none⟩ : Addr) = ⟨g2, o2, none⟩ ∧ cy = c2 := by injection hvl' with e1 _ e3; injection e1 with e1; exact ⟨e1, e3⟩
          injection hA' with hA1 hA2
          subst hA1 hA2 hcc'
          have hq := HQ.out
          have hp := HP.out
          rw [HSX.out] at d0
          rw [HSY.out] at f0
          clear bx hvl hvl' hB
          go_upto_region 8 with fail
          go_cut [41] (fun s41 wy => s41 = .bool (!p) ∧ Below w2.heap.size w2 wy)
          case first =>
            go_quiet (fail)
            go_wp2_with fail
            go_meet
            exact ⟨rfl, by first | exact hB2 | exact below_drewN hB2 _⟩
          case rest =>
            obtain ⟨rfl, hB3⟩ := hcut
            clear d0 f0 hq hp hB2
            cases p with
            | false =>
              have hR : Hid (r = 1) := HN2
              go_wp2_with fail
              go_ret
              exact ⟨by rw [hR.out]; rfl, below_of_below HB.out hB3 HB.out.size⟩
            | true =>
              have hR : Hid (r = Gl.cmpL (xs.drop (i + 1)) (ys.drop (i + 1))) := HN2
              go_wp2_with fail
              go_roundw
              case rel => exact ⟨i + 1, by omega, by omega, by go_num, hR, hB3⟩
              case measure => simp [intOf]; omega
    · have hnil : xs.drop i = [] ∨ ys.drop i = [] := by
        by_cases h : i < xs.length
        · exact .inr (List.drop_of_length_le (by omega))
        · exact .inl (List.drop_of_length_le (by omega))
      have hR : Hid (r = if xs.length < ys.length then -1 else if ys.length < xs.length then 1 else 0) := Lib.hid (by
        rw [HN.out, Gl.cmpL_nil hnil, List.length_drop, List.length_drop]
        have e1 : xs.length - i < ys.length - i ↔ xs.length < ys.length := by omega
        have e2 : ys.length - i < xs.length - i ↔ ys.length < xs.length := by omega
        simp only [e1, e2])
      have hend := below_of_below HB.out hB HB.out.size
      clear HN hnil
      by_cases c1 : i < xs.length
      · have d1 : decide ((i : Int) < (xs.length : Int)) = true := by rw [decide_eq_true_eq]; omega
        have d2 : decide ((i : Int) < (ys.length : Int)) = false := by rw [decide_eq_false_iff_not]; omega
        have n1 : ¬ (i < ys.length) := by omega
        have d3 : decide ((xs.length : Int) < (ys.length : Int)) = false := by rw [decide_eq_false_iff_not]; omega
        have d4 : decide ((ys.length : Int) < (xs.length : Int)) = true := by rw [decide_eq_true_eq]; omega
        have n3 : ¬ (xs.length < ys.length) := by omega
        have n4 : ys.length < xs.length := by omega
        have hR1 : Hid (r = 1) := Lib.hid (by rw [hR.out, if_neg n3, if_pos n4])
        clear hR
        go_wp2_with fail
        go_ret
        exact ⟨by rw [hR1.out]; rfl, hend⟩
      · have d1 : decide ((i : Int) < (xs.length : Int)) = false := by rw [decide_eq_false_iff_not]; omega
        by_cases c2 : xs.length < ys.length
        · have d3 : decide ((xs.length : Int) < (ys.length : Int)) = true := by rw [decide_eq_true_eq]; omega
          have hR1 : Hid (r = -1) := Lib.hid (by rw [hR.out, if_pos c2])
          clear hR
          go_wp2_with fail
          go_ret
          exact ⟨by rw [hR1.out]; rfl, hend⟩
        · have d3 : decide ((xs.length : Int) < (ys.length : Int)) = false := by rw [decide_eq_false_iff_not]; omega
          have d4 : decide ((ys.length : Int) < (xs.length : Int)) = false := by rw [decide_eq_false_iff_not]; omega
          have n4 : ¬ (ys.length < xs.length) := by omega
          have hR1 : Hid (r = 0) := Lib.hid (by rw [hR.out, if_neg c2, if_neg n4])
          clear hR
          go_wp2_with fail
          go_ret
          exact ⟨by rw [hR1.out]; rfl, hend⟩
end Go.Proofs.YtdjfakampjbgeaaDoor
