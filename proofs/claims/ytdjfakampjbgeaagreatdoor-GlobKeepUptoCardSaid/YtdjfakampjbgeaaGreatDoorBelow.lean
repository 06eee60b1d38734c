/- strataref01.Begins, Below, walked. -/
import Derived.Test.YtdjfakampjbgeaaGreatDoorGtA
namespace Go.Proofs.YtdjfakampjbgeaaGreatDoor
open Go Go.RowKit

theorem begins_hid (s h : ByteArray) (w : World) {r : Bool} (H : Hid ((bl h).isPrefixOf (bl s) = r)) : Calls Tryz.prog 57 #[.string s, .string h] w fun e w' => e = .returned (.bool r) ∧ w = w' := by
  rcases Nat.lt_or_ge s.size h.size with hl | hl
  · have t1 : decide ((h.size : Int) ≤ (s.size : Int)) = false := by rw [decide_eq_false_iff_not]; omega
    have HN : Hid (r = false) := by
      show _ = _
      rw [← H.out, Bool.eq_false_iff]
      intro e
      have := (List.isPrefixOf_iff_prefix.1 e).length_le
      rw [bl_length, bl_length] at this
      omega
    clear H
    go_enter Tryz.func57, Tryz.ntmps57
    go_wp2_with fail
    go_ret
    exact ⟨by rw [HN.out]; rfl, rfl⟩
  · have t1 : decide ((h.size : Int) ≤ (s.size : Int)) = true := by rw [decide_eq_true_eq]; omega
    have hsl := slice_h s h.size (h.size : Int) rfl (by omega)
    have e1 : s.extract 0 h.size = bs ((bl s).take h.size) := by rw [← bs_bl (s.extract 0 h.size), bl_extract, List.drop_zero, Nat.sub_zero]
    rw [e1] at hsl
    have t2 : ((bs ((bl s).take h.size)).toList == h.toList) = r := by
      rw [← H.out, toList_bs, ← bs_bl h, toList_bs, bl_bs, bs_size, Bool.eq_iff_iff, beq_iff_eq, List.isPrefixOf_iff_prefix, List.prefix_iff_eq_take]
      exact eq_comm
    clear e1 H
    go_enter Tryz.func57, Tryz.ntmps57
    go_wp2_with fail
    go_ret
    exact ⟨rfl, rfl⟩
theorem below_hid (d s : ByteArray) (w : World) (hd : d.size ≤ 2000000) {r : Bool} (H : Hid (Gl.belowP (bl d) (bl s) = r)) : Calls Tryz.prog 29 #[.string d, .string s] w fun e w' => e = .returned (.bool r) ∧ w = w' := by
  by_cases h0 : bl d = []
  · have hz : d = ⟨#[]⟩ := by rw [← bs_bl d, h0]; rfl
    subst hz
    have t2 : (!s.toList.isEmpty) = r := by
      rw [← H.out, Gl.belowP, if_pos h0, ← bs_bl s, toList_bs, bl_bs]
    clear H
    go_enter Tryz.func29, Tryz.ntmps29
    go_wp2_with fail
    go_ret
    exact ⟨by rw [← t2]; rfl, rfl⟩
  · have hz : d.size ≠ 0 := fun e => h0 (List.length_eq_zero_iff.1 (by rw [bl_length]; exact e))
    have t1 : (d.toList == ([] : List UInt8)) = false := by
      rw [← bs_bl d, toList_bs, beq_eq_false_iff_ne]
      exact h0
    have z1 : (⟨#[47]⟩ : ByteArray).size = 1 := rfl
    have ad : ∀ w, (Op.stringOp .add d ⟨#[47]⟩).run Tryz.prog w = .ok (.string (d ++ ⟨#[47]⟩)) w := fun w => run_string_add_sum w _ _ (by rw [z1]; omega)
    have HB : Hid ((bl (d ++ ⟨#[47]⟩)).isPrefixOf (bl s) = r) := by
      show _ = _
      rw [← H.out, Gl.belowP, if_neg h0, bl_append]
      rfl
    clear H z1
    go_enter Tryz.func29, Tryz.ntmps29
    go_wp2_with (go_at_call 57; refine (begins_hid _ _ _ HB).mono ?_; rintro e w1 ⟨rfl, rfl⟩)
    go_ret
    exact ⟨rfl, rfl⟩
end Go.Proofs.YtdjfakampjbgeaaGreatDoor
