/- The reference's Words (strataref32), walked: it answers what Dk.wordsF tells. -/
import Derived.Test.YtkbigejknkamiaaDoorDkV
namespace Go.Proofs.YtkbigejknkamiaaDoor
open Go.RowKit

theorem refBlank_any (c : UInt8) (w : World) : Calls Tryd.prog 9 #[.int .u8 (c.toNat : Int)] w fun e w' => e = .returned (.bool (Dk.isBl c)) ∧ w = w' := by
  have hb : c.toNat < 256 := c.toNat_lt
  by_cases h1 : c.toNat = 32
  · have e1 : Dk.isBl c = true := by simp [Dk.isBl, h1]
    have t1 : (((c.toNat : Int)) == 32) = true := by simp [h1]
    have H := Lib.hid e1
    clear e1 h1
    go_enter Tryd.func9, Tryd.ntmps9
    go_wp2_with fail
    go_ret
    exact ⟨by rw [H.out]; rfl, rfl⟩
  · have t1 : (((c.toNat : Int)) == 32) = false := by simp; omega
    by_cases h2 : c.toNat = 9
    · have e1 : Dk.isBl c = true := by simp [Dk.isBl, h2]
      have t2 : (((c.toNat : Int)) == 9) = true := by simp [h2]
      have H := Lib.hid e1
      clear e1 h1 h2
      go_enter Tryd.func9, Tryd.ntmps9
      go_wp2_with fail
      go_ret
      exact ⟨by rw [H.out]; rfl, rfl⟩
    · have t2 : (((c.toNat : Int)) == 9) = false := by simp; omega
      have e1 : Dk.isBl c = ((c.toNat : Int) == 13) := by
        simp only [Dk.isBl, beq_false_of_ne h1, beq_false_of_ne h2, Bool.false_or]
        rw [Bool.eq_iff_iff]; simp; omega
      have H := Lib.hid e1
      clear e1 h1 h2
      go_enter Tryd.func9, Tryd.ntmps9
      go_wp2_with fail
      go_ret
      exact ⟨by rw [H.out]; rfl, rfl⟩

theorem ret_i64' {a b : Int} (h : a = b) : Ending.returned (.int .i64 a) = .returned (.int .i64 b) := by rw [h]
theorem refHex_any (c : UInt8) (w : World) : Calls Tryd.prog 16 #[.int .u8 (c.toNat : Int)] w fun e w' => e = .returned (.int .i64 (Dk.hexv c : Int)) ∧ w = w' := by
  have hb : c.toNat < 256 := c.toNat_lt
  have hcase : c.toNat < 48 ∨ (48 ≤ c.toNat ∧ c.toNat ≤ 57) ∨ (58 ≤ c.toNat ∧ c.toNat ≤ 64) ∨ (65 ≤ c.toNat ∧ c.toNat ≤ 70) ∨ (71 ≤ c.toNat ∧ c.toNat ≤ 96) ∨ (97 ≤ c.toNat ∧ c.toNat ≤ 102) ∨ 103 ≤ c.toNat := by omega
  have HD : Hid (Dk.hexv c = if 48 ≤ c.toNat ∧ c.toNat ≤ 57 then c.toNat - 48 else if 97 ≤ c.toNat ∧ c.toNat ≤ 102 then c.toNat - 87 else if 65 ≤ c.toNat ∧ c.toNat ≤ 70 then c.toNat - 55 else 16) := Lib.hid rfl
  rcases hcase with h | ⟨h, h'⟩ | ⟨h, h'⟩ | ⟨h, h'⟩ | ⟨h, h'⟩ | ⟨h, h'⟩ | h
  all_goals
    go_enter Tryd.func16, Tryd.ntmps16
    go_wp2_with fail
    go_ret
    refine ⟨?_, rfl⟩
    rw [HD.out]
    refine ret_i64' ?_
    repeat (first | rw [if_pos (by omega)] | rw [if_neg (by omega)])
    first | omega | rfl

/-- what quoted answers, of a text quoted at a place. -/
def quotedV (at_ : Nat) : Option (List UInt8 × Nat) → Value
  | some (w, k) => .tuple #[.string (bs w), .int .i64 ((at_ + k : Nat) : Int)]
  | none => .tuple #[.string ⟨#[]⟩, .int .i64 (-1)]
theorem hexAdd (a b : Nat) (ha : a < 16) (hb : b < 16) : [Value.int .u8 (IntKind.u8.wrap (16 * (a : Int) + (b : Int)))] = bc [UInt8.ofNat (a * 16 + b)] := by
  have h : ∀ x y : Fin 16, IntKind.u8.wrap (16 * (x.val : Int) + (y.val : Int)) = ((UInt8.ofNat (x.val * 16 + y.val)).toNat : Int) := by decide +kernel
  have := h ⟨a, ha⟩ ⟨b, hb⟩
  simp only [bc, List.map_cons, List.map_nil]
  rw [this]

set_option maxRecDepth 100000 in
set_option maxHeartbeats 8000000 in
theorem quoted_any (s : ByteArray) (at_ : Nat) (w : World) (hs : s.size ≤ 1000000000000) (hat : at_ < s.size) :
    Calls Tryd.prog 10 #[.string s, .int .i64 (at_ : Int)] w fun e w' => e = .returned (quotedV at_ (Dk.unq ((bl s).drop (at_ + 1)) [] 1)) ∧ Below w.heap.size w w' := by
  obtain ⟨U, hU⟩ : ∃ U, U = Dk.unq ((bl s).drop (at_ + 1)) [] 1 := ⟨_, rfl⟩
  have HU := Lib.hid hU
  rw [← hU]
  clear hU
  go_enter Tryd.func10, Tryd.ntmps10
  go_wp2_with fail
  go_loopw [6, 7] (fun v i wr => ∃ (p k n : Nat) (acc : List UInt8), at_ + 1 ≤ p ∧ p ≤ s.size ∧ acc.length ≤ p ∧ i = .int .i64 p ∧ wr.ownsRow w.heap.size 5 1 v n (bc acc) ∧ Below w.heap.size w wr ∧ Hid (p = at_ + k) ∧ Hid (U = Dk.unq ((bl s).drop p) acc k)) (fun _ i _ => s.size + 1 - (intOf i).toNat)
  case atStart => exact ⟨at_ + 1, 1, 0, [], by omega, by omega, by simp, by go_num, World.ownsRow_nil _ _ _ _, Below.refl _ _, rfl, HU⟩
  case round =>
    obtain ⟨p, k, n, acc, hk1, hk2, hal, rfl, hown, hbel, hpk, hrec⟩ := hrel
    have hsz := hbel.size
    have hn : n ≤ p := by have := hown.1; rw [bc_length] at this; omega
    clear HU
    by_cases hkn : p < s.size
    · have hc : (s[p]).toNat < 256 := (s[p]).toNat_lt
      have hi1 : (0 : Int) ≤ (p : Int) := by omega
      have hi2 : (p : Int) < (s.size : Int) := by omega
      have HC := Lib.hid (Dk.unq_cons s[p] ((bl s).drop (p + 1)) acc k)
      have HDr := Lib.hid (bl_drop_cons s p hkn)
      by_cases h1 : (s[p]).toNat = 34
      · have HV : Hid (U = some (acc, k + 1)) := by
          show _ = _
          rw [hrec.out, HDr.out, HC.out, if_pos h1]
        have t1 : (((s[p]).toNat : Int) == 34) = true := by simp [h1]
        have hcv := run_str_own Tryd.underlying48 Tryd.underlying5 hown 9 Tryd.underlying9
        clear h1
        go_wp2_with fail
        go_ret2
        exact ⟨by rw [HV.out]; simp only [quotedV]; rw [← Nat.add_assoc, ← hpk.out]; rfl, hbel⟩
      · have t1 : (((s[p]).toNat : Int) == 34) = false := by simp; omega
        by_cases h2 : (s[p]).toNat = 10
        · have HV : Hid (U = none) := by
            show _ = _
            rw [hrec.out, HDr.out, HC.out, if_neg h1, if_pos h2]
          have t2 : (((s[p]).toNat : Int) == 10) = true := by simp [h2]
          clear h1 h2
          go_wp2_with fail
          go_ret2
          exact ⟨by rw [HV.out]; rfl, hbel⟩
        · have t2 : (((s[p]).toNat : Int) == 10) = false := by simp; omega
          by_cases h3 : (s[p]).toNat = 92
          · have t3 : (((s[p]).toNat : Int) != 92) = false := by simp [h3]
            by_cases hk3 : p + 1 < s.size
            · have HDr1 := Lib.hid (bl_drop_cons s (p + 1) hk3)
              have hj1 : (0 : Int) ≤ ((p : Int) + 1) := by omega
              have hj2 : ((p : Int) + 1) < (s.size : Int) := by omega
              have hc1 : (s[p + 1]).toNat < 256 := (s[p + 1]).toNat_lt
              by_cases h4 : (s[p + 1]).toNat = 34 ∨ (s[p + 1]).toNat = 92
              · have HV : Hid (U = Dk.unq ((bl s).drop (p + 2)) (acc ++ [s[p + 1]]) (k + 2)) := by
                  show _ = _
                  rw [hrec.out, HDr.out, HC.out, if_neg h1, if_neg h2, if_pos h3, HDr1.out]
                  simp only []
                  rw [if_pos h4]
                have hq : (((s[p + 1]).toNat : Int) == 34) = true ∨ ((((s[p + 1]).toNat : Int) == 34) = false ∧ (((s[p + 1]).toNat : Int) == 92) = true) := by
                  by_cases h : (s[p + 1]).toNat = 34
                  · left; simp [h]
                  · right
                    have h' : (s[p + 1]).toNat = 92 := by omega
                    simp [h']
                clear h1 h2 h3 h4
                rcases hq with t4 | ⟨t4, t5⟩
                all_goals
                  go_wp2_with ((at_builtin; refine wpList_app rfl _ _ _ rfl byteSliceU _ _ _ _ rfl (hown.alloc _) _ _ _ _ rfl rfl (news_alloc _ _ _) (one_of_all rfl) (by omega) (by omega) (hbel.alloc hsz _) (by simp; omega) ?_; intro v1 w1 hown1 hb1 hg1 hat1))
                  go_roundw
                  case rel => exact ⟨p + 2, k + 2, n + 1, acc ++ [s[p + 1]], by omega, by omega, by simp; omega, by go_num, by rw [bc_append]; exact hown1, hb1, by show _ = _; have := hpk.out; omega, HV⟩
                  case measure => simp [intOf]; omega
              · have t4 : (((s[p + 1]).toNat : Int) == 34) = false := by simp; omega
                have t5 : (((s[p + 1]).toNat : Int) == 92) = false := by simp; omega
                by_cases h5 : (s[p + 1]).toNat = 110
                · have HV : Hid (U = Dk.unq ((bl s).drop (p + 2)) (acc ++ [10]) (k + 2)) := by
                    show _ = _
                    rw [hrec.out, HDr.out, HC.out, if_neg h1, if_neg h2, if_pos h3, HDr1.out]
                    simp only []
                    rw [if_neg h4, if_pos h5]
                  have t6 : (((s[p + 1]).toNat : Int) == 110) = true := by simp [h5]
                  clear h1 h2 h3 h4 h5
                  go_wp2_with ((at_builtin; refine wpList_app rfl _ _ _ rfl byteSliceU _ _ _ _ rfl (hown.alloc _) _ _ _ _ rfl rfl (news_alloc _ _ _) (one_of_all rfl) (by omega) (by omega) (hbel.alloc hsz _) (by simp; omega) ?_; intro v1 w1 hown1 hb1 hg1 hat1))
                  go_roundw
                  case rel => exact ⟨p + 2, k + 2, n + 1, acc ++ [10], by omega, by omega, by simp; omega, by go_num, by rw [bc_append]; exact hown1, hb1, by show _ = _; have := hpk.out; omega, HV⟩
                  case measure => simp [intOf]; omega
                · have t6 : (((s[p + 1]).toNat : Int) == 110) = false := by simp; omega
                  by_cases h6 : (s[p + 1]).toNat = 120
                  · have t7 : (((s[p + 1]).toNat : Int) == 120) = true := by simp [h6]
                    by_cases hk5 : p + 3 < s.size
                    · have HDr2 := Lib.hid (bl_drop_cons s (p + 2) (by omega))
                      have HDr3 := Lib.hid (bl_drop_cons s (p + 3) hk5)
                      have p1 : p + 2 < s.size := by omega
                      have p2 : p + 2 + 1 < s.size := by omega
                      have hl1 : ((p : Int) + 2 + 1) < (s.size : Int) := by omega
                      have d1 : decide ((p : Int) + 2 + 1 < (s.size : Int)) = true := by simp; omega
                      have hl2 : (0 : Int) ≤ ((p : Int) + 2) := by omega
                      have hl3 : ((p : Int) + 2) < (s.size : Int) := by omega
                      have hl4 : (0 : Int) ≤ ((p : Int) + 2 + 1) := by omega
                      have hx1 : Dk.hexv (s[p + 2]'p1) ≤ 16 := by unfold Dk.hexv; repeat' split
                                                                  all_goals omega
                      have hx2 : Dk.hexv (s[p + 2 + 1]'p2) ≤ 16 := by unfold Dk.hexv; repeat' split
                                                                      all_goals omega
                      have HX : Hid (U = if Dk.hexv (s[p + 2]'p1) < 16 ∧ Dk.hexv (s[p + 2 + 1]'p2) < 16 then Dk.unq ((bl s).drop (p + 4)) (acc ++ [UInt8.ofNat (Dk.hexv (s[p + 2]'p1) * 16 + Dk.hexv (s[p + 2 + 1]'p2))]) (k + 4) else none) := by
                        show _ = _
                        rw [hrec.out, HDr.out, HC.out, if_neg h1, if_neg h2, if_pos h3, HDr1.out]
                        simp only []
                        rw [if_neg h4, if_neg h5, if_pos h6]
                        rw [show (bl s).drop (p + 1 + 1) = (s[p + 2]'p1) :: (s[p + 2 + 1]'p2) :: (bl s).drop (p + 4) from by rw [HDr2.out, HDr3.out]]
                      clear h1 h2 h3 h4 h5 h6
                      rcases (show (16 : Int) ≤ (Dk.hexv (s[p + 2]'p1) : Int) ∨ ((Dk.hexv (s[p + 2]'p1) : Int) < 16 ∧ (16 : Int) ≤ (Dk.hexv (s[p + 2 + 1]'p2) : Int)) ∨ ((Dk.hexv (s[p + 2]'p1) : Int) < 16 ∧ (Dk.hexv (s[p + 2 + 1]'p2) : Int) < 16) by omega) with h7 | ⟨h7, h8⟩ | ⟨h7, h8⟩
                      · have d2 : decide ((Dk.hexv (s[p + 2]'p1) : Int) < 16) = false := by simp; omega
                        go_wp2_with (go_at_call 16; refine (refHex_any _ _).mono ?_; rintro e w' ⟨rfl, rfl⟩)
                        go_ret2
                        exact ⟨by rw [HX.out, if_neg (by omega)]; rfl, hbel⟩
                      · have d2 : decide ((Dk.hexv (s[p + 2]'p1) : Int) < 16) = true := by simpa using h7
                        have d3 : decide ((Dk.hexv (s[p + 2 + 1]'p2) : Int) < 16) = false := by simp; omega
                        go_wp2_with (go_at_call 16; refine (refHex_any _ _).mono ?_; rintro e w' ⟨rfl, rfl⟩)
                        go_ret2
                        exact ⟨by rw [HX.out, if_neg (by omega)]; rfl, hbel⟩
                      · have d2 : decide ((Dk.hexv (s[p + 2]'p1) : Int) < 16) = true := by simpa using h7
                        have d3 : decide ((Dk.hexv (s[p + 2 + 1]'p2) : Int) < 16) = true := by simpa using h8
                        go_wp2_with (go_at_call 16; refine (refHex_any _ _).mono ?_; rintro e w' ⟨rfl, rfl⟩)
                        have q1 : IntKind.i64.wrap ((p : Int) + 2 + 1) = (p : Int) + 2 + 1 := IntWalk.i64_in _ (by omega)
                        have q3 : ((p : Int) + 2).toNat = p + 2 := by omega
                        have q4 : ((p : Int) + 2 + 1).toNat = p + 2 + 1 := by omega
                        have q5 : IntKind.i64.wrap (16 * (Dk.hexv (s[p + 2]'p1) : Int)) = 16 * (Dk.hexv (s[p + 2]'p1) : Int) := IntWalk.i64_in _ (by omega)
                        have q6 : IntKind.i64.wrap (16 * (Dk.hexv (s[p + 2]'p1) : Int) + (Dk.hexv (s[p + 2 + 1]'p2) : Int)) = 16 * (Dk.hexv (s[p + 2]'p1) : Int) + (Dk.hexv (s[p + 2 + 1]'p2) : Int) := IntWalk.i64_in _ (by omega)
                        go_region_law (first | (go_simp; go_at_call 16; refine (refHex_any _ _).mono ?_; rintro e w' ⟨rfl, rfl⟩) | (refine step_app rfl _ _ _ rfl byteSliceU _ _ _ _ rfl (hown.alloc _) _ _ _ _ rfl rfl (news_alloc _ _ _) (one_of_all rfl) (by omega) (by omega) (hbel.alloc hsz _).drew (by simp; omega) ?_; intro v1 w1 hown1 hb1 hg1 hat1))
                        all_goals
                          have hN := hexAdd (Dk.hexv (s[p + 2]'p1)) (Dk.hexv (s[p + 2 + 1]'p2)) (by omega) (by omega)
                          have hown2 : w1.ownsRow w.heap.size 5 1 v1 (n + 1) (bc (acc ++ [UInt8.ofNat (Dk.hexv (s[p + 2]'p1) * 16 + Dk.hexv (s[p + 2 + 1]'p2))])) := by rw [bc_append, ← hN]; exact hown1
                          clear hown1 hN hat1 hg1
                          go_wp2_with fail
                          go_roundw
                          case rel => exact ⟨p + 4, k + 4, n + 1, acc ++ [UInt8.ofNat (Dk.hexv (s[p + 2]'p1) * 16 + Dk.hexv (s[p + 2 + 1]'p2))], by omega, by omega, by simp; omega, by go_num, hown2, hb1, by show _ = _; have := hpk.out; omega, by show _ = _; rw [HX.out, if_pos ⟨by omega, by omega⟩]⟩
                          case measure => simp [intOf]; omega
                    · have d1 : decide ((p : Int) + 2 + 1 < (s.size : Int)) = false := by simp; omega
                      have HV : Hid (U = none) := by
                        show _ = _
                        rw [hrec.out, HDr.out, HC.out, if_neg h1, if_neg h2, if_pos h3, HDr1.out]
                        simp only []
                        rw [if_neg h4, if_neg h5, if_pos h6]
                        have hle : ((bl s).drop (p + 1 + 1)).length ≤ 1 := by rw [List.length_drop, bl_length]; omega
                        cases hx : (bl s).drop (p + 1 + 1) with
                        | nil => rfl
                        | cons a r =>
                          rw [hx] at hle
                          cases r with
                          | nil => rfl
                          | cons b r => simp at hle
                      clear h1 h2 h3 h4 h5 h6
                      go_wp2_with fail
                      go_ret2
                      exact ⟨by rw [HV.out]; rfl, hbel⟩
                  · have t7 : (((s[p + 1]).toNat : Int) == 120) = false := by simp; omega
                    have HV : Hid (U = none) := by
                      show _ = _
                      rw [hrec.out, HDr.out, HC.out, if_neg h1, if_neg h2, if_pos h3, HDr1.out]
                      simp only []
                      rw [if_neg h4, if_neg h5, if_neg h6]
                    clear h1 h2 h3 h4 h5 h6
                    go_wp2_with fail
                    go_ret2
                    exact ⟨by rw [HV.out]; rfl, hbel⟩
            · have hj3 : (s.size : Int) ≤ ((p : Int) + 1) := by omega
              have HV : Hid (U = none) := by
                show _ = _
                rw [hrec.out, HDr.out, HC.out, if_neg h1, if_neg h2, if_pos h3, List.drop_of_length_le (by rw [bl_length]; omega)]
              clear h1 h2 h3
              go_wp2_with fail
              go_ret2
              exact ⟨by rw [HV.out]; rfl, hbel⟩
          · have t3 : (((s[p]).toNat : Int) != 92) = true := by simp; omega
            have HV : Hid (U = Dk.unq ((bl s).drop (p + 1)) (acc ++ [s[p]]) (k + 1)) := by
              show _ = _
              rw [hrec.out, HDr.out, HC.out, if_neg h1, if_neg h2, if_neg h3]
            clear h1 h2 h3
            go_wp2_with ((at_builtin; refine wpList_app rfl _ _ _ rfl byteSliceU _ _ _ _ rfl (hown.alloc _) _ _ _ _ rfl rfl (news_alloc _ _ _) (one_of_all rfl) (by omega) (by omega) (hbel.alloc hsz _) (by simp; omega) ?_; intro v1 w1 hown1 hb1 hg1 hat1))
            go_roundw
            case rel => exact ⟨p + 1, k + 1, n + 1, acc ++ [s[p]], by omega, by omega, by simp; omega, by go_num, by rw [bc_append]; exact hown1, hb1, by show _ = _; have := hpk.out; omega, HV⟩
            case measure => simp [intOf]; omega
    · have HV : Hid (U = none) := by
        show _ = _
        rw [hrec.out, List.drop_of_length_le (by rw [bl_length]; omega)]
        simp [Dk.unq]
      go_wp2_with fail
      go_ret2
      exact ⟨by rw [HV.out]; rfl, hbel⟩
end Go.Proofs.YtkbigejknkamiaaDoor
