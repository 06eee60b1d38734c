/- strataref01's Whiteout, Begins, Name, Cut, walked. -/
import Derived.Test.YtfhfahlocpmdkaaDoorUsTb
namespace Go.Proofs.YtfhfahlocpmdkaaDoor
open Go.RowKit

theorem join_x (d : List UInt8) (x : ByteArray) (w : World) (hd : (bs d).size ≤ 1000000000) (hn : x.size ≤ 1000000100) : Calls Tryd.prog 31 #[.string (bs d), .string x] w fun e w' => e = .returned (.string (bs (Us.join d (bl x)))) ∧ w = w' := by
  have := join_any d (bl x) w hd (by rw [bs_bl]; exact hn)
  rwa [bs_bl] at this
theorem parent_size (s : ByteArray) : (bs (Us.parent (bl s))).size ≤ s.size := by
  rw [bs_size, Us.parent]
  split
  · simp
  · rw [List.length_take, bl_length]; omega
theorem last_size (s : ByteArray) : (bs (Us.last (bl s))).size ≤ s.size := by
  rw [bs_size, Us.last]
  split
  · rw [bl_length]; exact Nat.le_refl _
  · rw [List.length_drop, bl_length]; omega
theorem white_any (s : ByteArray) (w : World) (hs : s.size ≤ 1000000000) : Calls Tryd.prog 54 #[.string s] w fun e w' => e = .returned (.string (bs (Us.white (bl s)))) ∧ w = w' := by
  have z1 := parent_size s
  have z2 := last_size s
  have HN : Hid (Us.join (Us.parent (bl s)) (bl (⟨#[46, 119, 104, 46]⟩ ++ bs (Us.last (bl s)))) = Us.white (bl s)) := by
    show _ = _
    rw [bl_append]; rfl
  have z3 : (⟨#[46, 119, 104, 46]⟩ ++ bs (Us.last (bl s)) : ByteArray).size ≤ 1000000100 := by
    rw [ByteArray.size_append]
    have : (⟨#[46, 119, 104, 46]⟩ : ByteArray).size = 4 := rfl
    omega
  have HZ := Lib.hid z3
  clear z3
  go_enter Tryd.func54, Tryd.ntmps54
  go_wp2_with (first | (go_at_call 32; refine (parent_any _ _ hs).mono ?_; rintro e w1 ⟨rfl, rfl⟩) | (go_at_call 33; refine (last_any _ _ hs).mono ?_; rintro e w1 ⟨rfl, rfl⟩) | (go_at_call 31; refine (join_x _ _ _ (by omega) HZ.out).mono ?_; rintro e w1 ⟨rfl, rfl⟩))
  go_ret
  exact ⟨by rw [HN.out]; rfl, rfl⟩
theorem begins_any (s : ByteArray) (w : World) (hs : s.size ≤ 1000000000) : Calls Tryd.prog 65 #[.string s, .string ⟨#[46, 119, 104, 46]⟩] w fun e w' => e = .returned (.bool (Us.begins (bl s) Us.wh)) ∧ w = w' := by
  by_cases h : 4 ≤ s.size
  · have d1 : decide ((4 : Int) ≤ (s.size : Int)) = true := by simp; omega
    have hsl := slice_h s 4 4 rfl h
    have HN : Hid (((s.extract 0 4).toList == [46, 119, 104, 46]) = Us.begins (bl s) Us.wh) := by
      show _ = _
      rw [toList_bl, bl_extract]; rfl
    go_enter Tryd.func65, Tryd.ntmps65
    go_wp2_with fail
    all_goals go_ret
    all_goals exact ⟨by rw [← HN.out]; first | rfl | simp_all, rfl⟩
  · have d1 : decide ((4 : Int) ≤ (s.size : Int)) = false := by simp; omega
    have HN : Hid (Us.begins (bl s) Us.wh = false) := by
      show _ = _
      simp only [Us.begins, beq_eq_false_iff_ne, ne_eq]
      intro hc
      have := congrArg List.length hc
      rw [List.length_take, bl_length] at this
      simp [Us.wh] at this
      omega
    go_enter Tryd.func65, Tryd.ntmps65
    go_wp2_with fail
    go_ret
    exact ⟨by rw [HN.out]; rfl, rfl⟩
theorem begins_hid (s : ByteArray) (w : World) (hs : s.size ≤ 1000000000) {b : Bool} (h : Us.begins (bl s) Us.wh = b) : Calls Tryd.prog 65 #[.string s, .string ⟨#[46, 119, 104, 46]⟩] w fun e w' => e = .returned (.bool b) ∧ w = w' := by
  have := begins_any s w hs
  rwa [h] at this
def nameV (b : Bool) : Int := if b then 8 else 0
theorem isEmpty_beq (l : List UInt8) : l.isEmpty = (l == []) := by cases l <;> rfl
set_option maxRecDepth 100000 in
set_option maxHeartbeats 2000000 in
theorem name_any (s : ByteArray) (w : World) (hs : s.size ≤ 1000000000) : Calls Tryd.prog 53 #[.string s] w fun e w' => e = .returned (.int .i64 (nameV (Us.nameBad (bl s)))) ∧ w = w' := by
  obtain ⟨R, hR⟩ : ∃ R, R = Us.nameBad (bl s) := ⟨_, rfl⟩
  rw [← hR]
  rw [Us.nameBad, ← isEmpty_beq, ← toList_bl] at hR
  have hlen : s.toList.length = s.size := by rw [toList_bl, bl_length]
  rw [hlen] at hR
  have HR := Lib.hid hR
  clear hR hlen
  cases h0 : s.toList.isEmpty with
  | true =>
    have HN : Hid (R = true) := by show _ = _; rw [HR.out, h0]; rfl
    go_enter Tryd.func53, Tryd.ntmps53
    go_wp2_with fail
    go_ret
    exact ⟨by rw [HN.out]; rfl, rfl⟩
  | false =>
    by_cases h1 : 96 < s.size
    · have HN : Hid (R = true) := by show _ = _; rw [HR.out, h0, decide_eq_true h1]; rfl
      have d1 : decide ((96 : Int) < (s.size : Int)) = true := by simp; omega
      clear HR
      go_enter Tryd.func53, Tryd.ntmps53
      go_wp2_with fail
      go_ret
      exact ⟨by rw [HN.out]; rfl, rfl⟩
    · have d1 : decide ((96 : Int) < (s.size : Int)) = false := by simp; omega
      have d1' : decide (96 < s.size) = false := decide_eq_false h1
      cases h2 : s.toList == [46] with
      | true =>
        have HN : Hid (R = true) := by show _ = _; rw [HR.out, h0, d1', h2]; rfl
        clear HR d1'
        go_enter Tryd.func53, Tryd.ntmps53
        go_wp2_with fail
        go_ret
        exact ⟨by rw [HN.out]; rfl, rfl⟩
      | false =>
        cases h3 : s.toList == [46, 46] with
        | true =>
          have HN : Hid (R = true) := by show _ = _; rw [HR.out, h0, d1', h2, h3]; rfl
          clear HR d1'
          go_enter Tryd.func53, Tryd.ntmps53
          go_wp2_with fail
          go_ret
          exact ⟨by rw [HN.out]; rfl, rfl⟩
        | false =>
          cases h4 : Us.begins (bl s) Us.wh with
          | true =>
            have HN : Hid (R = true) := by show _ = _; rw [HR.out, h0, d1', h2, h3, toList_bl, h4]; rfl
            clear HR d1'
            go_enter Tryd.func53, Tryd.ntmps53
            go_wp2_with (go_at_call 65; refine (begins_hid _ _ hs h4).mono ?_; rintro e w1 ⟨rfl, rfl⟩)
            go_ret
            exact ⟨by rw [HN.out]; rfl, rfl⟩
          | false =>
            have HN : Hid (R = (bl s).any fun c => c.toNat == 0 || c.toNat == 47) := by show _ = _; rw [HR.out, h0, d1', h2, h3, toList_bl, h4]; rfl
            clear HR d1'
            go_enter Tryd.func53, Tryd.ntmps53
            go_wp2_with (go_at_call 65; refine (begins_hid _ _ hs h4).mono ?_; rintro e w1 ⟨rfl, rfl⟩)
            go_loop [3] (fun i => ∃ k : Nat, k ≤ s.size ∧ i = .int .i64 (k : Int) ∧ Hid (R = ((bl s).drop k).any fun c => c.toNat == 0 || c.toNat == 47)) (fun i => s.size - (intOf i).toNat)
            case atStart => exact ⟨0, by omega, rfl, HN⟩
            case round =>
              obtain ⟨k, hk, rfl, hrec⟩ := hrel
              clear HN
              by_cases hks : k < s.size
              · have hb : (s[k]).toNat < 256 := (s[k]).toNat_lt
                have i1 : (0 : Int) ≤ (k : Int) := by omega
                have i2 : (k : Int) < (s.size : Int) := by omega
                have hV : R = (((s[k]).toNat == 0 || (s[k]).toNat == 47) || ((bl s).drop (k + 1)).any fun c => c.toNat == 0 || c.toNat == 47) := by
                  rw [hrec.out, bl_drop_cons s k hks, List.any_cons]
                have HV := Lib.hid hV
                clear hV
                by_cases q0 : (s[k]).toNat = 0
                · have HN : Hid (R = true) := by show _ = _; rw [HV.out, q0]; rfl
                  have t1 : (((s[k]).toNat : Int) == 0) = true := by simp [q0]
                  clear hrec HV q0
                  go_wp2_with fail
                  go_ret
                  exact ⟨by rw [HN.out]; rfl, rfl⟩
                · have t1 : (((s[k]).toNat : Int) == 0) = false := by simp; omega
                  by_cases q1 : (s[k]).toNat = 47
                  · have HN : Hid (R = true) := by show _ = _; rw [HV.out, q1]; rfl
                    have t2 : (((s[k]).toNat : Int) == 47) = true := by simp [q1]
                    clear hrec HV q0 q1
                    go_wp2_with fail
                    go_ret
                    exact ⟨by rw [HN.out]; rfl, rfl⟩
                  · have t2 : (((s[k]).toNat : Int) == 47) = false := by simp; omega
                    have HN : Hid (R = ((bl s).drop (k + 1)).any fun c => c.toNat == 0 || c.toNat == 47) := by show _ = _; rw [HV.out, beq_false_of_ne q0, beq_false_of_ne q1]; rfl
                    clear hrec HV q0 q1
                    go_wp2_with fail
                    go_round
                    case rel => exact ⟨k + 1, by omega, by go_num, HN⟩
                    case measure => simp [intOf]; omega
              · have HN : Hid (R = false) := by show _ = _; rw [hrec.out, List.drop_of_length_le (by rw [bl_length]; omega)]; rfl
                have i2 : decide ((k : Int) < (s.size : Int)) = false := by simp; omega
                clear hrec
                go_wp2_with fail
                go_ret
                exact ⟨by rw [HN.out]; rfl, rfl⟩
end Go.Proofs.YtfhfahlocpmdkaaDoor
