/- strataref05.number, walked: it answers what Us.value tells. -/
import Derived.Test.YtfhfahlocpmdkaaDoorUsC
namespace Go.Proofs.YtfhfahlocpmdkaaDoor
open Go.RowKit

def numR : Option Nat → Value
  | none => .tuple #[.int .i64 0, .bool false]
  | some v => .tuple #[.int .i64 (v : Int), .bool true]
theorem dw_stop {l : List UInt8} (h : ∀ c ∈ l.head?, (c.toNat == 32) = false) : l.dropWhile (fun c => c.toNat == 32) = l := by
  cases l with
  | nil => rfl
  | cons c r => rw [List.dropWhile_cons, if_neg (by simp [h c (by simp)])]
set_option maxRecDepth 100000 in
set_option maxHeartbeats 2000000 in
theorem refNumber_any (s : ByteArray) (w : World) (hs : s.size ≤ 12) : Calls Tryd.prog 46 #[.string s] w fun e w' => e = .returned (numR (Us.value (bl s))) ∧ w = w' := by
  obtain ⟨U, hU⟩ : ∃ U, U = Us.value (bl s) := ⟨_, rfl⟩
  rw [← hU]
  have HU := Lib.hid hU
  clear hU
  go_enter Tryd.func46, Tryd.ntmps46
  go_wp2_with fail
  go_loop [4] (fun i => ∃ k : Nat, k ≤ s.size ∧ i = .int .i64 (k : Int) ∧ Hid ((bl s).dropWhile (fun c => c.toNat == 32) = ((bl s).drop k).dropWhile (fun c => c.toNat == 32))) (fun i => s.size - (intOf i).toNat)
  case atStart => exact ⟨0, by omega, rfl, by show _ = _; rw [List.drop_zero]⟩
  case round =>
    obtain ⟨k, hk, rfl, hrec⟩ := hrel
    have i1 : (0 : Int) ≤ (k : Int) := by omega
    by_cases hks : k < s.size ∧ (bl s)[k]?.map (·.toNat) = some 32
    · obtain ⟨hks, h32⟩ := hks
      have i2 : (k : Int) < (s.size : Int) := by omega
      have hb : (s[k]).toNat < 256 := (s[k]).toNat_lt
      have h32' : (s[k]).toNat = 32 := by
        rw [List.getElem?_eq_getElem (by rw [bl_length]; exact hks)] at h32
        injection h32
      have t1 : (((s[k]).toNat : Int) == 32) = true := by simp [h32']
      have HN : Hid ((bl s).dropWhile (fun c => c.toNat == 32) = ((bl s).drop (k + 1)).dropWhile (fun c => c.toNat == 32)) := by
        show _ = _
        rw [hrec.out, bl_drop_cons s k hks, List.dropWhile_cons, if_pos (by simp [h32'])]
      clear hrec h32 h32'
      go_wp2_with fail
      go_round
      case rel => exact ⟨k + 1, by omega, by go_num, HN⟩
      case measure => simp [intOf]; omega
    · have hL : (bl s).dropWhile (fun c => c.toNat == 32) = (bl s).drop k := by
        rw [hrec.out]
        refine dw_stop fun c hc => ?_
        by_cases hk2 : k < s.size
        · rw [bl_drop_cons s k hk2, List.head?_cons] at hc
          have hc' : s[k] = c := by simpa using hc
          have : ¬ (s[k]).toNat = 32 := fun h => hks ⟨hk2, by rw [List.getElem?_eq_getElem (by rw [bl_length]; exact hk2)]; simp only [Option.map_some]; rw [← h]; rfl⟩
          rw [← hc']
          simpa using this
        · rw [List.drop_of_length_le (by rw [bl_length]; omega)] at hc
          simp at hc
      have hcase : (s.size ≤ k) ∨ (∃ h : k < s.size, ¬ (s[k]).toNat = 32) := by
        by_cases hk2 : k < s.size
        · exact .inr ⟨hk2, fun h => hks ⟨hk2, by rw [List.getElem?_eq_getElem (by rw [bl_length]; exact hk2)]; simp only [Option.map_some]; rw [← h]; rfl⟩⟩
        · exact .inl (by omega)
      have HL := Lib.hid hL
      have HK := Lib.hid hcase
      clear hrec hL hks
      rcases hcase with h | ⟨hk2, h⟩
      · have i2 : decide ((k : Int) < (s.size : Int)) = false := by simp; omega
        have T1 := i2
        clear HK
        go_wp2_with fail
        clear i2 T1
        go_loop [4, 6] (fun i v => ∃ j acc : Nat, k ≤ j ∧ j ≤ s.size ∧ i = .int .i64 (j : Int) ∧ v = .int .i64 (acc : Int) ∧ acc < 8 ^ (j - k) ∧ ((j = k ∧ acc = 0) ∨ (k < j ∧ Hid (U = fin_ (Us.digits ((bl s).drop j) acc))))) (fun i _ => s.size - (intOf i).toNat)
        case atStart => exact ⟨k, 0, by omega, hk, rfl, rfl, by simp, .inl ⟨rfl, rfl⟩⟩
        case round =>
          obtain ⟨j, acc, hkj, hj, rfl, rfl, hacc, hrec⟩ := hrel
          have hp12 : 8 ^ (j - k) ≤ 8 ^ 12 := Nat.pow_le_pow_right (by omega) (by omega)
          have hacc2 : acc < 68719476736 := Nat.lt_of_lt_of_le hacc hp12
          have hp1 : 8 ^ (j + 1 - k) = 8 * 8 ^ (j - k) := by rw [show j + 1 - k = (j - k) + 1 by omega, Nat.pow_succ, Nat.mul_comm]
          clear hp12
          have i1 : (0 : Int) ≤ (j : Int) := by omega
          have hkn : ((k : Int) == (k : Int)) = true := by simp
          by_cases hjs : j < s.size
          · have hb : (s[j]).toNat < 256 := (s[j]).toNat_lt
            have i2 : (j : Int) < (s.size : Int) := by omega
            have HD := Lib.hid (bl_drop_cons s j hjs)
            by_cases ho : 48 ≤ (s[j]).toNat ∧ (s[j]).toNat ≤ 55
            · have hoc : Us.isOct s[j] = true := by simp [Us.isOct, ho]
              have HV : Hid (U = fin_ (Us.digits ((bl s).drop (j + 1)) (8 * acc + ((s[j]).toNat - 48)))) := by
                show _ = _
                rcases hrec with ⟨rfl, rfl⟩ | ⟨_, hr⟩
                · have h0 := HL.out.trans HD.out
                  rw [HU.out, value_head h0, if_pos hoc, Us.digits, if_pos hoc]
                · rw [hr.out, HD.out, Us.digits, if_pos hoc]
              have hacc' : 8 * acc + ((s[j]).toNat - 48) < 8 ^ (j + 1 - k) := by omega
              have HA := Lib.hid hacc'
              obtain ⟨o1, o2⟩ := ho
              have d1 : decide ((48 : Int) ≤ ((s[j]).toNat : Int)) = true := by simp; omega
              have d2 : decide (((s[j]).toNat : Int) ≤ 55) = true := by simp; omega
              clear hrec hoc hacc hacc' hp1 HU HD
              go_wp2_with fail
              go_round
              case rel => exact ⟨j + 1, 8 * acc + ((s[j]).toNat - 48), by omega, by omega, by go_num, by go_num, HA.out, .inr ⟨by omega, HV⟩⟩
              case measure => simp [intOf]; omega
            · have hoc : Us.isOct s[j] = false := by simp [Us.isOct]; omega
              have hst : Us.digits ((bl s).drop j) acc = (acc, (bl s).drop j) := digits_stop (by rw [HD.out]; simp [hoc])
              have HV : Hid (U = if j = k then none else fin_ (acc, (bl s).drop j)) := by
                show _ = _
                rcases hrec with ⟨rfl, rfl⟩ | ⟨h0, hr⟩
                · have h0 := HL.out.trans HD.out
                  rw [HU.out, value_head h0, if_neg (by simp [hoc]), if_pos rfl]
                · rw [hr.out, hst, if_neg (by omega)]
              have hcase2 : ((s[j]).toNat : Int) < 48 ∨ ((48 : Int) ≤ ((s[j]).toNat : Int) ∧ (55 : Int) < ((s[j]).toNat : Int)) := by omega
              clear hrec hoc hst hacc hp1 HU HD ho
              rcases hcase2 with h1 | ⟨h1, h2⟩
              · have d1 : decide ((48 : Int) ≤ ((s[j]).toNat : Int)) = false := by simp; omega
                by_cases hjk : j = k
                · subst hjk
                  have HN : Hid (U = none) := by show _ = _; rw [HV.out, if_pos rfl]
                  go_wp2_with fail
                  all_goals first | (exfalso; omega) | (go_ret2; exact ⟨by rw [HN.out]; rfl, rfl⟩)
                · have e1 : ((j : Int) == (k : Int)) = false := by simp; omega
                  have HN : Hid (U = if ((bl s).drop j).all Us.isPad then some acc else none) := by show _ = _; rw [HV.out, if_neg hjk]; rfl
                  clear HV
                  go_wp2_with fail
                  go_loop [4] (fun i => ∃ m : Nat, j ≤ m ∧ m ≤ s.size ∧ i = .int .i64 (m : Int) ∧ Hid (U = if ((bl s).drop m).all Us.isPad then some acc else none)) (fun i => s.size - (intOf i).toNat)
                  case atStart => exact ⟨j, by omega, hj, rfl, HN⟩
                  case round =>
                    obtain ⟨m, hjm, hm, rfl, hrec3⟩ := hrel
                    have m1 : (0 : Int) ≤ (m : Int) := by omega
                    by_cases hms : m < s.size
                    · have m2 : (m : Int) < (s.size : Int) := by omega
                      have hbm : (s[m]).toNat < 256 := (s[m]).toNat_lt
                      have hal : ((bl s).drop m).all Us.isPad = (Us.isPad s[m] && ((bl s).drop (m + 1)).all Us.isPad) := by rw [bl_drop_cons s m hms, List.all_cons]
                      rcases (show (s[m]).toNat = 0 ∨ ((s[m]).toNat ≠ 0 ∧ (s[m]).toNat = 32) ∨ ((s[m]).toNat ≠ 0 ∧ (s[m]).toNat ≠ 32) by omega) with q | ⟨q, q2⟩ | ⟨q, q2⟩
                      · have HN3 : Hid (U = if ((bl s).drop (m + 1)).all Us.isPad then some acc else none) := by show _ = _; rw [hrec3.out, hal, Us.isPad, q]; rfl
                        have f1 : (((s[m]).toNat : Int) == 0) = true := by simp [q]
                        have f2 : ((s[m]).toNat : Int) = 0 := by omega
                        clear hrec3 hal q
                        go_wp2_with fail
                        go_round
                        case rel => exact ⟨m + 1, by omega, by omega, by go_num, HN3⟩
                        case measure => simp [intOf]; omega
                      · have HN3 : Hid (U = if ((bl s).drop (m + 1)).all Us.isPad then some acc else none) := by show _ = _; rw [hrec3.out, hal, Us.isPad, q2]; rfl
                        have f1 : (((s[m]).toNat : Int) == 0) = false := by simp; omega
                        have f2 : ¬ ((s[m]).toNat : Int) = 0 := by omega
                        have f3 : (((s[m]).toNat : Int) == 32) = true := by simp [q2]
                        have f4 : ((s[m]).toNat : Int) = 32 := by omega
                        clear hrec3 hal q q2
                        go_wp2_with fail
                        go_round
                        case rel => exact ⟨m + 1, by omega, by omega, by go_num, HN3⟩
                        case measure => simp [intOf]; omega
                      · have HN3 : Hid (U = none) := by show _ = _; rw [hrec3.out, hal, Us.isPad, beq_false_of_ne q, beq_false_of_ne q2]; rfl
                        have f1 : (((s[m]).toNat : Int) == 0) = false := by simp; omega
                        have f2 : ¬ ((s[m]).toNat : Int) = 0 := by omega
                        have f3 : (((s[m]).toNat : Int) == 32) = false := by simp; omega
                        have f4 : ¬ ((s[m]).toNat : Int) = 32 := by omega
                        have f5 : (((s[m]).toNat : Int) != 0) = true := by simp; omega
                        have f6 : (((s[m]).toNat : Int) != 32) = true := by simp; omega
                        clear hrec3 hal q q2
                        go_wp2_with fail
                        all_goals first | (exfalso; omega) | (go_ret2; exact ⟨by rw [HN3.out]; rfl, rfl⟩)
                    · have m2 : decide ((m : Int) < (s.size : Int)) = false := by simp; omega
                      have HN3 : Hid (U = some acc) := by show _ = _; rw [hrec3.out, List.drop_of_length_le (by rw [bl_length]; omega)]; rfl
                      clear hrec3
                      go_wp2_with fail
                      go_ret2
                      exact ⟨by rw [HN3.out]; rfl, rfl⟩
              · have d1 : decide ((48 : Int) ≤ ((s[j]).toNat : Int)) = true := by simp; omega
                have d2 : decide (((s[j]).toNat : Int) ≤ 55) = false := by simp; omega
                by_cases hjk : j = k
                · subst hjk
                  have HN : Hid (U = none) := by show _ = _; rw [HV.out, if_pos rfl]
                  go_wp2_with fail
                  all_goals first | (exfalso; omega) | (go_ret2; exact ⟨by rw [HN.out]; rfl, rfl⟩)
                · have e1 : ((j : Int) == (k : Int)) = false := by simp; omega
                  have HN : Hid (U = if ((bl s).drop j).all Us.isPad then some acc else none) := by show _ = _; rw [HV.out, if_neg hjk]; rfl
                  clear HV
                  go_wp2_with fail
                  go_loop [4] (fun i => ∃ m : Nat, j ≤ m ∧ m ≤ s.size ∧ i = .int .i64 (m : Int) ∧ Hid (U = if ((bl s).drop m).all Us.isPad then some acc else none)) (fun i => s.size - (intOf i).toNat)
                  case atStart => exact ⟨j, by omega, hj, rfl, HN⟩
                  case round =>
                    obtain ⟨m, hjm, hm, rfl, hrec3⟩ := hrel
                    have m1 : (0 : Int) ≤ (m : Int) := by omega
                    by_cases hms : m < s.size
                    · have m2 : (m : Int) < (s.size : Int) := by omega
                      have hbm : (s[m]).toNat < 256 := (s[m]).toNat_lt
                      have hal : ((bl s).drop m).all Us.isPad = (Us.isPad s[m] && ((bl s).drop (m + 1)).all Us.isPad) := by rw [bl_drop_cons s m hms, List.all_cons]
                      rcases (show (s[m]).toNat = 0 ∨ ((s[m]).toNat ≠ 0 ∧ (s[m]).toNat = 32) ∨ ((s[m]).toNat ≠ 0 ∧ (s[m]).toNat ≠ 32) by omega) with q | ⟨q, q2⟩ | ⟨q, q2⟩
                      · have HN3 : Hid (U = if ((bl s).drop (m + 1)).all Us.isPad then some acc else none) := by show _ = _; rw [hrec3.out, hal, Us.isPad, q]; rfl
                        have f1 : (((s[m]).toNat : Int) == 0) = true := by simp [q]
                        have f2 : ((s[m]).toNat : Int) = 0 := by omega
                        clear hrec3 hal q
                        go_wp2_with fail
                        go_round
                        case rel => exact ⟨m + 1, by omega, by omega, by go_num, HN3⟩
                        case measure => simp [intOf]; omega
                      · have HN3 : Hid (U = if ((bl s).drop (m + 1)).all Us.isPad then some acc else none) := by show _ = _; rw [hrec3.out, hal, Us.isPad, q2]; rfl
                        have f1 : (((s[m]).toNat : Int) == 0) = false := by simp; omega
                        have f2 : ¬ ((s[m]).toNat : Int) = 0 := by omega
                        have f3 : (((s[m]).toNat : Int) == 32) = true := by simp [q2]
                        have f4 : ((s[m]).toNat : Int) = 32 := by omega
                        clear hrec3 hal q q2
                        go_wp2_with fail
                        go_round
                        case rel => exact ⟨m + 1, by omega, by omega, by go_num, HN3⟩
                        case measure => simp [intOf]; omega
                      · have HN3 : Hid (U = none) := by show _ = _; rw [hrec3.out, hal, Us.isPad, beq_false_of_ne q, beq_false_of_ne q2]; rfl
                        have f1 : (((s[m]).toNat : Int) == 0) = false := by simp; omega
                        have f2 : ¬ ((s[m]).toNat : Int) = 0 := by omega
                        have f3 : (((s[m]).toNat : Int) == 32) = false := by simp; omega
                        have f4 : ¬ ((s[m]).toNat : Int) = 32 := by omega
                        have f5 : (((s[m]).toNat : Int) != 0) = true := by simp; omega
                        have f6 : (((s[m]).toNat : Int) != 32) = true := by simp; omega
                        clear hrec3 hal q q2
                        go_wp2_with fail
                        all_goals first | (exfalso; omega) | (go_ret2; exact ⟨by rw [HN3.out]; rfl, rfl⟩)
                    · have m2 : decide ((m : Int) < (s.size : Int)) = false := by simp; omega
                      have HN3 : Hid (U = some acc) := by show _ = _; rw [hrec3.out, List.drop_of_length_le (by rw [bl_length]; omega)]; rfl
                      clear hrec3
                      go_wp2_with fail
                      go_ret2
                      exact ⟨by rw [HN3.out]; rfl, rfl⟩
          · have i2 : decide ((j : Int) < (s.size : Int)) = false := by simp; omega
            have hdr : (bl s).drop j = [] := List.drop_of_length_le (by rw [bl_length]; omega)
            have HV : Hid (U = if j = k then none else fin_ (acc, (bl s).drop j)) := by
              show _ = _
              rcases hrec with ⟨rfl, rfl⟩ | ⟨h0, hr⟩
              · rw [HU.out, value_nil (HL.out.trans hdr), if_pos rfl]
              · rw [hr.out, hdr, Us.digits, if_neg (by omega)]
            clear hrec hacc hp1 HU hdr
            by_cases hjk : j = k
            · subst hjk
              have HN : Hid (U = none) := by show _ = _; rw [HV.out, if_pos rfl]
              go_wp2_with fail
              all_goals first | (exfalso; omega) | (go_ret2; exact ⟨by rw [HN.out]; rfl, rfl⟩)
            · have e1 : ((j : Int) == (k : Int)) = false := by simp; omega
              have HN : Hid (U = if ((bl s).drop j).all Us.isPad then some acc else none) := by show _ = _; rw [HV.out, if_neg hjk]; rfl
              clear HV
              go_wp2_with fail
              go_loop [4] (fun i => ∃ m : Nat, j ≤ m ∧ m ≤ s.size ∧ i = .int .i64 (m : Int) ∧ Hid (U = if ((bl s).drop m).all Us.isPad then some acc else none)) (fun i => s.size - (intOf i).toNat)
              case atStart => exact ⟨j, by omega, hj, rfl, HN⟩
              case round =>
                obtain ⟨m, hjm, hm, rfl, hrec3⟩ := hrel
                have m1 : (0 : Int) ≤ (m : Int) := by omega
                by_cases hms : m < s.size
                · have m2 : (m : Int) < (s.size : Int) := by omega
                  have hbm : (s[m]).toNat < 256 := (s[m]).toNat_lt
                  have hal : ((bl s).drop m).all Us.isPad = (Us.isPad s[m] && ((bl s).drop (m + 1)).all Us.isPad) := by rw [bl_drop_cons s m hms, List.all_cons]
                  rcases (show (s[m]).toNat = 0 ∨ ((s[m]).toNat ≠ 0 ∧ (s[m]).toNat = 32) ∨ ((s[m]).toNat ≠ 0 ∧ (s[m]).toNat ≠ 32) by omega) with q | ⟨q, q2⟩ | ⟨q, q2⟩
                  · have HN3 : Hid (U = if ((bl s).drop (m + 1)).all Us.isPad then some acc else none) := by show _ = _; rw [hrec3.out, hal, Us.isPad, q]; rfl
                    have f1 : (((s[m]).toNat : Int) == 0) = true := by simp [q]
                    have f2 : ((s[m]).toNat : Int) = 0 := by omega
                    clear hrec3 hal q
                    go_wp2_with fail
                    go_round
                    case rel => exact ⟨m + 1, by omega, by omega, by go_num, HN3⟩
                    case measure => simp [intOf]; omega
                  · have HN3 : Hid (U = if ((bl s).drop (m + 1)).all Us.isPad then some acc else none) := by show _ = _; rw [hrec3.out, hal, Us.isPad, q2]; rfl
                    have f1 : (((s[m]).toNat : Int) == 0) = false := by simp; omega
                    have f2 : ¬ ((s[m]).toNat : Int) = 0 := by omega
                    have f3 : (((s[m]).toNat : Int) == 32) = true := by simp [q2]
                    have f4 : ((s[m]).toNat : Int) = 32 := by omega
                    clear hrec3 hal q q2
                    go_wp2_with fail
                    go_round
                    case rel => exact ⟨m + 1, by omega, by omega, by go_num, HN3⟩
                    case measure => simp [intOf]; omega
                  · have HN3 : Hid (U = none) := by show _ = _; rw [hrec3.out, hal, Us.isPad, beq_false_of_ne q, beq_false_of_ne q2]; rfl
                    have f1 : (((s[m]).toNat : Int) == 0) = false := by simp; omega
                    have f2 : ¬ ((s[m]).toNat : Int) = 0 := by omega
                    have f3 : (((s[m]).toNat : Int) == 32) = false := by simp; omega
                    have f4 : ¬ ((s[m]).toNat : Int) = 32 := by omega
                    have f5 : (((s[m]).toNat : Int) != 0) = true := by simp; omega
                    have f6 : (((s[m]).toNat : Int) != 32) = true := by simp; omega
                    clear hrec3 hal q q2
                    go_wp2_with fail
                    all_goals first | (exfalso; omega) | (go_ret2; exact ⟨by rw [HN3.out]; rfl, rfl⟩)
                · have m2 : decide ((m : Int) < (s.size : Int)) = false := by simp; omega
                  have HN3 : Hid (U = some acc) := by show _ = _; rw [hrec3.out, List.drop_of_length_le (by rw [bl_length]; omega)]; rfl
                  clear hrec3
                  go_wp2_with fail
                  go_ret2
                  exact ⟨by rw [HN3.out]; rfl, rfl⟩
      · have i2 : (k : Int) < (s.size : Int) := by omega
        have hb : (s[k]).toNat < 256 := (s[k]).toNat_lt
        have T1 : (((s[k]).toNat : Int) == 32) = false := by simp; omega
        clear HK
        go_wp2_with fail
        go_loop [4, 6] (fun i v => ∃ j acc : Nat, k ≤ j ∧ j ≤ s.size ∧ i = .int .i64 (j : Int) ∧ v = .int .i64 (acc : Int) ∧ acc < 8 ^ (j - k) ∧ ((j = k ∧ acc = 0) ∨ (k < j ∧ Hid (U = fin_ (Us.digits ((bl s).drop j) acc))))) (fun i _ => s.size - (intOf i).toNat)
        case atStart => exact ⟨k, 0, by omega, hk, rfl, rfl, by simp, .inl ⟨rfl, rfl⟩⟩
        case round =>
          obtain ⟨j, acc, hkj, hj, rfl, rfl, hacc, hrec⟩ := hrel
          have hp12 : 8 ^ (j - k) ≤ 8 ^ 12 := Nat.pow_le_pow_right (by omega) (by omega)
          have hacc2 : acc < 68719476736 := Nat.lt_of_lt_of_le hacc hp12
          have hp1 : 8 ^ (j + 1 - k) = 8 * 8 ^ (j - k) := by rw [show j + 1 - k = (j - k) + 1 by omega, Nat.pow_succ, Nat.mul_comm]
          clear hp12
          have i1 : (0 : Int) ≤ (j : Int) := by omega
          have hkn : ((k : Int) == (k : Int)) = true := by simp
          by_cases hjs : j < s.size
          · have hb : (s[j]).toNat < 256 := (s[j]).toNat_lt
            have i2 : (j : Int) < (s.size : Int) := by omega
            have HD := Lib.hid (bl_drop_cons s j hjs)
            by_cases ho : 48 ≤ (s[j]).toNat ∧ (s[j]).toNat ≤ 55
            · have hoc : Us.isOct s[j] = true := by simp [Us.isOct, ho]
              have HV : Hid (U = fin_ (Us.digits ((bl s).drop (j + 1)) (8 * acc + ((s[j]).toNat - 48)))) := by
                show _ = _
                rcases hrec with ⟨rfl, rfl⟩ | ⟨_, hr⟩
                · have h0 := HL.out.trans HD.out
                  rw [HU.out, value_head h0, if_pos hoc, Us.digits, if_pos hoc]
                · rw [hr.out, HD.out, Us.digits, if_pos hoc]
              have hacc' : 8 * acc + ((s[j]).toNat - 48) < 8 ^ (j + 1 - k) := by omega
              have HA := Lib.hid hacc'
              obtain ⟨o1, o2⟩ := ho
              have d1 : decide ((48 : Int) ≤ ((s[j]).toNat : Int)) = true := by simp; omega
              have d2 : decide (((s[j]).toNat : Int) ≤ 55) = true := by simp; omega
              clear hrec hoc hacc hacc' hp1 HU HD
              go_wp2_with fail
              go_round
              case rel => exact ⟨j + 1, 8 * acc + ((s[j]).toNat - 48), by omega, by omega, by go_num, by go_num, HA.out, .inr ⟨by omega, HV⟩⟩
              case measure => simp [intOf]; omega
            · have hoc : Us.isOct s[j] = false := by simp [Us.isOct]; omega
              have hst : Us.digits ((bl s).drop j) acc = (acc, (bl s).drop j) := digits_stop (by rw [HD.out]; simp [hoc])
              have HV : Hid (U = if j = k then none else fin_ (acc, (bl s).drop j)) := by
                show _ = _
                rcases hrec with ⟨rfl, rfl⟩ | ⟨h0, hr⟩
                · have h0 := HL.out.trans HD.out
                  rw [HU.out, value_head h0, if_neg (by simp [hoc]), if_pos rfl]
                · rw [hr.out, hst, if_neg (by omega)]
              have hcase2 : ((s[j]).toNat : Int) < 48 ∨ ((48 : Int) ≤ ((s[j]).toNat : Int) ∧ (55 : Int) < ((s[j]).toNat : Int)) := by omega
              clear hrec hoc hst hacc hp1 HU HD ho
              rcases hcase2 with h1 | ⟨h1, h2⟩
              · have d1 : decide ((48 : Int) ≤ ((s[j]).toNat : Int)) = false := by simp; omega
                by_cases hjk : j = k
                · subst hjk
                  have HN : Hid (U = none) := by show _ = _; rw [HV.out, if_pos rfl]
                  go_wp2_with fail
                  all_goals first | (exfalso; omega) | (go_ret2; exact ⟨by rw [HN.out]; rfl, rfl⟩)
                · have e1 : ((j : Int) == (k : Int)) = false := by simp; omega
                  have HN : Hid (U = if ((bl s).drop j).all Us.isPad then some acc else none) := by show _ = _; rw [HV.out, if_neg hjk]; rfl
                  clear HV
                  go_wp2_with fail
                  go_loop [4] (fun i => ∃ m : Nat, j ≤ m ∧ m ≤ s.size ∧ i = .int .i64 (m : Int) ∧ Hid (U = if ((bl s).drop m).all Us.isPad then some acc else none)) (fun i => s.size - (intOf i).toNat)
                  case atStart => exact ⟨j, by omega, hj, rfl, HN⟩
                  case round =>
                    obtain ⟨m, hjm, hm, rfl, hrec3⟩ := hrel
                    have m1 : (0 : Int) ≤ (m : Int) := by omega
                    by_cases hms : m < s.size
                    · have m2 : (m : Int) < (s.size : Int) := by omega
                      have hbm : (s[m]).toNat < 256 := (s[m]).toNat_lt
                      have hal : ((bl s).drop m).all Us.isPad = (Us.isPad s[m] && ((bl s).drop (m + 1)).all Us.isPad) := by rw [bl_drop_cons s m hms, List.all_cons]
                      rcases (show (s[m]).toNat = 0 ∨ ((s[m]).toNat ≠ 0 ∧ (s[m]).toNat = 32) ∨ ((s[m]).toNat ≠ 0 ∧ (s[m]).toNat ≠ 32) by omega) with q | ⟨q, q2⟩ | ⟨q, q2⟩
                      · have HN3 : Hid (U = if ((bl s).drop (m + 1)).all Us.isPad then some acc else none) := by show _ = _; rw [hrec3.out, hal, Us.isPad, q]; rfl
                        have f1 : (((s[m]).toNat : Int) == 0) = true := by simp [q]
                        have f2 : ((s[m]).toNat : Int) = 0 := by omega
                        clear hrec3 hal q
                        go_wp2_with fail
                        go_round
                        case rel => exact ⟨m + 1, by omega, by omega, by go_num, HN3⟩
                        case measure => simp [intOf]; omega
                      · have HN3 : Hid (U = if ((bl s).drop (m + 1)).all Us.isPad then some acc else none) := by show _ = _; rw [hrec3.out, hal, Us.isPad, q2]; rfl
                        have f1 : (((s[m]).toNat : Int) == 0) = false := by simp; omega
                        have f2 : ¬ ((s[m]).toNat : Int) = 0 := by omega
                        have f3 : (((s[m]).toNat : Int) == 32) = true := by simp [q2]
                        have f4 : ((s[m]).toNat : Int) = 32 := by omega
                        clear hrec3 hal q q2
                        go_wp2_with fail
                        go_round
                        case rel => exact ⟨m + 1, by omega, by omega, by go_num, HN3⟩
                        case measure => simp [intOf]; omega
                      · have HN3 : Hid (U = none) := by show _ = _; rw [hrec3.out, hal, Us.isPad, beq_false_of_ne q, beq_false_of_ne q2]; rfl
                        have f1 : (((s[m]).toNat : Int) == 0) = false := by simp; omega
                        have f2 : ¬ ((s[m]).toNat : Int) = 0 := by omega
                        have f3 : (((s[m]).toNat : Int) == 32) = false := by simp; omega
                        have f4 : ¬ ((s[m]).toNat : Int) = 32 := by omega
                        have f5 : (((s[m]).toNat : Int) != 0) = true := by simp; omega
                        have f6 : (((s[m]).toNat : Int) != 32) = true := by simp; omega
                        clear hrec3 hal q q2
                        go_wp2_with fail
                        all_goals first | (exfalso; omega) | (go_ret2; exact ⟨by rw [HN3.out]; rfl, rfl⟩)
                    · have m2 : decide ((m : Int) < (s.size : Int)) = false := by simp; omega
                      have HN3 : Hid (U = some acc) := by show _ = _; rw [hrec3.out, List.drop_of_length_le (by rw [bl_length]; omega)]; rfl
                      clear hrec3
                      go_wp2_with fail
                      go_ret2
                      exact ⟨by rw [HN3.out]; rfl, rfl⟩
              · have d1 : decide ((48 : Int) ≤ ((s[j]).toNat : Int)) = true := by simp; omega
                have d2 : decide (((s[j]).toNat : Int) ≤ 55) = false := by simp; omega
                by_cases hjk : j = k
                · subst hjk
                  have HN : Hid (U = none) := by show _ = _; rw [HV.out, if_pos rfl]
                  go_wp2_with fail
                  all_goals first | (exfalso; omega) | (go_ret2; exact ⟨by rw [HN.out]; rfl, rfl⟩)
                · have e1 : ((j : Int) == (k : Int)) = false := by simp; omega
                  have HN : Hid (U = if ((bl s).drop j).all Us.isPad then some acc else none) := by show _ = _; rw [HV.out, if_neg hjk]; rfl
                  clear HV
                  go_wp2_with fail
                  go_loop [4] (fun i => ∃ m : Nat, j ≤ m ∧ m ≤ s.size ∧ i = .int .i64 (m : Int) ∧ Hid (U = if ((bl s).drop m).all Us.isPad then some acc else none)) (fun i => s.size - (intOf i).toNat)
                  case atStart => exact ⟨j, by omega, hj, rfl, HN⟩
                  case round =>
                    obtain ⟨m, hjm, hm, rfl, hrec3⟩ := hrel
                    have m1 : (0 : Int) ≤ (m : Int) := by omega
                    by_cases hms : m < s.size
                    · have m2 : (m : Int) < (s.size : Int) := by omega
                      have hbm : (s[m]).toNat < 256 := (s[m]).toNat_lt
                      have hal : ((bl s).drop m).all Us.isPad = (Us.isPad s[m] && ((bl s).drop (m + 1)).all Us.isPad) := by rw [bl_drop_cons s m hms, List.all_cons]
                      rcases (show (s[m]).toNat = 0 ∨ ((s[m]).toNat ≠ 0 ∧ (s[m]).toNat = 32) ∨ ((s[m]).toNat ≠ 0 ∧ (s[m]).toNat ≠ 32) by omega) with q | ⟨q, q2⟩ | ⟨q, q2⟩
                      · have HN3 : Hid (U = if ((bl s).drop (m + 1)).all Us.isPad then some acc else none) := by show _ = _; rw [hrec3.out, hal, Us.isPad, q]; rfl
                        have f1 : (((s[m]).toNat : Int) == 0) = true := by simp [q]
                        have f2 : ((s[m]).toNat : Int) = 0 := by omega
                        clear hrec3 hal q
                        go_wp2_with fail
                        go_round
                        case rel => exact ⟨m + 1, by omega, by omega, by go_num, HN3⟩
                        case measure => simp [intOf]; omega
                      · have HN3 : Hid (U = if ((bl s).drop (m + 1)).all Us.isPad then some acc else none) := by show _ = _; rw [hrec3.out, hal, Us.isPad, q2]; rfl
                        have f1 : (((s[m]).toNat : Int) == 0) = false := by simp; omega
                        have f2 : ¬ ((s[m]).toNat : Int) = 0 := by omega
                        have f3 : (((s[m]).toNat : Int) == 32) = true := by simp [q2]
                        have f4 : ((s[m]).toNat : Int) = 32 := by omega
                        clear hrec3 hal q q2
                        go_wp2_with fail
                        go_round
                        case rel => exact ⟨m + 1, by omega, by omega, by go_num, HN3⟩
                        case measure => simp [intOf]; omega
                      · have HN3 : Hid (U = none) := by show _ = _; rw [hrec3.out, hal, Us.isPad, beq_false_of_ne q, beq_false_of_ne q2]; rfl
                        have f1 : (((s[m]).toNat : Int) == 0) = false := by simp; omega
                        have f2 : ¬ ((s[m]).toNat : Int) = 0 := by omega
                        have f3 : (((s[m]).toNat : Int) == 32) = false := by simp; omega
                        have f4 : ¬ ((s[m]).toNat : Int) = 32 := by omega
                        have f5 : (((s[m]).toNat : Int) != 0) = true := by simp; omega
                        have f6 : (((s[m]).toNat : Int) != 32) = true := by simp; omega
                        clear hrec3 hal q q2
                        go_wp2_with fail
                        all_goals first | (exfalso; omega) | (go_ret2; exact ⟨by rw [HN3.out]; rfl, rfl⟩)
                    · have m2 : decide ((m : Int) < (s.size : Int)) = false := by simp; omega
                      have HN3 : Hid (U = some acc) := by show _ = _; rw [hrec3.out, List.drop_of_length_le (by rw [bl_length]; omega)]; rfl
                      clear hrec3
                      go_wp2_with fail
                      go_ret2
                      exact ⟨by rw [HN3.out]; rfl, rfl⟩
          · have i2 : decide ((j : Int) < (s.size : Int)) = false := by simp; omega
            have hdr : (bl s).drop j = [] := List.drop_of_length_le (by rw [bl_length]; omega)
            have HV : Hid (U = if j = k then none else fin_ (acc, (bl s).drop j)) := by
              show _ = _
              rcases hrec with ⟨rfl, rfl⟩ | ⟨h0, hr⟩
              · rw [HU.out, value_nil (HL.out.trans hdr), if_pos rfl]
              · rw [hr.out, hdr, Us.digits, if_neg (by omega)]
            clear hrec hacc hp1 HU hdr
            by_cases hjk : j = k
            · subst hjk
              have HN : Hid (U = none) := by show _ = _; rw [HV.out, if_pos rfl]
              go_wp2_with fail
              all_goals first | (exfalso; omega) | (go_ret2; exact ⟨by rw [HN.out]; rfl, rfl⟩)
            · have e1 : ((j : Int) == (k : Int)) = false := by simp; omega
              have HN : Hid (U = if ((bl s).drop j).all Us.isPad then some acc else none) := by show _ = _; rw [HV.out, if_neg hjk]; rfl
              clear HV
              go_wp2_with fail
              go_loop [4] (fun i => ∃ m : Nat, j ≤ m ∧ m ≤ s.size ∧ i = .int .i64 (m : Int) ∧ Hid (U = if ((bl s).drop m).all Us.isPad then some acc else none)) (fun i => s.size - (intOf i).toNat)
              case atStart => exact ⟨j, by omega, hj, rfl, HN⟩
              case round =>
                obtain ⟨m, hjm, hm, rfl, hrec3⟩ := hrel
                have m1 : (0 : Int) ≤ (m : Int) := by omega
                by_cases hms : m < s.size
                · have m2 : (m : Int) < (s.size : Int) := by omega
                  have hbm : (s[m]).toNat < 256 := (s[m]).toNat_lt
                  have hal : ((bl s).drop m).all Us.isPad = (Us.isPad s[m] && ((bl s).drop (m + 1)).all Us.isPad) := by rw [bl_drop_cons s m hms, List.all_cons]
                  rcases (show (s[m]).toNat = 0 ∨ ((s[m]).toNat ≠ 0 ∧ (s[m]).toNat = 32) ∨ ((s[m]).toNat ≠ 0 ∧ (s[m]).toNat ≠ 32) by omega) with q | ⟨q, q2⟩ | ⟨q, q2⟩
                  · have HN3 : Hid (U = if ((bl s).drop (m + 1)).all Us.isPad then some acc else none) := by show _ = _; rw [hrec3.out, hal, Us.isPad, q]; rfl
                    have f1 : (((s[m]).toNat : Int) == 0) = true := by simp [q]
                    have f2 : ((s[m]).toNat : Int) = 0 := by omega
                    clear hrec3 hal q
                    go_wp2_with fail
                    go_round
                    case rel => exact ⟨m + 1, by omega, by omega, by go_num, HN3⟩
                    case measure => simp [intOf]; omega
                  · have HN3 : Hid (U = if ((bl s).drop (m + 1)).all Us.isPad then some acc else none) := by show _ = _; rw [hrec3.out, hal, Us.isPad, q2]; rfl
                    have f1 : (((s[m]).toNat : Int) == 0) = false := by simp; omega
                    have f2 : ¬ ((s[m]).toNat : Int) = 0 := by omega
                    have f3 : (((s[m]).toNat : Int) == 32) = true := by simp [q2]
                    have f4 : ((s[m]).toNat : Int) = 32 := by omega
                    clear hrec3 hal q q2
                    go_wp2_with fail
                    go_round
                    case rel => exact ⟨m + 1, by omega, by omega, by go_num, HN3⟩
                    case measure => simp [intOf]; omega
                  · have HN3 : Hid (U = none) := by show _ = _; rw [hrec3.out, hal, Us.isPad, beq_false_of_ne q, beq_false_of_ne q2]; rfl
                    have f1 : (((s[m]).toNat : Int) == 0) = false := by simp; omega
                    have f2 : ¬ ((s[m]).toNat : Int) = 0 := by omega
                    have f3 : (((s[m]).toNat : Int) == 32) = false := by simp; omega
                    have f4 : ¬ ((s[m]).toNat : Int) = 32 := by omega
                    have f5 : (((s[m]).toNat : Int) != 0) = true := by simp; omega
                    have f6 : (((s[m]).toNat : Int) != 32) = true := by simp; omega
                    clear hrec3 hal q q2
                    go_wp2_with fail
                    all_goals first | (exfalso; omega) | (go_ret2; exact ⟨by rw [HN3.out]; rfl, rfl⟩)
                · have m2 : decide ((m : Int) < (s.size : Int)) = false := by simp; omega
                  have HN3 : Hid (U = some acc) := by show _ = _; rw [hrec3.out, List.drop_of_length_le (by rw [bl_length]; omega)]; rfl
                  clear hrec3
                  go_wp2_with fail
                  go_ret2
                  exact ⟨by rw [HN3.out]; rfl, rfl⟩
end Go.Proofs.YtfhfahlocpmdkaaDoor
