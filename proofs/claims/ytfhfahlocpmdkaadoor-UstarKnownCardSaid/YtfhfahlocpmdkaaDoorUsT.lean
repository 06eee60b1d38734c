/- strataref05.text, walked. -/
import Derived.Test.YtfhfahlocpmdkaaDoorUsC
namespace Go.Proofs.YtfhfahlocpmdkaaDoor
open Go.RowKit

theorem refText_any (s : ByteArray) (w : World) (hs : s.size ≤ 1000000000000) : Calls Tryd.prog 47 #[.string s] w fun e w' => e = .returned (.string (bs (Us.text (bl s)))) ∧ w = w' := by
  obtain ⟨R, hR⟩ : ∃ R, R = Us.text (bl s) := ⟨_, rfl⟩
  rw [← hR]
  have HR := Lib.hid hR
  clear hR
  go_enter Tryd.func47, Tryd.ntmps47
  go_wp2_with fail
  go_loop [3] (fun i => ∃ k : Nat, k ≤ s.size ∧ i = .int .i64 (k : Int) ∧ Hid (R = (bl s).take k ++ Us.text ((bl s).drop k))) (fun i => s.size - (intOf i).toNat)
  case atStart => exact ⟨0, by omega, rfl, by show _ = _; rw [HR.out]; rfl⟩
  case round =>
    obtain ⟨k, hk, rfl, hrec⟩ := hrel
    clear HR
    by_cases hks : k < s.size
    · have hb : (s[k]).toNat < 256 := (s[k]).toNat_lt
      have i1 : (0 : Int) ≤ (k : Int) := by omega
      have i2 : (k : Int) < (s.size : Int) := by omega
      by_cases h0 : (s[k]).toNat = 0
      · have HN : Hid (R = (bl s).take k) := by
          show _ = _
          rw [hrec.out, bl_drop_cons s k hks, Us.text, List.takeWhile_cons, if_neg (by simp [h0]), List.append_nil]
        have t1 : (((s[k]).toNat : Int) == 0) = true := by simp [h0]
        have hs1 : ∀ wx, (Instr.slice 9 (.string s) none (some (.int .i64 (k : Int))) none).run Tryd.prog wx = .ok (.string (bs ((bl s).take k))) wx := by
          intro wx
          rw [run_slice_string_h (ht := Tryd.underlying9) (h0 := by omega) (h2 := by omega)]
          rw [show ((k : Int)).toNat = k by omega, ← bs_bl (s.extract 0 k), bl_extract, List.drop_zero, Nat.sub_zero]
        clear hrec h0
        go_wp2_with fail
        go_ret
        exact ⟨by rw [HN.out]; rfl, rfl⟩
      · have HN : Hid (R = (bl s).take (k + 1) ++ Us.text ((bl s).drop (k + 1))) := by
          show _ = _
          have hkb : k < (bl s).length := by rw [bl_length]; exact hks
          rw [hrec.out, bl_drop_cons s k hks, Us.text, List.takeWhile_cons, if_pos (by simpa using h0), List.take_succ_eq_append_getElem hkb, List.append_assoc]
          rfl
        have t1 : (((s[k]).toNat : Int) == 0) = false := by simp; omega
        clear hrec h0
        go_wp2_with fail
        go_round
        case rel => exact ⟨k + 1, by omega, by go_num, HN⟩
        case measure => simp [intOf]; omega
    · have HN : Hid (R = bl s) := by
        show _ = _
        rw [hrec.out, List.drop_of_length_le (by rw [bl_length]; omega), List.take_of_length_le (by rw [bl_length]; omega), Us.text, List.takeWhile_nil, List.append_nil]
      clear hrec
      go_wp2_with fail
      go_ret
      exact ⟨by rw [HN.out, bs_bl]; rfl, rfl⟩
end Go.Proofs.YtfhfahlocpmdkaaDoor
