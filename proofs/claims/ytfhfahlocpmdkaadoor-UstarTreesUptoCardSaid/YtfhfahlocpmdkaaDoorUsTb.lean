/- strataref01's slash, Parent, Last, Join, Whiteout, Begins, Name, walked. -/
import Derived.Test.YtfhfahlocpmdkaaDoorUsX
import Derived.Test.YtfhfahlocpmdkaaDoorUsTa
import Derived.Test.YtfhfahlocpmdkaaDoorUsZ
namespace Go.Proofs.YtfhfahlocpmdkaaDoor
open Go.RowKit

def slashV : Option Nat → Int
  | none => -1
  | some k => (k : Int)
theorem slash_any (s : ByteArray) (w : World) (hs : s.size ≤ 1000000000) : Calls Tryd.prog 55 #[.string s] w fun e w' => e = .returned (.int .i64 (slashV (Us.lastAt (bl s) 0 none))) ∧ w = w' := by
  obtain ⟨R, hR⟩ : ∃ R, R = slashV (Us.lastAt (bl s) 0 none) := ⟨_, rfl⟩
  rw [← hR]
  have HR := Lib.hid hR
  clear hR
  go_enter Tryd.func55, Tryd.ntmps55
  go_wp2_with fail
  go_loop [3, 4] (fun v i => ∃ (k : Nat) (x : Int) (o : Option Nat), k ≤ s.size ∧ i = .int .i64 (k : Int) ∧ v = .int .i64 x ∧ Hid (x = slashV o) ∧ Hid (R = slashV (Us.lastAt ((bl s).drop k) k o))) (fun _ i => s.size - (intOf i).toNat)
  case atStart => exact ⟨0, -1, none, by omega, rfl, rfl, rfl, HR⟩
  case round =>
    obtain ⟨k, x, o, hk, rfl, rfl, hx, hrec⟩ := hrel
    clear HR
    by_cases hks : k < s.size
    · have hb : (s[k]).toNat < 256 := (s[k]).toNat_lt
      have i1 : (0 : Int) ≤ (k : Int) := by omega
      have i2 : (k : Int) < (s.size : Int) := by omega
      by_cases h47 : (s[k]).toNat = 47
      · have HN : Hid (R = slashV (Us.lastAt ((bl s).drop (k + 1)) (k + 1) (some k))) := by
          show _ = _
          rw [hrec.out, bl_drop_cons s k hks, Us.lastAt, if_pos h47]
        have t1 : (((s[k]).toNat : Int) == 47) = true := by simp [h47]
        clear hrec h47
        go_wp2_with fail
        go_round
        case rel => exact ⟨k + 1, (k : Int), some k, by omega, by go_num, rfl, rfl, HN⟩
        case measure => simp [intOf]; omega
      · have HN : Hid (R = slashV (Us.lastAt ((bl s).drop (k + 1)) (k + 1) o)) := by
          show _ = _
          rw [hrec.out, bl_drop_cons s k hks, Us.lastAt, if_neg h47]
        have t1 : (((s[k]).toNat : Int) == 47) = false := by simp; omega
        clear hrec h47
        go_wp2_with fail
        go_round
        case rel => exact ⟨k + 1, x, o, by omega, by go_num, rfl, hx, HN⟩
        case measure => simp [intOf]; omega
    · have HN : Hid (R = x) := by
        show _ = _
        rw [hrec.out, List.drop_of_length_le (by rw [bl_length]; omega), Us.lastAt, hx.out]
      have i2 : decide ((k : Int) < (s.size : Int)) = false := by simp; omega
      clear hrec
      go_wp2_with fail
      go_ret
      exact ⟨by rw [HN.out]; rfl, rfl⟩
theorem slash_hid (s : ByteArray) (w : World) (hs : s.size ≤ 1000000000) {x : Int} (h : Hid (slashV (Us.lastAt (bl s) 0 none) = x)) : Calls Tryd.prog 55 #[.string s] w fun e w' => e = .returned (.int .i64 x) ∧ w = w' := by
  have := slash_any s w hs
  rwa [h.out] at this
theorem last_lt (s : ByteArray) {k : Nat} (h : Us.lastAt (bl s) 0 none = some k) : k < s.size := by
  rcases Us.lastAt_spec (bl s) 0 none with ⟨_, h2⟩ | ⟨a, b, h1, _, h3⟩
  · rw [h2] at h; cases h
  · rw [h3] at h
    injection h with h
    have := congrArg List.length h1
    simp [bl_length] at this
    omega
theorem parent_any (s : ByteArray) (w : World) (hs : s.size ≤ 1000000000) : Calls Tryd.prog 32 #[.string s] w fun e w' => e = .returned (.string (bs (Us.parent (bl s)))) ∧ w = w' := by
  cases hl : Us.lastAt (bl s) 0 none with
  | none =>
    have HN : Hid (Us.parent (bl s) = []) := by show _ = _; rw [Us.parent, hl]
    have HX : Hid (slashV (Us.lastAt (bl s) 0 none) = -1) := by show _ = _; rw [hl]; rfl
    clear hl
    go_enter Tryd.func32, Tryd.ntmps32
    go_wp2_with (go_at_call 55; refine (slash_hid _ _ hs HX).mono ?_; rintro e w1 ⟨rfl, rfl⟩)
    go_ret
    exact ⟨by rw [HN.out]; rfl, rfl⟩
  | some k =>
    have hk := last_lt s hl
    have HN : Hid (Us.parent (bl s) = (bl s).take k) := by show _ = _; rw [Us.parent, hl]
    have HX : Hid (slashV (Us.lastAt (bl s) 0 none) = (k : Int)) := by show _ = _; rw [hl]; rfl
    have i1 : (0 : Int) ≤ (k : Int) := by omega
    have t1 : decide ((k : Int) < 0) = false := by simp
    have hsl := slice_h s k (k : Int) rfl (by omega)
    have e1 : s.extract 0 k = bs ((bl s).take k) := by rw [← bs_bl (s.extract 0 k), bl_extract, List.drop_zero, Nat.sub_zero]
    rw [e1] at hsl
    clear hl e1
    go_enter Tryd.func32, Tryd.ntmps32
    go_wp2_with (go_at_call 55; refine (slash_hid _ _ hs HX).mono ?_; rintro e w1 ⟨rfl, rfl⟩)
    go_ret
    exact ⟨by rw [HN.out]; rfl, rfl⟩
theorem last_any (s : ByteArray) (w : World) (hs : s.size ≤ 1000000000) : Calls Tryd.prog 33 #[.string s] w fun e w' => e = .returned (.string (bs (Us.last (bl s)))) ∧ w = w' := by
  cases hl : Us.lastAt (bl s) 0 none with
  | none =>
    have HN : Hid (Us.last (bl s) = bl s) := by show _ = _; rw [Us.last, hl]
    have HX : Hid (slashV (Us.lastAt (bl s) 0 none) = -1) := by show _ = _; rw [hl]; rfl
    have hsl := slice_l s 0 0 rfl (by omega)
    have e1 : s.extract 0 s.size = s := by rw [← bs_bl (s.extract 0 s.size), bl_from, List.drop_zero, bs_bl]
    rw [e1] at hsl
    clear hl e1
    go_enter Tryd.func33, Tryd.ntmps33
    go_wp2_with (go_at_call 55; refine (slash_hid _ _ hs HX).mono ?_; rintro e w1 ⟨rfl, rfl⟩)
    go_ret
    exact ⟨by rw [HN.out, bs_bl]; rfl, rfl⟩
  | some k =>
    have hk := last_lt s hl
    have HN : Hid (Us.last (bl s) = (bl s).drop (k + 1)) := by show _ = _; rw [Us.last, hl]
    have HX : Hid (slashV (Us.lastAt (bl s) 0 none) = (k : Int)) := by show _ = _; rw [hl]; rfl
    have i1 : (0 : Int) ≤ (k : Int) := by omega
    have i2 : (k : Int) < (s.size : Int) := by omega
    have hsl := slice_l s (k + 1) ((k : Int) + 1) (by omega) (by omega)
    have e1 : s.extract (k + 1) s.size = bs ((bl s).drop (k + 1)) := by rw [← bs_bl (s.extract (k + 1) s.size), bl_from]
    rw [e1] at hsl
    clear hl e1
    go_enter Tryd.func33, Tryd.ntmps33
    go_wp2_with (go_at_call 55; refine (slash_hid _ _ hs HX).mono ?_; rintro e w1 ⟨rfl, rfl⟩)
    go_ret
    exact ⟨by rw [HN.out]; rfl, rfl⟩
theorem join_any (d n : List UInt8) (w : World) (hd : (bs d).size ≤ 1000000000) (hn : (bs n).size ≤ 1000000100) : Calls Tryd.prog 31 #[.string (bs d), .string (bs n)] w fun e w' => e = .returned (.string (bs (Us.join d n))) ∧ w = w' := by
  have ie : (bs d).toList.isEmpty = decide (d = []) := by rw [toList_bl, bl_bs]; cases d <;> rfl
  by_cases h : d = []
  · have HN : Hid (Us.join d n = n) := by show _ = _; rw [Us.join, if_pos h]
    rw [decide_eq_true h] at ie
    clear h
    go_enter Tryd.func31, Tryd.ntmps31
    go_wp2_with fail
    go_ret
    exact ⟨by rw [HN.out]; rfl, rfl⟩
  · have HN : Hid (bs (Us.join d n) = bs d ++ ⟨#[47]⟩ ++ bs n) := by
      show _ = _
      have z : (⟨#[47]⟩ : ByteArray) = bs [47] := rfl
      rw [Us.join, if_neg h, z, bs_append, bs_append, List.append_assoc]; rfl
    rw [decide_eq_false h] at ie
    clear h
    go_enter Tryd.func31, Tryd.ntmps31
    go_wp2_with fail
    go_ret
    exact ⟨by rw [HN.out]; rfl, rfl⟩
end Go.Proofs.YtfhfahlocpmdkaaDoor
