/- ustar: within, wrongText, walked. -/
import Derived.Test.YtfhfahlocpmdkaaDoorUsC
namespace Go.Proofs.YtfhfahlocpmdkaaDoor
open Go.RowKit

theorem ret_bool' {a b : Bool} (h : a = b) : Ending.returned (.bool a) = .returned (.bool b) := by rw [h]
theorem within_any (most : Int) (l : List Int) (g c : Nat) (w : World) (hl : l.length ≤ 100) (hc : ∀ k (hk : k < l.length), w.cell? ⟨g, k, none⟩ = some (.int .i64 l[k])) :
    Calls Tryd.prog 42 #[.int .i64 most, .slice (some ⟨g, 0, none⟩) l.length c] w fun e w' => e = .returned (.bool (l.all fun x => Us.in_ x most)) ∧ w = w' := by
  obtain ⟨R, hR⟩ : ∃ R, R = l.all fun x => Us.in_ x most := ⟨_, rfl⟩
  have HR := Lib.hid hR
  rw [← hR]
  have HC := Lib.hid hc
  clear hR hc
  go_enter Tryd.func42, Tryd.ntmps42
  go_wp2_with fail
  go_loop [9] (fun i => ∃ k : Nat, k ≤ l.length ∧ i = .int .i64 (k : Int) ∧ Hid (R = (l.drop k).all fun x => Us.in_ x most)) (fun i => l.length - (intOf i).toNat)
  case atStart => exact ⟨0, by omega, rfl, HR⟩
  case round =>
    obtain ⟨k, hk, rfl, hrec⟩ := hrel
    clear HR
    by_cases hkl : k < l.length
    · have hck := HC.out k hkl
      have i1 : (0 : Int) ≤ (k : Int) := by omega
      have i2 : (k : Int) < (l.length : Int) := by omega
      have HV : Hid (R = (Us.in_ l[k] most && (l.drop (k + 1)).all fun x => Us.in_ x most)) := by
        show _ = _
        rw [hrec.out, List.drop_eq_getElem_cons hkl, List.all_cons]
      rcases (show l[k] < 0 ∨ (0 ≤ l[k] ∧ most < l[k]) ∨ (0 ≤ l[k] ∧ l[k] ≤ most) by omega) with h1 | ⟨h1, h2⟩ | ⟨h1, h2⟩
      · have HN : Hid (R = false) := by show _ = _; rw [HV.out, Us.in_, decide_eq_false (by omega)]; rfl
        have d1 : decide (l[k] < 0) = true := by simpa using h1
        clear hrec HV
        go_wp2_with fail
        go_ret
        exact ⟨by rw [HN.out]; rfl, rfl⟩
      · have HN : Hid (R = false) := by show _ = _; rw [HV.out, Us.in_, decide_eq_false (by omega)]; rfl
        have d1 : decide (l[k] < 0) = false := by simpa using h1
        have d2 : decide (most < l[k]) = true := by simpa using h2
        clear hrec HV
        go_wp2_with fail
        go_ret
        exact ⟨by rw [HN.out]; rfl, rfl⟩
      · have HN : Hid (R = (l.drop (k + 1)).all fun x => Us.in_ x most) := by show _ = _; rw [HV.out, Us.in_, decide_eq_true (by omega), Bool.true_and]
        have d1 : decide (l[k] < 0) = false := by simpa using h1
        have d2 : decide (most < l[k]) = false := by simpa using h2
        clear hrec HV
        go_wp2_with fail
        go_round
        case rel => exact ⟨k + 1, by omega, by go_num, HN⟩
        case measure => simp [intOf]; omega
    · have HN : Hid (R = true) := by show _ = _; rw [hrec.out, List.drop_of_length_le (by omega)]; rfl
      clear hrec
      go_wp2_with fail
      go_ret
      exact ⟨by rw [HN.out]; rfl, rfl⟩

/-- a header, as a value. -/
def hdC (h : Us.Hd) : Array Value := #[.string (bs h.path), .int .i64 h.mode, .int .i64 h.uid, .int .i64 h.gid, .int .i64 h.size, .int .i64 h.time, .int .u8 (h.type.toNat : Int), .string (bs h.link), .string (bs h.user), .string (bs h.group), .int .i64 h.major, .int .i64 h.minor]
/-- its texts are not too long. -/
structure Short (h : Us.Hd) : Prop where
  path : (bs h.path).size ≤ 1000000000
  link : (bs h.link).size ≤ 1000000000
  user : (bs h.user).size ≤ 1000000000
  group : (bs h.group).size ≤ 1000000000
set_option maxRecDepth 100000 in
set_option maxHeartbeats 2000000 in
theorem wrongText_any (h : Us.Hd) (w : World) (hs : Short h) :
    Calls Tryd.prog 40 #[.agg (hdC h)] w fun e w' => e = .returned (.bool (Us.badText h)) ∧ Below w.heap.size w w' := by
  obtain ⟨s1, s2, s3, s4⟩ := hs
  obtain ⟨x, hx⟩ : ∃ x, Lib.indexByte (bl (bs h.path ++ bs h.link ++ bs h.user ++ bs h.group)) 0 = x := ⟨_, rfl⟩
  have h0 : (Us.has0 h.path || Us.has0 h.link || Us.has0 h.user || Us.has0 h.group) = decide (0 ≤ x) := by
    rw [← hx, ← has0_ix, bl_append, bl_append, bl_append, Us.has0_append, Us.has0_append, Us.has0_append]; rfl
  obtain ⟨R, hR⟩ : ∃ R, R = Us.badText h := ⟨_, rfl⟩
  rw [← hR]
  rw [Us.badText, h0] at hR
  have l3 : h.user.length = (bs h.user).size := (bs_size _).symm
  have l4 : h.group.length = (bs h.group).size := (bs_size _).symm
  rw [l3, l4] at hR
  have HX := Lib.hid hx
  have HR := Lib.hid hR
  clear hx h0 hR l3 l4
  unfold hdC
  rcases (show 0 ≤ x ∨ (x < 0 ∧ 31 < (bs h.user).size) ∨ (x < 0 ∧ (bs h.user).size ≤ 31 ∧ 31 < (bs h.group).size) ∨ (x < 0 ∧ (bs h.user).size ≤ 31 ∧ (bs h.group).size ≤ 31) by omega) with c | ⟨c, c2⟩ | ⟨c, c2, c3⟩ | ⟨c, c2, c3⟩
  · have HN : Hid (R = true) := by show _ = _; rw [HR.out, decide_eq_true c]; rfl
    have d1 : decide (0 ≤ x) = true := by simpa using c
    clear HR
    go_enter Tryd.func40, Tryd.ntmps40
    go_wp2_with (go_at_call 56; refine (index_at0 _ _ HX).mono ?_; rintro e w1 ⟨rfl, rfl⟩)
    go_ret
    exact ⟨by rw [HN.out]; rfl, (Below.refl _ _).alloc (Nat.le_refl _) _⟩
  · have HN : Hid (R = true) := by show _ = _; rw [HR.out, decide_eq_false (by omega), decide_eq_true (by omega)]; rfl
    have d1 : decide (0 ≤ x) = false := by simpa using c
    have d2 : decide ((31 : Int) < ((bs h.user).size : Int)) = true := by simp; omega
    clear HR
    go_enter Tryd.func40, Tryd.ntmps40
    go_wp2_with (go_at_call 56; refine (index_at0 _ _ HX).mono ?_; rintro e w1 ⟨rfl, rfl⟩)
    go_ret
    exact ⟨by rw [HN.out]; rfl, (Below.refl _ _).alloc (Nat.le_refl _) _⟩
  · have HN : Hid (R = true) := by show _ = _; rw [HR.out, decide_eq_false (by omega), decide_eq_false (by omega), decide_eq_true (by omega)]; rfl
    have d1 : decide (0 ≤ x) = false := by simpa using c
    have d2 : decide ((31 : Int) < ((bs h.user).size : Int)) = false := by simp; omega
    have d3 : decide ((31 : Int) < ((bs h.group).size : Int)) = true := by simp; omega
    clear HR
    go_enter Tryd.func40, Tryd.ntmps40
    go_wp2_with (go_at_call 56; refine (index_at0 _ _ HX).mono ?_; rintro e w1 ⟨rfl, rfl⟩)
    go_ret
    exact ⟨by rw [HN.out]; rfl, (Below.refl _ _).alloc (Nat.le_refl _) _⟩
  · have HN : Hid (R = false) := by show _ = _; rw [HR.out, decide_eq_false (by omega), decide_eq_false (by omega), decide_eq_false (by omega)]; rfl
    have d1 : decide (0 ≤ x) = false := by simpa using c
    have d2 : decide ((31 : Int) < ((bs h.user).size : Int)) = false := by simp; omega
    have d3 : decide ((31 : Int) < ((bs h.group).size : Int)) = false := by simp; omega
    clear HR
    go_enter Tryd.func40, Tryd.ntmps40
    go_wp2_with (go_at_call 56; refine (index_at0 _ _ HX).mono ?_; rintro e w1 ⟨rfl, rfl⟩)
    go_ret
    exact ⟨by rw [HN.out]; rfl, (Below.refl _ _).alloc (Nat.le_refl _) _⟩
end Go.Proofs.YtfhfahlocpmdkaaDoor
