/- stratakit.Num, by contracts over any error of which errors.Is and errors.As are known. -/
import Derived.Test.YtpgnfianffjpnaaGreatDoorErrAs
namespace Go.Proofs.YtpgnfianffjpnaaGreatDoor
open Go.RowKit

/-- errors.Is finds just the number k in it. -/
def IsNum (E : Value) (k : Int) : Prop := ∀ (b : Int) (w : World), Calls Tryz.prog 44 #[E, eno b] w fun e w' => e = .returned (.bool (k == b)) ∧ Below w.heap.size w w'
/-- errors.As finds no api.Fault in it. -/
def IsPlain (E : Value) : Prop := ∀ (t : Addr) (w : World), ErrVar w → Calls Tryz.prog 104 #[E, .iface 170 (.pointer (some t))] w fun e w' => e = .returned (.bool false) ∧ Below w.heap.size w w'
theorem isNum_eno (k : Int) : IsNum (eno k) k := fun b w => (is_eno k b w).mono fun _ _ ⟨h, h'⟩ => ⟨h, by rw [h']; exact Below.refl _ _⟩
theorem isPlain_eno (k : Int) : IsPlain (eno k) := fun t w h => as_eno k t w h
/-- how many numbers were asked for: what was found. -/
def found (k j : Int) : Int := if k < j then k else 0

theorem ret_int {k : IntKind} {a b : Int} (h : a = b) : Ending.returned (.int k a) = .returned (.int k b) := by rw [h]
theorem val_int {k : IntKind} {a b : Int} (h : a = b) : Value.int k a = .int k b := by rw [h]

theorem num_nil (w : World) : Calls Tryz.prog 11 #[.nilIface] w fun e w' => e = .returned (.int .i64 0) ∧ w = w' := by
  go_enter Tryz.func11, Tryz.ntmps11
  go_wp2_with fail
  go_ret
  exact ⟨rfl, rfl⟩

set_option maxHeartbeats 2000000 in
theorem num_of (T : TypeId) (v : Value) (k : Int) (h : IsNum (.iface T v) k) (h1 : 1 ≤ k) (h2 : k ≤ 32) (w : World) :
    Calls Tryz.prog 11 #[.iface T v] w fun e w' => e = .returned (.int .i64 k) ∧ Below w.heap.size w w' := by
  have H := Lib.hid h
  clear h
  go_enter Tryz.func11, Tryz.ntmps11
  go_wp2_with fail
  go_loopw [3, 4] (fun x n wr => ∃ j : Int, 1 ≤ j ∧ j ≤ 33 ∧ n = .int .i64 j ∧ x = .int .i64 (found k j) ∧ Below w.heap.size w wr) (fun _ n _ => (33 - intOf n).toNat)
  case atStart => exact ⟨1, by omega, by omega, rfl, by rw [found, if_neg (by omega)], Below.refl _ _⟩
  case round =>
    obtain ⟨j, hj1, hj2, rfl, rfl, hbel⟩ := hrel
    have hsz := hbel.size
    by_cases hj : j ≤ 32
    · rcases (show j < k ∨ j = k ∨ k < j by omega) with hc | hc | hc
      · have hb : (k == j) = false := by simp; omega
        have HF : Hid (found k (j + 1) = found k j) := by show _ = _; rw [found, found, if_neg (by omega), if_neg (by omega)]
        go_wp2_with (go_at_call 44; refine (H.out _ _).mono ?_; rintro e w1 ⟨rfl, hb1⟩)
        go_roundw
        case rel => exact ⟨j + 1, by omega, by omega, rfl, by rw [HF.out], below_of_below' hbel hb1 hsz⟩
        case measure => simp [intOf]; omega
      · subst hc
        have hb : (j == j) = true := by simp
        have hf0 : found j j = 0 := by rw [found, if_neg (by omega)]
        have HF : Hid (found j (j + 1) = j) := by show _ = _; rw [found, if_pos (by omega)]
        rw [hf0]
        clear hf0
        go_wp2_with (go_at_call 44; refine (H.out _ _).mono ?_; rintro e w1 ⟨rfl, hb1⟩)
        go_roundw
        case rel => exact ⟨j + 1, by omega, by omega, rfl, by rw [HF.out], below_of_below' hbel hb1 hsz⟩
        case measure => simp [intOf]; omega
      · have hb : (k == j) = false := by simp; omega
        have HF : Hid (found k (j + 1) = found k j) := by show _ = _; rw [found, found, if_pos (by omega), if_pos (by omega)]
        go_wp2_with (go_at_call 44; refine (H.out _ _).mono ?_; rintro e w1 ⟨rfl, hb1⟩)
        go_roundw
        case rel => exact ⟨j + 1, by omega, by omega, rfl, by rw [HF.out], below_of_below' hbel hb1 hsz⟩
        case measure => simp [intOf]; omega
    · have hf : found k j = k := by rw [found, if_pos (by omega)]
      rw [hf]
      have hk0 : (k == 0) = false := by simp; omega
      clear hf
      go_wp2_with (go_at_call 44; refine (H.out _ _).mono ?_; rintro e w1 ⟨rfl, hb1⟩)
      go_ret
      exact ⟨rfl, below_of_below' hbel hb1 hsz⟩

end Go.Proofs.YtpgnfianffjpnaaGreatDoor
