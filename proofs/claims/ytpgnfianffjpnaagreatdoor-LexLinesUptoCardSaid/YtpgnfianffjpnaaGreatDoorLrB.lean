/- strataref14's lower, Says, Nothing, Directive, trimmed, walked. -/
import Derived.Test.YtpgnfianffjpnaaGreatDoorLrA
namespace Go.Proofs.YtpgnfianffjpnaaGreatDoor
open Go Go.RowKit
set_option maxRecDepth 100000 in
theorem lower14_any (c : UInt8) (w : World) {d : UInt8} (H : Hid (Lx.low c = d)) : Calls Tryz.prog 133 #[.int .u8 (c.toNat : Int)] w fun e w' => e = .returned (.int .u8 (d.toNat : Int)) ∧ w = w' := by
  have hby : c.toNat < 256 := UInt8.toNat_lt _
  by_cases hup : 65 ≤ c.toNat ∧ c.toNat ≤ 90
  · have g1 : decide ((65 : Int) ≤ (c.toNat : Int)) = true := by rw [decide_eq_true_eq]; omega
    have g2 : decide ((c.toNat : Int) ≤ 90) = true := by rw [decide_eq_true_eq]; omega
    have g3 : (c.toNat : Int) ≤ 90 := by omega
    have HL : Hid ((d.toNat : Int) = (c.toNat : Int) + 32) := by show _ = _; rw [← H.out]; exact low_up hup
    clear H
    go_enter Tryz.func133, Tryz.ntmps133
    go_wp2_with fail
    go_ret
    exact ⟨by rw [HL.out]; rfl, rfl⟩
  · have hlow := low_id hup
    have HL : Hid (d = c) := by show _ = _; rw [← H.out]; exact hlow
    have g : ∃ b1 b2, decide ((65 : Int) ≤ (c.toNat : Int)) = b1 ∧ decide ((c.toNat : Int) ≤ 90) = b2 ∧ (b1 && b2) = false := by
      refine ⟨_, _, rfl, rfl, ?_⟩
      rw [Bool.and_eq_false_iff, decide_eq_false_iff_not, decide_eq_false_iff_not]
      omega
    obtain ⟨b1, b2, g1, g2, hbb⟩ := g
    have HBB := Lib.hid hbb
    clear hbb hup hlow H
    cases b1 <;> cases b2 <;> first
      | exact absurd HBB.out (by decide)
      | (go_enter Tryz.func133, Tryz.ntmps133
         go_wp2_with fail
         go_ret
         exact ⟨by rw [HL.out]; rfl, rfl⟩)
namespace Lx
def saysL (s : Bs) (i : Nat) (t : Bs) : Bool := sameL ((s.drop i).take t.length) t
end Lx
set_option maxRecDepth 100000 in
theorem says_neg (s t : List UInt8) (w : World) : Calls Tryz.prog 77 #[.string (bs s), .int .i64 (-1), .string (bs t)] w fun e w' => e = .returned (.bool false) ∧ Below w.heap.size w w' := by
  go_enter Tryz.func77, Tryz.ntmps77
  go_wp2_with fail
  go_ret
  exact ⟨rfl, Below.refl _ _⟩
set_option maxRecDepth 100000 in
set_option maxHeartbeats 1000000 in
theorem says_any (s t : List UInt8) (hs : s.length ≤ 2000000) (ht : t.length ≤ 100) (i : Nat) (hi : i ≤ s.length) (w : World) {b : Bool} (H : Hid (Lx.saysL s i t = b)) :
    Calls Tryz.prog 77 #[.string (bs s), .int .i64 (i : Int), .string (bs t)] w fun e w' => e = .returned (.bool b) ∧ Below w.heap.size w w' := by
  have hz := bs_size s
  have hzt := bs_size t
  have hs2 : (bs s).size ≤ 2000000 := by omega
  have ht2 : (bs t).size ≤ 100 := by omega
  have hi2 : i ≤ (bs s).size := by omega
  have HZ := Lib.hid hz
  have HZT := Lib.hid hzt
  have j0 : (0 : Int) ≤ (i : Int) := by omega
  have j1 : decide ((i : Int) < 0) = false := by rw [decide_eq_false_iff_not]; omega
  rcases Nat.lt_or_ge s.length (i + t.length) with hl | hl
  · have j2 : decide (((bs s).size : Int) < (i : Int) + ((bs t).size : Int)) = true := by rw [decide_eq_true_eq]; omega
    have HN : Hid (b = false) := by
      show _ = _
      rw [← H.out, Lx.saysL]
      exact same_len (by rw [List.length_take, List.length_drop]; omega)
    clear hl hz hzt H
    go_enter Tryz.func77, Tryz.ntmps77
    go_wp2_with fail
    go_ret
    exact ⟨by rw [HN.out]; rfl, Below.refl _ _⟩
  · have j2 : decide (((bs s).size : Int) < (i : Int) + ((bs t).size : Int)) = false := by rw [decide_eq_false_iff_not]; omega
    have hl2 : i + (bs t).size ≤ (bs s).size := by omega
    have HL := Lib.hid hl
    obtain ⟨A, hA⟩ : ∃ A, Hid (A = (s.drop i).take t.length) := ⟨_, Lib.hid rfl⟩
    have HAl : Hid (A.length = t.length) := by show _ = _; rw [hA.out, List.length_take, List.length_drop]; omega
    have HAt : Hid (∀ (k : Nat) (h : k < A.length) (h2 : i + k < (bs s).size), A[k] = (bs s)[i + k]) := Lib.hid fun k h h2 => by
      have e1 : A[k]? = some A[k] := List.getElem?_eq_getElem h
      have e2 := bs_at s (i + k) h2
      have hk : k < t.length := by have := HAl.out; omega
      have e3 : A[k]? = some ((bs s)[i + k]'h2) := by rw [hA.out, List.getElem?_take, if_pos hk, List.getElem?_drop, e2]
      rw [e1] at e3
      injection e3
    have H0 : Hid (Lx.sameL (A.drop 0) (t.drop 0) = b) := by show _ = _; rw [List.drop_zero, List.drop_zero, hA.out]; exact H.out
    clear hl hz hzt H
    go_enter Tryz.func77, Tryz.ntmps77
    go_wp2_with fail
    go_loopw [7] (fun t7 wr => ∃ k : Nat, k ≤ (bs t).size ∧ t7 = .int .i64 (k : Int) ∧ Hid (Lx.sameL (A.drop k) (t.drop k) = b) ∧ Below w.heap.size w wr) (fun t7 _ => (bs t).size - (intOf t7).toNat)
    case atStart => exact ⟨0, by omega, rfl, H0, Below.refl _ _⟩
    case round =>
      clear H0
      obtain ⟨k, hk, rfl, HR, HW⟩ := hrel
      have hwz := HW.size
      have k0 : (0 : Int) ≤ (k : Int) := by omega
      have k00 : (0 : Int) ≤ (i : Int) + (k : Int) := by omega
      rcases Nat.lt_or_ge k (bs t).size with hkn | hkn
      · have i0 : decide ((k : Int) < ((bs t).size : Int)) = true := by rw [decide_eq_true_eq]; omega
        have i1 : (k : Int) < ((bs t).size : Int) := by omega
        have hin : i + k < (bs s).size := by omega
        have i2 : (i : Int) + (k : Int) < ((bs s).size : Int) := by omega
        have hkA : k < A.length := by rw [HAl.out, ← HZT.out]; exact hkn
        have hkt : k < t.length := by rw [← HZT.out]; exact hkn
        have hR := HR.out
        rw [same_step hkA hkt, HAt.out k hkA hin, show t[k]'hkt = (bs t)[k]'hkn from rfl] at hR
        have hby : ((bs s)[i + k]'hin).toNat < 256 := UInt8.toNat_lt _
        have hby2 : ((bs t)[k]'hkn).toNat < 256 := UInt8.toNat_lt _
        obtain ⟨d, hd⟩ : ∃ d, Hid (Lx.low ((bs s)[i + k]'hin) = d) := ⟨_, Lib.hid rfl⟩
        rw [hd.out] at hR
        obtain ⟨q, hq⟩ : ∃ q, ((d.toNat : Int) != (((bs t)[k]'hkn).toNat : Int)) = q := ⟨_, rfl⟩
        have HN : Hid (q = true ∧ b = false ∨ q = false ∧ Lx.sameL (A.drop (k + 1)) (t.drop (k + 1)) = b) := by
          show _ ∨ _
          rw [← hq, bne, u8_eq]
          by_cases he : d = (bs t)[k]'hkn
          · right; rw [← hR]; simp [he]
          · left; rw [← hR]; simp [he]
        have hbd : d.toNat < 256 := UInt8.toNat_lt _
        clear hR HR hkA hkt
        have BX := Below.refl wr.heap.size wr
        go_upto_region 6 with fail
        go_cut [34] (fun s34 wx => s34 = .bool q ∧ Below wr.heap.size wr wx)
        case first =>
          go_quiet ((go_at_call 133; exact Calls.quiet_of_same ((lower14_any _ _ hd).mono fun _ _ h => ⟨h.1, h.2.symm⟩)))
          go_wp2_with fail
          go_meet
          exact ⟨rfl, by first | exact BX | exact below_drewN BX _⟩
        case rest =>
          obtain ⟨rfl, bx⟩ := hcut
          have HW2 := below_of_below HW bx hwz
          clear hq
          rcases HN.out with ⟨rfl, rfl⟩ | ⟨rfl, hN⟩
          · go_wp2_with fail
            go_ret
            exact ⟨rfl, HW2⟩
          · have HN2 := Lib.hid hN
            clear hN
            go_wp2_with fail
            go_roundw
            case rel => exact ⟨k + 1, by omega, by go_num, HN2, HW2⟩
            case measure => simp [intOf]; omega
      · have i0 : decide ((k : Int) < ((bs t).size : Int)) = false := by rw [decide_eq_false_iff_not]; omega
        have HN : Hid (b = true) := by
          show _ = _
          have e1 : t.length ≤ k := by rw [← HZT.out]; exact hkn
          rw [← HR.out, List.drop_eq_nil_of_le e1, List.drop_eq_nil_of_le (by rw [HAl.out]; exact e1)]; rfl
        clear HR
        go_wp2_with fail
        go_ret
        exact ⟨by rw [HN.out]; rfl, HW⟩
end Go.Proofs.YtpgnfianffjpnaaGreatDoor
