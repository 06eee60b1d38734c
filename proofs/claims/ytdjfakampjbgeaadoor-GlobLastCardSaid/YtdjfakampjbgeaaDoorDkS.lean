/- strataref0.SameTexts, walked. -/
import Derived.Test.YtdjfakampjbgeaaDoorProg
import Derived.Test.YtdjfakampjbgeaaDoorOwn
import Derived.Deep.QuietTactic
import Derived.BigQuiet
namespace Go.Proofs.YtdjfakampjbgeaaDoor
open Go.RowKit

theorem sc_get (l : List (List UInt8)) (k : Nat) (h : k < l.length) : (sc l)[k]? = some (Value.string (bs l[k])) := by simp [sc, h]
theorem ret_bool {a b : Bool} (h : a = b) : Ending.returned (.bool a) = .returned (.bool b) := by rw [h]
theorem ex_drewN (w : World) (a b : Nat) : ∃ q, (w.drewN a).drewN b = w.drewN q := ⟨a + b, World.drewN_drewN _ _ _⟩
theorem drop_beq (l1 l2 : List (List UInt8)) (k : Nat) (h1 : k < l1.length) (h2 : k < l2.length) :
    (l1.drop k == l2.drop k) = (l1[k] == l2[k] && l1.drop (k + 1) == l2.drop (k + 1)) := by
  rw [List.drop_eq_getElem_cons h1, List.drop_eq_getElem_cons h2]; rfl

set_option maxHeartbeats 400000 in
theorem sameTexts_any (A B : Option Addr) (l1 l2 : List (List UInt8)) (n m c d B0 : Nat) (w : World) (h1 : Reads w B0 A n (sc l1)) (h2 : Reads w B0 B m (sc l2))
    (hn : n ≤ 9000000000000000000) :
    Calls Tryd.prog 38 #[.slice A n c, .slice B m d] w fun e w' => e = .returned (.bool (l1 == l2)) ∧ ∃ q, w' = w.drewN q := by
  have e1 : l1.length = n := by have := h1.1; rwa [sc_length] at this
  have e2 : l2.length = m := by have := h2.1; rwa [sc_length] at this
  by_cases hl : n = m
  · subst hl
    have HL1 := Lib.hid e1
    have HL2 := Lib.hid e2
    have b1 : l1.length ≤ n ∧ n ≤ l1.length := by omega
    have b2 : l2.length ≤ n ∧ n ≤ l2.length := by omega
    clear e1 e2
    go_enter Tryd.func38, Tryd.ntmps38
    go_wp2_with fail
    go_loopw [5] (fun i wr => ∃ k q : Nat, k ≤ n ∧ i = .int .i64 k ∧ wr = w.drewN q ∧ Hid ((l1.drop k == l2.drop k) = (l1 == l2))) (fun i _ => n - (intOf i).toNat)
    case atStart => exact ⟨0, 0, by omega, rfl, rfl, rfl⟩
    case round =>
      obtain ⟨k, q, hk, rfl, rfl, hd⟩ := hrel
      by_cases hlt : k < n
      · obtain ⟨b, off, u, rfl, hbB, hu, hcell⟩ := h1.at_ hlt
        obtain ⟨b', off', u', rfl, hbB', hu', hcell'⟩ := h2.at_ hlt
        rw [sc_get l1 k (by omega)] at hu
        rw [sc_get l2 k (by omega)] at hu'
        obtain rfl := Option.some.inj hu
        obtain rfl := Option.some.inj hu'
        clear hu hu'
        have hi1 : (0 : Int) ≤ (k : Int) := by omega
        have hi2 : (k : Int) < (n : Int) := by omega
        have hdb := drop_beq l1 l2 k (by omega) (by omega)
        have HB := Lib.hid hdb
        clear hdb
        have hbs1 := ByteArray.toList_eq (bs l1[k])
        have hbs2 := ByteArray.toList_eq (bs l2[k])
        have HS1 := Lib.hid hbs1
        have HS2 := Lib.hid hbs2
        clear hbs1 hbs2
        go_wp2_with fail
        go_quiet (fail)
        go_wp2_with fail
        · have ht : (!(bs l1[k]).toList == (bs l2[k]).toList) = true := by assumption
          rw [HS1.out, HS2.out] at ht
          have ht' : (l1[k] == l2[k]) = false := by simpa [bs] using ht
          go_ret
          refine ⟨ret_bool ?_, ex_drewN _ _ _⟩
          rw [← hd.out, HB.out, ht']
          rfl
        · have ht : (!(bs l1[k]).toList == (bs l2[k]).toList) = false := by assumption
          rw [HS1.out, HS2.out] at ht
          have ht' : (l1[k] == l2[k]) = true := by simpa [bs] using ht
          go_roundw
          case rel => exact ⟨k + 1, q + _, by omega, by go_num, rfl, by rw [← hd.out, HB.out, ht', Bool.true_and]; rfl⟩
          case measure => simp [intOf]; omega
      · go_wp2_with fail
        go_ret
        refine ⟨ret_bool ?_, q, rfl⟩
        rw [← hd.out, List.drop_of_length_le (by omega), List.drop_of_length_le (by omega)]
        rfl
  · have hb : (((n : Nat) : Int) != ((m : Nat) : Int)) = true := by simp; omega
    have HL : Hid ((l1 == l2) = false) := by
      show (l1 == l2) = false
      rw [beq_eq_false_iff_ne]
      intro h
      rw [h] at e1
      omega
    clear e1 e2
    go_enter Tryd.func38, Tryd.ntmps38
    go_wp2_with fail
    go_ret
    exact ⟨by rw [HL.out]; rfl, 0, rfl⟩
end Go.Proofs.YtdjfakampjbgeaaDoor
