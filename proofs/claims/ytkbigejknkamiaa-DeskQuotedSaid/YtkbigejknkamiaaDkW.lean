/- stratalaw32's wide and quote, walked. -/
import Derived.Test.YtkbigejknkamiaaDkA
import Derived.Test.YtkbigejknkamiaaDkS
namespace Go.Proofs.Ytkbigejknkamiaa
open Go.RowKit

theorem ret_i64 {a b : Int} (h : a = b) : Value.int .i64 a = .int .i64 b := by rw [h]
def wsum (l : List (List UInt8)) : Nat := (l.map fun x => 1 + min x.length 4194304).sum
theorem wsum_take (l : List (List UInt8)) (k : Nat) (h : k < l.length) : wsum (l.take (k + 1)) = wsum (l.take k) + (1 + min (l[k]).length 4194304) := by
  unfold wsum
  rw [List.take_succ_eq_append_getElem h, List.map_append, List.sum_append]
  simp

/-- what wide tells: where it says no, the texts are short. -/
def WideEnd (l : List (List UInt8)) (e : Ending) : Prop := ∃ b : Bool, e = .returned (.bool b) ∧ (b = false → wsum l < 4194304)

set_option maxRecDepth 10000 in
set_option maxHeartbeats 400000 in
theorem wide_any (A : Option Addr) (l : List (List UInt8)) (n c B0 : Nat) (w : World) (h1 : Reads w B0 A n (sc l)) (hn : n ≤ 9223372036854775807) (hs : ∀ x ∈ l, x.length ≤ 9223372036854775807) :
    Calls Try.prog 6 #[.slice A n c] w fun e w' => WideEnd l e ∧ w = w' := by
  have e1 : l.length = n := by have := h1.1; rwa [sc_length] at this
  have b1 : l.length ≤ n ∧ n ≤ l.length := by omega
  clear e1
  have HS := Lib.hid hs
  clear hs
  go_enter Try.func6, Try.ntmps6
  go_wp2_with fail
  go_loop [3, 4] (fun s i => ∃ k : Nat, k ≤ n ∧ i = .int .i64 k ∧ s = .int .i64 (wsum (l.take k)) ∧ wsum (l.take k) < 4194304) (fun _ i => n - (intOf i).toNat)
  case atStart => exact ⟨0, by omega, rfl, rfl, by simp [wsum]⟩
  case round =>
    obtain ⟨k, hk, rfl, rfl, hlt⟩ := hrel
    by_cases hkn : k < n
    · obtain ⟨b, off, u, rfl, hbB, hu, hcell⟩ := h1.at_ hkn
      rw [sc_get l k (by omega)] at hu
      obtain rfl := Option.some.inj hu
      clear hu
      have hi1 : (0 : Int) ≤ (k : Int) := by omega
      have hi2 : (k : Int) < (n : Int) := by omega
      have hws := wsum_take l k (by omega)
      have HW := Lib.hid hws
      clear hws
      have hsz : (bs l[k]).size ≤ 9223372036854775807 := by rw [bs_size]; exact HS.out _ (List.getElem_mem _)
      have hsz2 : ((bs l[k]).size : Int) ≤ 9223372036854775807 := by omega
      have hbs : (bs l[k]).size ≤ l[k].length ∧ l[k].length ≤ (bs l[k]).size := by rw [bs_size]; omega
      go_wp2_with fail
      · go_ret
        exact ⟨⟨true, rfl, fun h => by cases h⟩, rfl⟩
      · go_ret
        exact ⟨⟨true, rfl, fun h => by cases h⟩, rfl⟩
      · go_round
        case rel => exact ⟨k + 1, by omega, by go_num, ret_i64 (by rw [HW.out]; split <;> omega), by rw [HW.out]; omega⟩
        case measure => simp [intOf]; omega
    · go_wp2_with fail
      go_ret
      refine ⟨⟨false, rfl, fun _ => ?_⟩, rfl⟩
      rwa [List.take_of_length_le (by omega)] at hlt

theorem quo_length (c : UInt8) : (Dk.quo c).length ≤ 4 := by
  unfold Dk.quo
  split
  · simp
  · split
    · simp
    · split
      · simp
      · simp
theorem quos_length (l : List UInt8) : (l.flatMap Dk.quo).length ≤ 4 * l.length := by
  induction l with
  | nil => simp
  | cons c l ih => have := quo_length c; simp only [List.flatMap_cons, List.length_append, List.length_cons]; omega
/-- what quote has gathered behind k bytes. -/
def qtd (s : ByteArray) (k : Nat) : List UInt8 := 34 :: ((bl s).take k).flatMap Dk.quo
theorem qtd_succ (s : ByteArray) (k : Nat) (h : k < s.size) : qtd s (k + 1) = qtd s k ++ Dk.quo s[k] := by
  unfold qtd
  rw [List.take_succ_eq_append_getElem (by rw [bl_length]; exact h), List.flatMap_append]
  simp [bl_getElem s k h]
theorem qtd_length (s : ByteArray) (k : Nat) : (qtd s k).length ≤ 1 + 4 * s.size := by
  unfold qtd
  have h1 := quos_length ((bl s).take k)
  have h2 : ((bl s).take k).length ≤ s.size := by rw [List.length_take, bl_length]; omega
  rw [List.length_cons]; omega
theorem byteSlice : ElemT Try.prog 38 5 (.int .u8 0) 1 := ⟨Try.underlying38, by kernel_rfl, rfl⟩
theorem own_start (w : World) (B : Nat) (hB : B ≤ w.heap.size) : (w.alloc (.cells #[.int .u8 34] 5)).ownsRow B 5 1 (.slice (some ⟨w.heap.size, 0, none⟩) 1 1) 1 (bc [34]) :=
  ⟨rfl, .inr ⟨w.heap.size, 1, #[.int .u8 34], rfl, hB, heap_alloc_new w _, by omega, by unfold maxLen; omega, rfl, rfl⟩⟩

set_option maxHeartbeats 1000000 in
theorem quote_any (s : ByteArray) (w : World) (hs : s.size ≤ 1000000000000) :
    Calls Try.prog 8 #[.string s] w fun e w' => e = .returned (.string (bs (Dk.quote (bl s)))) ∧ Below w.heap.size w w' := by
  go_enter Try.func8, Try.ntmps8
  go_wp2_with fail
  go_loopw [3, 4] (fun v i wr => ∃ k n : Nat, k ≤ s.size ∧ i = .int .i64 k ∧ wr.ownsRow w.heap.size 5 1 v n (bc (qtd s k)) ∧ Below w.heap.size w wr) (fun _ i _ => s.size - (intOf i).toNat)
  case atStart => exact ⟨0, 1, by omega, rfl, own_start w _ (Nat.le_refl _), (Below.refl _ _).alloc (Nat.le_refl _) _⟩
  case round =>
    obtain ⟨k, n, hk, rfl, hown, hbel⟩ := hrel
    have hsz := hbel.size
    have hq := qtd_length s k
    have hn : n ≤ 1 + 4 * s.size := by have := hown.1; rw [bc_length] at this; omega
    by_cases hkn : k < s.size
    · have hc : (s[k]).toNat < 256 := (s[k]).toNat_lt
      have HQ := Lib.hid (qtd_succ s k hkn)
      have hi1 : (0 : Int) ≤ (k : Int) := by omega
      have hi2 : (k : Int) < (s.size : Int) := by omega
      have h9 : (0 : Int) ≤ ((s[k]).toNat : Int) := by omega
      have h8 : ((s[k]).toNat : Int) ≤ 255 := by omega
      by_cases h1 : (s[k]).toNat = 34 ∨ (s[k]).toNat = 92
      · have HN : Hid ([Value.int .u8 92, Value.int .u8 ((s[k]).toNat : Int)] = bc (Dk.quo s[k])) := by
          show _ = _
          unfold Dk.quo
          rw [if_pos h1]; rfl
        by_cases h1' : (s[k]).toNat = 34
        · have t1 : (((s[k]).toNat : Int) == 34) = true := by simp [h1']
          clear h1 h1'
          go_wp2_with ((at_builtin; refine wpList_app rfl _ _ _ rfl byteSlice _ _ _ _ rfl (hown.alloc _) _ _ _ _ rfl rfl (news_alloc _ _ _) (one_of_all rfl) (by omega) (by omega) (hbel.alloc hsz _) (by simp; omega) ?_; intro v1 w1 hown1 hb1 hg1 hat1))
          go_roundw
          case rel => exact ⟨k + 1, n + 2, by omega, by go_num, by rw [HQ.out, bc_append, ← HN.out]; exact hown1, hb1⟩
          case measure => simp [intOf]; omega
        · have t0 : (((s[k]).toNat : Int) == 34) = false := by simp; omega
          have t1 : (((s[k]).toNat : Int) == 92) = true := by simp; omega
          clear h1 h1'
          go_wp2_with ((at_builtin; refine wpList_app rfl _ _ _ rfl byteSlice _ _ _ _ rfl (hown.alloc _) _ _ _ _ rfl rfl (news_alloc _ _ _) (one_of_all rfl) (by omega) (by omega) (hbel.alloc hsz _) (by simp; omega) ?_; intro v1 w1 hown1 hb1 hg1 hat1))
          go_roundw
          case rel => exact ⟨k + 1, n + 2, by omega, by go_num, by rw [HQ.out, bc_append, ← HN.out]; exact hown1, hb1⟩
          case measure => simp [intOf]; omega
      · have t0 : (((s[k]).toNat : Int) == 34) = false := by simp; omega
        have t1 : (((s[k]).toNat : Int) == 92) = false := by simp; omega
        by_cases h2 : (s[k]).toNat = 10
        · have HN : Hid ([Value.int .u8 92, Value.int .u8 110] = bc (Dk.quo s[k])) := by
            show _ = _
            unfold Dk.quo
            rw [if_neg h1, if_pos h2]; rfl
          have t2 : (((s[k]).toNat : Int) == 10) = true := by simp [h2]
          clear h1 h2
          go_wp2_with ((at_builtin; refine wpList_app rfl _ _ _ rfl byteSlice _ _ _ _ rfl (hown.alloc _) _ _ _ _ rfl rfl (news_alloc _ _ _) (one_of_all rfl) (by omega) (by omega) (hbel.alloc hsz _) (by simp; omega) ?_; intro v1 w1 hown1 hb1 hg1 hat1))
          go_roundw
          case rel => exact ⟨k + 1, n + 2, by omega, by go_num, by rw [HQ.out, bc_append, ← HN.out]; exact hown1, hb1⟩
          case measure => simp [intOf]; omega
        · have t2 : (((s[k]).toNat : Int) == 10) = false := by simp; omega
          by_cases h3 : (s[k]).toNat < 32 ∨ 126 < (s[k]).toNat
          · have HN : Hid ([Value.int .u8 92, Value.int .u8 120, Value.int .u8 ((Dk.hexd (((s[k]).toNat : Int) / 16).toNat).toNat : Int), Value.int .u8 ((Dk.hexd (((s[k]).toNat : Int) % 16).toNat).toNat : Int)] = bc (Dk.quo s[k])) := by
              show _ = _
              unfold Dk.quo
              rw [if_neg h1, if_neg h2, if_pos h3]; rfl
            rcases h3 with h3 | h3
            all_goals
              go_wp2_with (first | (go_at_call 11; refine (lawHex_any _ (by omega) (by omega) _).mono ?_; rintro e w' ⟨rfl, rfl⟩) | (at_builtin; refine wpList_app rfl _ _ _ rfl byteSlice _ _ _ _ rfl (hown.alloc _) _ _ _ _ rfl rfl (news_alloc _ _ _) (one_of_all rfl) (by omega) (by omega) (hbel.alloc hsz _) (by simp; omega) ?_; intro v1 w1 hown1 hb1 hg1 hat1))
              go_roundw
              case rel => exact ⟨k + 1, n + 4, by omega, by go_num, by rw [HQ.out, bc_append, ← HN.out]; exact hown1, hb1⟩
              case measure => simp [intOf]; omega
          · have HN : Hid ([Value.int .u8 ((s[k]).toNat : Int)] = bc (Dk.quo s[k])) := by
              show _ = _
              unfold Dk.quo
              rw [if_neg h1, if_neg h2, if_neg h3]; rfl
            have h4 : 32 ≤ ((s[k]).toNat : Int) := by omega
            have h5 : ((s[k]).toNat : Int) ≤ 126 := by omega
            clear h1 h2 h3
            go_wp2_with ((at_builtin; refine wpList_app rfl _ _ _ rfl byteSlice _ _ _ _ rfl (hown.alloc _) _ _ _ _ rfl rfl (news_alloc _ _ _) (one_of_all rfl) (by omega) (by omega) (hbel.alloc hsz _) (by simp; omega) ?_; intro v1 w1 hown1 hb1 hg1 hat1))
            go_roundw
            case rel => exact ⟨k + 1, n + 1, by omega, by go_num, by rw [HQ.out, bc_append, ← HN.out]; exact hown1, hb1⟩
            case measure => simp [intOf]; omega
    · go_wp2_with ((at_builtin; refine wpList_app rfl _ _ _ rfl byteSlice _ _ _ _ rfl (hown.alloc _) _ _ _ _ rfl rfl (news_alloc _ _ _) (one_of_all rfl) (by omega) (by omega) (hbel.alloc hsz _) (by simp; omega) ?_; intro v1 w1 hown1 hb1 hg1 hat1; have hown2 : w1.ownsRow w.heap.size 5 1 v1 (n + 1) (bc (qtd s k ++ [34])) := (by rw [bc_append]; exact hown1); have hcv := run_str_own Try.underlying38 Try.underlying5 hown2 9 Try.underlying9))
      go_ret
      refine ⟨?_, hb1⟩
      rw [show Dk.quote (bl s) = qtd s k ++ [34] by unfold Dk.quote qtd; rw [List.take_of_length_le (by rw [bl_length]; omega)]; rfl]
      rfl
end Go.Proofs.Ytkbigejknkamiaa
