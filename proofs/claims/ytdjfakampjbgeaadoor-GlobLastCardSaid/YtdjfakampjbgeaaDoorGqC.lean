/- Names joined, plain; stratalaw02.joined, walked. -/
import Derived.Test.YtdjfakampjbgeaaDoorGqB
namespace Go.Proofs.YtdjfakampjbgeaaDoor
open Go.RowKit
namespace Gl
/-- names, with a slash between. -/
def joinL : List (List UInt8) → List UInt8
  | [] => []
  | [x] => x
  | x :: y :: r => x ++ 47 :: joinL (y :: r)
theorem joinL_snoc : ∀ (a : List (List UInt8)) (x : List UInt8), a ≠ [] → joinL (a ++ [x]) = joinL a ++ 47 :: x
  | [], _, h => absurd rfl h
  | [y], x, _ => rfl
  | y :: z :: r, x, _ => by
    have ih := joinL_snoc (z :: r) x (by simp)
    show y ++ 47 :: joinL (z :: r ++ [x]) = (y ++ 47 :: joinL (z :: r)) ++ 47 :: x
    rw [ih]
    simp
theorem names_one {x : List UInt8} (h : x ≠ []) (hs : ∀ c ∈ x, c ≠ 47) : namesL x = [x] := by
  rw [namesL, splitL_no x hs]
  cases x with
  | nil => exact absurd rfl h
  | cons c x => rfl
theorem names_join : ∀ (l : List (List UInt8)), (∀ x ∈ l, x ≠ [] ∧ ∀ c ∈ x, c ≠ 47) → namesL (joinL l) = l
  | [], _ => rfl
  | [x], h => names_one (h x (List.mem_cons_self ..)).1 (h x (List.mem_cons_self ..)).2
  | x :: y :: r, h => by
    have hx := h x (List.mem_cons_self ..)
    have ih := names_join (y :: r) (fun z hz => h z (List.mem_cons_of_mem _ hz))
    show namesL (x ++ 47 :: joinL (y :: r)) = _
    rw [names_app, names_one hx.1 hx.2, ih]
    rfl
theorem joinL_length (B : Nat) : ∀ (l : List (List UInt8)), (∀ x ∈ l, x.length ≤ B) → (joinL l).length ≤ l.length * (B + 1)
  | [], _ => by simp [joinL]
  | [x], h => by have := h x (List.mem_cons_self ..); show x.length ≤ 1 * (B + 1); omega
  | x :: y :: r, h => by
    have hx := h x (List.mem_cons_self ..)
    have ih := joinL_length B (y :: r) (fun z hz => h z (List.mem_cons_of_mem _ hz))
    show (x ++ 47 :: joinL (y :: r)).length ≤ _
    rw [List.length_append, List.length_cons, List.length_cons, Nat.add_mul, Nat.one_mul]
    omega
/-- the names from i up to j. -/
def part (l : List (List UInt8)) (i j : Nat) : List (List UInt8) := (l.drop i).take (j - i)
theorem part_snoc (l : List (List UInt8)) (i k : Nat) (hi : i ≤ k) (h : k < l.length) : part l i (k + 1) = part l i k ++ [l[k]] := by
  have h2 : k - i < (l.drop i).length := by rw [List.length_drop]; omega
  rw [part, part, show k + 1 - i = k - i + 1 by omega, List.take_add_one, List.getElem?_eq_getElem h2]
  congr 1
  simp only [List.getElem_drop, Option.toList_some, List.cons.injEq, and_true]
  simp only [show i + (k - i) = k by omega]
theorem part_self (l : List (List UInt8)) (i : Nat) : part l i i = [] := by rw [part, Nat.sub_self, List.take_zero]
theorem part_ne (l : List (List UInt8)) (i k : Nat) (h : i < k) (hk : k ≤ l.length) : part l i k ≠ [] := by
  intro e
  have := congrArg List.length e
  rw [part, List.length_take, List.length_drop] at this
  simp at this
  omega
theorem part_mem {l : List (List UInt8)} {i j : Nat} {x : List UInt8} (h : x ∈ part l i j) : x ∈ l := List.mem_of_mem_drop (List.mem_of_mem_take h)
theorem part_all (l : List (List UInt8)) (i : Nat) : part l i l.length = l.drop i := by rw [part, List.take_of_length_le (by rw [List.length_drop]; omega)]
theorem part_zero (l : List (List UInt8)) (j : Nat) : part l 0 j = l.take j := by rw [part, List.drop_zero, Nat.sub_zero]
end Gl
set_option maxRecDepth 100000 in
set_option maxHeartbeats 1000000 in
theorem joined_any (l : List (List UInt8)) (vl : Value) (w : World) {S : Nat → Prop} (hq : RC w S vl l.length (sc l)) (hl : l.length ≤ 401) (hx : ∀ x ∈ l, x.length ≤ 400) (i j : Nat) (hij : i ≤ j) (hj : j ≤ l.length) :
    Calls Tryd.prog 16 #[vl, .int .i64 (i : Int), .int .i64 (j : Int)] w fun e w' => e = .returned (.string (bs (Gl.joinL (Gl.part l i j)))) ∧ w = w' := by
  obtain ⟨A, cc, rfl⟩ := hq.form
  have HQ := Lib.hid hq
  have HX := Lib.hid hx
  clear hq hx
  go_enter Tryd.func16, Tryd.ntmps16
  go_wp2_with fail
  go_loopw [7, 8] (fun v t8 wr => ∃ (k : Nat) (o : ByteArray), i ≤ k ∧ k ≤ j ∧ o.size ≤ (k - i) * 401 ∧ Hid (o = bs (Gl.joinL (Gl.part l i k))) ∧ v = .string o ∧ t8 = .int .i64 (k : Int) ∧ w = wr) (fun _ t8 _ => j - (intOf t8).toNat)
  case atStart => exact ⟨i, ⟨#[]⟩, by omega, hij, Nat.zero_le _, by show _ = _; rw [Gl.part_self]; rfl, rfl, rfl, by first | rfl | trivial⟩
  case round =>
    obtain ⟨k, o, hik, hkj, hz, HO, rfl, rfl, rfl⟩ := hrel
    have j0 : (0 : Int) ≤ (k : Int) := by omega
    rcases Nat.lt_or_ge k j with hkn | hkn
    · have i0 : decide ((k : Int) < (j : Int)) = true := by rw [decide_eq_true_eq]; omega
      have hkl : k < l.length := by omega
      have i1 : (k : Int) < (l.length : Int) := by omega
      obtain ⟨g, oo, c, hvl, d0⟩ := HQ.out.str hkl
      obtain ⟨hA, hcc⟩ : A = some ⟨g, oo, none⟩ ∧ cc = c := by injection hvl with e1 _ e3; exact ⟨e1, e3⟩
      subst hA hcc
      clear hvl
      have hxl := HX.out _ (List.getElem_mem hkl)
      have hsn := Lib.hid (Gl.part_snoc l i k hik hkl)
      obtain ⟨x, hxe⟩ : ∃ x, l[k] = x := ⟨_, rfl⟩
      rw [hxe] at d0 hxl hsn
      clear hxe
      have hzx : (bs x).size ≤ 400 := by rw [bs_size]; exact hxl
      have z2 : (⟨#[47]⟩ : ByteArray).size = 1 := rfl
      have hm : (k + 1 - i) * 401 = (k - i) * 401 + 401 := by rw [show k + 1 - i = (k - i) + 1 by omega, Nat.add_mul, Nat.one_mul]
      have hm2 : (k - i) * 401 ≤ 401 * 401 := Nat.mul_le_mul_right _ (by omega)
      rcases Nat.eq_or_lt_of_le hik with he | hlt
      · have t1 : decide ((i : Int) < (k : Int)) = false := by rw [decide_eq_false_iff_not]; omega
        have t1n : decide (i < k) = false := by rw [decide_eq_false_iff_not]; omega
        have HO2 : Hid (o ++ bs x = bs (Gl.joinL (Gl.part l i (k + 1)))) := by
          show _ = _
          have e : Gl.part l i k = [] := by rw [← he]; exact Gl.part_self l i
          rw [hsn.out, HO.out, e, List.nil_append, bs_append]
          rfl
        have hz2 : (o ++ bs x).size ≤ (k + 1 - i) * 401 := by rw [ByteArray.size_append, hm]; omega
        clear he
        go_wp2_with fail
        go_roundw
        case rel => exact ⟨k + 1, _, by omega, by omega, hz2, HO2, rfl, by go_num, by first | rfl | trivial⟩
        case measure => simp [intOf]; omega
      · have t1 : decide ((i : Int) < (k : Int)) = true := by rw [decide_eq_true_eq]; omega
        have t1n : decide (i < k) = true := by rw [decide_eq_true_eq]; omega
        have HO2 : Hid (o ++ ⟨#[47]⟩ ++ bs x = bs (Gl.joinL (Gl.part l i (k + 1)))) := by
          show _ = _
          rw [hsn.out, Gl.joinL_snoc _ _ (Gl.part_ne l i k hlt (by omega)), HO.out, show (⟨#[47]⟩ : ByteArray) = bs [47] from rfl, bs_append, bs_append]
          simp
        have hz2 : (o ++ ⟨#[47]⟩ ++ bs x).size ≤ (k + 1 - i) * 401 := by rw [ByteArray.size_append, ByteArray.size_append, hm, z2]; omega
        go_wp2_with fail
        go_roundw
        case rel => exact ⟨k + 1, _, by omega, by omega, hz2, HO2, rfl, by go_num, by first | rfl | trivial⟩
        case measure => simp [intOf]; omega
    · have i0 : decide ((k : Int) < (j : Int)) = false := by rw [decide_eq_false_iff_not]; omega
      have he : Hid (bs (Gl.joinL (Gl.part l i j)) = o) := by show _ = _; rw [HO.out, show k = j by omega]
      go_wp2_with fail
      go_ret
      exact ⟨by rw [he.out]; rfl, by first | rfl | trivial⟩
end Go.Proofs.YtdjfakampjbgeaaDoor
