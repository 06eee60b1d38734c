/- Names joined, plain; stratalaw02.joined, walked. -/
import Derived.Test.YtdjfakampjbgeaaDoorGqB
import Derived.Test.YtdjfakampjbgeaaDoorGoF
namespace Go.Proofs.YtdjfakampjbgeaaDoor
open Go.RowKit
namespace Gl
/-- names, with a slash between. -/
def joinL : List (List UInt8) → List UInt8
  | [] => []
  | [x] => x
  | x :: y :: r => x ++ 47 :: joinL (y :: r)
theorem joinL_snoc : ∀ (a : List (List UInt8)) (x : List UInt8), a ≠ [] → joinL (a ++ [x]) = joinL a ++ 47 :: x
  | [], _, h => absurd rfl h
  | [y], x, _ => rfl
  | y :: z :: r, x, _ => by
    have ih := joinL_snoc (z :: r) x (by simp)
    show y ++ 47 :: joinL (z :: r ++ [x]) = (y ++ 47 :: joinL (z :: r)) ++ 47 :: x
    rw [ih]
    simp
theorem names_one {x : List UInt8} (h : x ≠ []) (hs : ∀ c ∈ x, c ≠ 47) : namesL x = [x] := by
  rw [namesL, splitL_no x hs]
  cases x with
  | nil => exact absurd rfl h
  | cons c x => rfl
theorem names_join : ∀ (l : List (List UInt8)), (∀ x ∈ l, x ≠ [] ∧ ∀ c ∈ x, c ≠ 47) → namesL (joinL l) = l
  | [], _ => rfl
  | [x], h => names_one (h x (List.mem_cons_self ..)).1 (h x (List.mem_cons_self ..)).2
  | x :: y :: r, h => by
    have hx := h x (List.mem_cons_self ..)
    have ih := names_join (y :: r) (fun z hz => h z (List.mem_cons_of_mem _ hz))
    show namesL (x ++ 47 :: joinL (y :: r)) = _
    rw [names_app, names_one hx.1 hx.2, ih]
    rfl
theorem joinL_length (B : Nat) : ∀ (l : List (List UInt8)), (∀ x ∈ l, x.length ≤ B) → (joinL l).length ≤ l.length * (B + 1)
  | [], _ => by simp [joinL]
  | [x], h => by have := h x (List.mem_cons_self ..); show x.length ≤ 1 * (B + 1); omega
  | x :: y :: r, h => by
    have hx := h x (List.mem_cons_self ..)
    have ih := joinL_length B (y :: r) (fun z hz => h z (List.mem_cons_of_mem _ hz))
    show (x ++ 47 :: joinL (y :: r)).length ≤ _
    rw [List.length_append, List.length_cons, List.length_cons, Nat.add_mul, Nat.one_mul]
    omega
/-- the names from i up to j. -/
def part (l : List (List UInt8)) (i j : Nat) : List (List UInt8) := (l.drop i).take (j - i)
theorem part_snoc (l : List (List UInt8)) (i k : Nat) (hi : i ≤ k) (h : k < l.length) : part l i (k + 1) = part l i k ++ [l[k]] := by
  have h2 : k - i < (l.drop i).length := by rw [List.length_drop]; omega
  rw [part, part, show k + 1 - i = k - i + 1 by omega, List.take_add_one, List.getElem?_eq_getElem h2]
  congr 1
  simp only [List.getElem_drop, Option.toList_some, List.cons.injEq, and_true]
  simp only [show i + (k - i) = k by omega]
theorem part_self (l : List (List UInt8)) (i : Nat) : part l i i = [] := by rw [part, Nat.sub_self, List.take_zero]
theorem part_ne (l : List (List UInt8)) (i k : Nat) (h : i < k) (hk : k ≤ l.length) : part l i k ≠ [] := by
  intro e
  have := congrArg List.length e
  rw [part, List.length_take, List.length_drop] at this
  simp at this
  omega
theorem part_mem {l : List (List UInt8)} {i j : Nat} {x : List UInt8} (h : x ∈ part l i j) : x ∈ l := List.mem_of_mem_drop (List.mem_of_mem_take h)
theorem part_all (l : List (List UInt8)) (i : Nat) : part l i l.length = l.drop i := by rw [part, List.take_of_length_le (by rw [List.length_drop]; omega)]
theorem part_zero (l : List (List UInt8)) (j : Nat) : part l 0 j = l.take j := by rw [part, List.drop_zero, Nat.sub_zero]
end Gl
set_option maxRecDepth 100000 in
set_option maxHeartbeats 1000000 in
theorem joined_any (l : List (List UInt8)) (vl : Value) (w : World) {S : Nat → Prop} (hq : RC w S vl l.length (sc l)) (hl : l.length ≤ 401) (hx : ∀ x ∈ l, x.length ≤ 400) (i j : Nat) (hij : i ≤ j) (hj : j ≤ l.length) :
    Calls Tryd.prog 16 #[vl, .int .i64 (i : Int), .int .i64 (j : Int)] w fun e w' => e = .returned (.string (bs (Gl.joinL (Gl.part l i j)))) ∧ w = w' := by
  obtain ⟨A, cc, rfl⟩ := hq.form
  have HQ := Lib.hid hq
  have HX := Lib.hid hx
  clear hq hx
  go_enter Tryd.func16, Tryd.ntmps16
  go_wp2_with fail
  go_loopw [7, 8] (fun v t8 wr => ∃ (k : Nat) (o : ByteArray), i ≤ k ∧ k ≤ j ∧ o.size ≤ (k - i) * 401 ∧ Hid (o = bs (Gl.joinL (Gl.part l i k))) ∧ v = .string o ∧ t8 = .int .i64 (k : Int) ∧ w = wr) (fun _ t8 _ => j - (intOf t8).toNat)
  case atStart => exact ⟨i, ⟨#[]⟩, by omega, hij, Nat.zero_le _, by show _ = _; rw [Gl.part_self]; rfl, rfl, rfl, by first | rfl | trivial⟩
  case round =>
    obtain ⟨k, o, hik, hkj, hz, HO, rfl, rfl, rfl⟩ := hrel
    have j0 : (0 : Int) ≤ (k : Int) := by omega
    rcases Nat.lt_or_ge k j with hkn | hkn
    · have i0 : decide ((k : Int) < (j : Int)) = true := by rw [decide_eq_true_eq]; omega
      have hkl : k < l.length := by omega
      have i1 : (k : Int) < (l.length : Int) := by omega
      obtain ⟨g, oo, c, hvl, d0⟩ := HQ.out.str hkl
      obtain ⟨hA, hcc⟩ : A = some ⟨g, oo, none⟩ ∧ cc = c := by injection hvl with e1 _ e3; exact ⟨e1, e3⟩
      subst hA hcc
      clear hvl
      have hxl := HX.out _ (List.getElem_mem hkl)
      have hsn := Lib.hid (Gl.part_snoc l i k hik hkl)
      obtain ⟨x, hxe⟩ : ∃ x, l[k] = x := ⟨_, rfl⟩
      rw [hxe] at d0 hxl hsn
      clear hxe
      have hzx : (bs x).size ≤ 400 := by rw [bs_size]; exact hxl
      have z2 : (⟨#[47]⟩ : ByteArray).size = 1 := rfl
      have hm : (k + 1 - i) * 401 = (k - i) * 401 + 401 := by rw [show k + 1 - i = (k - i) + 1 by omega, Nat.add_mul, Nat.one_mul]
      have hm2 : (k - i) * 401 ≤ 401 * 401 := Nat.mul_le_mul_right _ (by omega)
      rcases Nat.eq_or_lt_of_le hik with he | hlt
      · have t1 : decide ((i : Int) < (k : Int)) = false := by rw [decide_eq_false_iff_not]; omega
        have t1n : decide (i < k) = false := by rw [decide_eq_false_iff_not]; omega
        have HO2 : Hid (o ++ bs x = bs (Gl.joinL (Gl.part l i (k + 1)))) := by
          show _ = _
          have e : Gl.part l i k = [] := by rw [← he]; exact Gl.part_self l i
          rw [hsn.out, HO.out, e, List.nil_append, bs_append]
          rfl
        have hz2 : (o ++ bs x).size ≤ (k + 1 - i) * 401 := by rw [ByteArray.size_append, hm]; omega
        clear he
        go_wp2_with fail
        go_roundw
        case rel => exact ⟨k + 1, _, by omega, by omega, hz2, HO2, rfl, by go_num, by first | rfl | trivial⟩
        case measure => simp [intOf]; omega
      · have t1 : decide ((i : Int) < (k : Int)) = true := by rw [decide_eq_true_eq]; omega
        have t1n : decide (i < k) = true := by rw [decide_eq_true_eq]; omega
        have HO2 : Hid (o ++ ⟨#[47]⟩ ++ bs x = bs (Gl.joinL (Gl.part l i (k + 1)))) := by
          show _ = _
          rw [hsn.out, Gl.joinL_snoc _ _ (Gl.part_ne l i k hlt (by omega)), HO.out, show (⟨#[47]⟩ : ByteArray) = bs [47] from rfl, bs_append, bs_append]
          simp
        have hz2 : (o ++ ⟨#[47]⟩ ++ bs x).size ≤ (k + 1 - i) * 401 := by rw [ByteArray.size_append, ByteArray.size_append, hm, z2]; omega
        go_wp2_with fail
        go_roundw
        case rel => exact ⟨k + 1, _, by omega, by omega, hz2, HO2, rfl, by go_num, by first | rfl | trivial⟩
        case measure => simp [intOf]; omega
    · have i0 : decide ((k : Int) < (j : Int)) = false := by rw [decide_eq_false_iff_not]; omega
      have he : Hid (bs (Gl.joinL (Gl.part l i j)) = o) := by show _ = _; rw [HO.out, show k = j by omega]
      go_wp2_with fail
      go_ret
      exact ⟨by rw [he.out]; rfl, by first | rfl | trivial⟩
end Go.Proofs.YtdjfakampjbgeaaDoor
/- GlobLast: the plain law; stratalaw02.without, joined, meets, walked. -/
namespace Go.Proofs.YtdjfakampjbgeaaDoor
open Go Go.RowKit
namespace Gl
theorem cutL_app (k : UInt8) (b : List UInt8) : ∀ a : List UInt8, cutL k (a ++ k :: b) = cutL k a ++ cutL k b
  | [] => by
    show cutL k (k :: b) = [] :: cutL k b
    simp [cutL]
  | c :: a => by
    have ih := cutL_app k b a
    rw [List.cons_append, cutL, cutL]
    by_cases h : c = k
    · rw [if_pos h, if_pos h, ih]; rfl
    · rw [if_neg h, if_neg h, ih, cutL_ne k a]
      rfl
theorem parseA_app : ∀ (ls ms : List (List UInt8)) (i : Nat) (acc rs : List Rl), parseA ls i acc = .inr rs → parseA (ls ++ ms) i acc = parseA ms (i + ls.length) rs
  | [], ms, i, acc, rs, h => by rw [parseA] at h; injection h with h; subst h; rfl
  | l :: ls, ms, i, acc, rs, h => by
    rw [List.cons_append]
    have e : i + (l :: ls).length = i + 1 + ls.length := by rw [List.length_cons]; omega
    cases hr : ruleOf l with
    | none =>
      rw [parseA_skip hr] at h ⊢
      rw [parseA_app ls ms _ _ _ h, e]
    | some bq =>
      obtain ⟨b, q⟩ := bq
      by_cases hm : 256 ≤ acc.length
      · rw [parseA_many hr hm] at h; cases h
      · cases hq : readL q with
        | none => rw [parseA_none hr hm hq] at h; cases h
        | some ps =>
          rw [parseA_some hr hm hq] at h ⊢
          rw [parseA_app ls ms _ _ _ h, e]
theorem one_none {x : List UInt8} {i : Nat} {rs ra : List Rl} (hr : ruleOf x = none) (h : parseA [x] i rs = .inr ra) : ra = rs := by
  rw [parseA_skip hr, parseA] at h
  injection h with h
  exact h.symm
theorem one_some {x : List UInt8} {i : Nat} {rs ra : List Rl} {b : Bool} {q : List UInt8} (hr : ruleOf x = some (b, q)) (h : parseA [x] i rs = .inr ra) : ∃ ps, readL q = some ps ∧ ra = rs ++ [⟨b, q, ps⟩] := by
  by_cases hm : 256 ≤ rs.length
  · rw [parseA_many hr hm] at h; cases h
  · cases hq : readL q with
    | none => rw [parseA_none hr hm hq] at h; cases h
    | some ps =>
      rw [parseA_some hr hm hq, parseA] at h
      injection h with h
      exact ⟨ps, rfl, h.symm⟩
theorem rgt_cons {c : UInt8} (hc : bls.contains c = false) (P : List UInt8) : Lib.trimRightS (c :: P) bls = c :: Lib.trimRightS P bls := by
  unfold Lib.trimRightS
  rw [List.reverse_cons, List.dropWhile_append]
  split
  · next h =>
    rw [List.isEmpty_iff.1 h, List.dropWhile_cons_of_neg (by rw [hc]; simp)]
    rfl
  · rw [List.reverse_append]
    rfl
/-- a line with a mark ahead. -/
theorem ruleOf_back (P : List UInt8) : ruleOf (33 :: P) = some (true, trimL P) := by
  have e : trimL (33 :: P) = 33 :: Lib.trimRightS P bls := by
    unfold trimL Lib.trimS
    rw [rgt_cons (by decide)]
    unfold Lib.trimLeftS
    rw [List.dropWhile_cons_of_neg (by decide)]
  rw [ruleOf, e]
  simp only [if_neg (show ¬ (33 : UInt8) = 35 by decide), if_pos]
  rfl
theorem names_ok2 (s : List UInt8) : ∀ x ∈ namesL s, x ≠ [] ∧ ∀ c ∈ x, c ≠ 47 := fun _ h => ⟨namesL_ne h, namesL_slash h⟩
theorem match_join2 {a : List UInt8} {ps : List Pc} {l : List (List UInt8)} (h : readL a = some ps) (hl : ∀ x ∈ l, x ≠ [] ∧ ∀ c ∈ x, c ≠ 47) (i j : Nat) : matchL a (joinL (part l i j)) = some (takesAll ps (part l i j)) := by
  rw [matchL, h, names_join _ (fun x hx => hl x (part_mem hx))]
  rfl
theorem join_len2 {l : List (List UInt8)} (h : l.length ≤ 1001) (hx : ∀ x ∈ l, x.length ≤ 1000) (i j : Nat) : (joinL (part l i j)).length ≤ 1002001 := by
  have h1 := joinL_length 1000 (part l i j) (fun x m => hx x (part_mem m))
  have h2 : (part l i j).length ≤ 1001 := by rw [part, List.length_take, List.length_drop]; omega
  have h3 : (part l i j).length * (1000 + 1) ≤ 1001 * 1001 := Nat.mul_le_mul h2 (Nat.le_refl _)
  omega
/-- a text without line ends. -/
def flatL (s : List UInt8) : List UInt8 := s.filter fun c => c != 10
theorem flat_no (s : List UInt8) : ∀ c ∈ flatL s, c ≠ 10 := fun c h => by
  have := (List.mem_filter.1 h).2
  simpa using this
theorem flat_len (s : List UInt8) : (flatL s).length ≤ s.length := List.length_filter_le _ _
theorem flat_snoc (s : List UInt8) (c : UInt8) : flatL (s ++ [c]) = flatL s ++ if c = 10 then [] else [c] := by
  rw [flatL, List.filter_append]
  congr 1
  by_cases h : c = 10
  · rw [if_pos h, h]; rfl
  · rw [if_neg h]; simp [h]
end Gl
set_option maxRecDepth 100000 in
set_option maxHeartbeats 1000000 in
theorem joined2_any (l : List (List UInt8)) (vl : Value) (w : World) {S : Nat → Prop} (hq : RC w S vl l.length (sc l)) (hl : l.length ≤ 1001) (hx : ∀ x ∈ l, x.length ≤ 1000) (i j : Nat) (hij : i ≤ j) (hj : j ≤ l.length) :
    Calls Tryd.prog 16 #[vl, .int .i64 (i : Int), .int .i64 (j : Int)] w fun e w' => e = .returned (.string (bs (Gl.joinL (Gl.part l i j)))) ∧ w = w' := by
  obtain ⟨A, cc, rfl⟩ := hq.form
  have HQ := Lib.hid hq
  have HX := Lib.hid hx
  clear hq hx
  go_enter Tryd.func16, Tryd.ntmps16
  go_wp2_with fail
  go_loopw [7, 8] (fun v t8 wr => ∃ (k : Nat) (o : ByteArray), i ≤ k ∧ k ≤ j ∧ o.size ≤ (k - i) * 1001 ∧ Hid (o = bs (Gl.joinL (Gl.part l i k))) ∧ v = .string o ∧ t8 = .int .i64 (k : Int) ∧ w = wr) (fun _ t8 _ => j - (intOf t8).toNat)
  case atStart => exact ⟨i, ⟨#[]⟩, by omega, hij, Nat.zero_le _, by show _ = _; rw [Gl.part_self]; rfl, rfl, rfl, by first | rfl | trivial⟩
  case round =>
    obtain ⟨k, o, hik, hkj, hz, HO, rfl, rfl, rfl⟩ := hrel
    have j0 : (0 : Int) ≤ (k : Int) := by omega
    rcases Nat.lt_or_ge k j with hkn | hkn
    · have i0 : decide ((k : Int) < (j : Int)) = true := by rw [decide_eq_true_eq]; omega
      have hkl : k < l.length := by omega
      have i1 : (k : Int) < (l.length : Int) := by omega
      obtain ⟨g, oo, c, hvl, d0⟩ := HQ.out.str hkl
      obtain ⟨hA, hcc⟩ : A = some ⟨g, oo, none⟩ ∧ cc = c := by injection hvl with e1 _ e3; exact ⟨e1, e3⟩
      subst hA hcc
      clear hvl
      have hxl := HX.out _ (List.getElem_mem hkl)
      have hsn := Lib.hid (Gl.part_snoc l i k hik hkl)
      obtain ⟨x, hxe⟩ : ∃ x, l[k] = x := ⟨_, rfl⟩
      rw [hxe] at d0 hxl hsn
      clear hxe
      have hzx : (bs x).size ≤ 1000 := by rw [bs_size]; exact hxl
      have z2 : (⟨#[47]⟩ : ByteArray).size = 1 := rfl
      have hm : (k + 1 - i) * 1001 = (k - i) * 1001 + 1001 := by rw [show k + 1 - i = (k - i) + 1 by omega, Nat.add_mul, Nat.one_mul]
      have hm2 : (k - i) * 1001 ≤ 1001 * 1001 := Nat.mul_le_mul_right _ (by omega)
      rcases Nat.eq_or_lt_of_le hik with he | hlt
      · have t1 : decide ((i : Int) < (k : Int)) = false := by rw [decide_eq_false_iff_not]; omega
        have t1n : decide (i < k) = false := by rw [decide_eq_false_iff_not]; omega
        have HO2 : Hid (o ++ bs x = bs (Gl.joinL (Gl.part l i (k + 1)))) := by
          show _ = _
          have e : Gl.part l i k = [] := by rw [← he]; exact Gl.part_self l i
          rw [hsn.out, HO.out, e, List.nil_append, bs_append]
          rfl
        have hz2 : (o ++ bs x).size ≤ (k + 1 - i) * 1001 := by rw [ByteArray.size_append, hm]; omega
        clear he
        go_wp2_with fail
        go_roundw
        case rel => exact ⟨k + 1, _, by omega, by omega, hz2, HO2, rfl, by go_num, by first | rfl | trivial⟩
        case measure => simp [intOf]; omega
      · have t1 : decide ((i : Int) < (k : Int)) = true := by rw [decide_eq_true_eq]; omega
        have t1n : decide (i < k) = true := by rw [decide_eq_true_eq]; omega
        have HO2 : Hid (o ++ ⟨#[47]⟩ ++ bs x = bs (Gl.joinL (Gl.part l i (k + 1)))) := by
          show _ = _
          rw [hsn.out, Gl.joinL_snoc _ _ (Gl.part_ne l i k hlt (by omega)), HO.out, show (⟨#[47]⟩ : ByteArray) = bs [47] from rfl, bs_append, bs_append]
          simp
        have hz2 : (o ++ ⟨#[47]⟩ ++ bs x).size ≤ (k + 1 - i) * 1001 := by rw [ByteArray.size_append, ByteArray.size_append, hm, z2]; omega
        go_wp2_with fail
        go_roundw
        case rel => exact ⟨k + 1, _, by omega, by omega, hz2, HO2, rfl, by go_num, by first | rfl | trivial⟩
        case measure => simp [intOf]; omega
    · have i0 : decide ((k : Int) < (j : Int)) = false := by rw [decide_eq_false_iff_not]; omega
      have he : Hid (bs (Gl.joinL (Gl.part l i j)) = o) := by show _ = _; rw [HO.out, show k = j by omega]
      go_wp2_with fail
      go_ret
      exact ⟨by rw [he.out]; rfl, by first | rfl | trivial⟩
theorem joined2_at (l : List (List UInt8)) (A : Option Addr) (c : Nat) (w : World) {S : Nat → Prop} (hq : RC w S (.slice A l.length c) l.length (sc l)) (hl : l.length ≤ 1001) (hx : ∀ x ∈ l, x.length ≤ 1000) (j : Nat) (hj : j ≤ l.length) {t : List UInt8} (H : Hid (Gl.joinL (Gl.part l 0 j) = t)) :
    Calls Tryd.prog 16 #[.slice A l.length c, .int .i64 0, .int .i64 (j : Int)] w fun e w' => e = .returned (.string (bs t)) ∧ w = w' := by
  rw [← H.out]
  exact joined2_any l _ w hq hl hx 0 j (Nat.zero_le _) hj
set_option maxRecDepth 100000 in
set_option maxHeartbeats 1000000 in
theorem without_any (s : ByteArray) (hs : s.size ≤ 2000000) (w : World) {t : List UInt8} (H : Hid (Gl.flatL (bl s) = t)) : Calls Tryd.prog 26 #[.string s] w fun e w' => e = .returned (.string (bs t)) ∧ w = w' := by
  go_enter Tryd.func26, Tryd.ntmps26
  go_wp2_with fail
  go_loopw [3, 4] (fun v i wr => ∃ (k : Nat) (o : ByteArray), k ≤ s.size ∧ o.size ≤ k ∧ Hid (o = bs (Gl.flatL ((bl s).take k))) ∧ v = .string o ∧ i = .int .i64 (k : Int) ∧ w = wr) (fun _ i _ => s.size - (intOf i).toNat)
  case atStart => exact ⟨0, ⟨#[]⟩, by omega, by decide, rfl, rfl, rfl, by first | rfl | trivial⟩
  case round =>
    obtain ⟨k, o, hk, hz, HO, rfl, rfl, rfl⟩ := hrel
    have j0 : (0 : Int) ≤ (k : Int) := by omega
    rcases Nat.lt_or_ge k s.size with hkn | hkn
    · have i0 : decide ((k : Int) < (s.size : Int)) = true := by rw [decide_eq_true_eq]; omega
      have i1 : (k : Int) < (s.size : Int) := by omega
      have hb : (s[k]).toNat < 256 := (s[k]).toNat_lt
      have hsl := slice_lit s k (k + 1) (k : Int) ((k : Int) + 1) rfl (by omega) (by omega) (by omega)
      have e : s.extract k (k + 1) = bs [s[k]] := by rw [ext_bs, bl_drop_cons s k hkn, show k + 1 - k = 1 by omega]; rfl
      rw [e] at hsl
      clear e
      have z1 : (bs [s[k]]).size = 1 := rfl
      by_cases hc : s[k] = 10
      · have t0 : (((s[k]).toNat : Int) != 10) = false := by rw [hc]; rfl
        have HO2 : Hid (o = bs (Gl.flatL ((bl s).take (k + 1)))) := by
          show _ = _
          rw [take_snoc s k hkn, Gl.flat_snoc, if_pos hc, List.append_nil, ← HO.out]
        clear hc
        go_wp2_with fail
        go_roundw
        case rel => exact ⟨k + 1, _, by omega, by omega, HO2, rfl, by go_num, by first | rfl | trivial⟩
        case measure => simp [intOf]; omega
      · have t0 : (((s[k]).toNat : Int) != 10) = true := by
          simp only [bne_iff_ne, ne_eq]
          exact fun e => hc (UInt8.toNat_inj.1 (by rw [show (10 : UInt8).toNat = 10 from rfl]; omega))
        have HO2 : Hid (o ++ bs [s[k]] = bs (Gl.flatL ((bl s).take (k + 1)))) := by
          show _ = _
          rw [take_snoc s k hkn, Gl.flat_snoc, if_neg hc, ← bs_append, ← HO.out]
        have hz2 : (o ++ bs [s[k]]).size ≤ k + 1 := by rw [ByteArray.size_append, z1]; omega
        clear hc
        go_wp2_with fail
        go_roundw
        case rel => exact ⟨k + 1, _, by omega, hz2, HO2, rfl, by go_num, by first | rfl | trivial⟩
        case measure => simp [intOf]; omega
    · have i0 : decide ((k : Int) < (s.size : Int)) = false := by rw [decide_eq_false_iff_not]; omega
      have he : Hid (bs t = o) := by show _ = _; rw [HO.out, ← H.out, List.take_of_length_le (by rw [bl_length]; exact hkn)]
      go_wp2_with fail
      go_ret
      exact ⟨by rw [he.out]; rfl, by first | rfl | trivial⟩
set_option maxRecDepth 100000 in
set_option maxHeartbeats 2000000 in
theorem meets2_any (q x : List UInt8) (hq : q.length ≤ 1100000) (hx : x.length ≤ 1000) {ps : List Gl.Pc} (HP : Hid (Gl.readL q = some ps)) (w : World) (hm : Maxl w) {b : Bool} (H : Hid (Gl.meetsL ps (Gl.namesL x) = b)) :
    Calls Tryd.prog 28 #[.string (bs q), .string (bs x)] w fun e w' => e = .returned (.bool b) ∧ Below w.heap.size w w' := by
  obtain ⟨l, hl⟩ : ∃ l, Hid (Gl.namesL x = l) := ⟨_, Lib.hid rfl⟩
  have hok : Hid (∀ x ∈ l, x ≠ [] ∧ ∀ c ∈ x, c ≠ 47) := by rw [← hl.out]; exact Lib.hid (Gl.names_ok2 x)
  have hxl : Hid (∀ x ∈ l, x.length ≤ 1000) := Lib.hid fun y hy => by
    rw [← hl.out] at hy
    have := Gl.namesL_piece hy
    omega
  have hll : l.length ≤ 1001 := by have := Gl.namesL_length x; rw [hl.out] at this; omega
  have H2 : Hid (Gl.meetsL ps l = b) := by show _ = _; rw [← hl.out]; exact H.out
  clear H
  go_enter Tryd.func28, Tryd.ntmps28
  go_wp2_with fail
  refine (refNames_at x (by omega) _ hl).mono ?_
  rintro e w2 ⟨A, c, rfl, hv, b2⟩
  have HQ := Lib.hid (show RC w2 (· < w2.heap.size) (.slice A l.length c) l.length (sc l) from RC.own hv (fun g e => own_lt hv g e))
  have hm2 := hm.below b2 hm.lt
  clear hv
  go_wp2_with fail
  go_loopw [6, 7, 8] (fun t6 _ _ wr => ∃ k : Nat, k ≤ l.length + 1 ∧ t6 = .int .i64 (k : Int) ∧ Hid (∀ i, i < k → Gl.takesAll ps (l.take i) = false) ∧ Below w2.heap.size w2 wr) (fun t6 _ _ _ => l.length + 1 - (intOf t6).toNat)
  case atStart => exact ⟨0, by omega, rfl, Lib.hid (fun i h => by omega), Below.refl _ _⟩
  case round =>
    obtain ⟨k, hk, rfl, HN, hB⟩ := hrel
    have j0 : (0 : Int) ≤ (k : Int) := by omega
    rcases Nat.lt_or_ge l.length k with hkn | hkn
    · have i0n : decide (k ≤ l.length) = false := by rw [decide_eq_false_iff_not]; omega
      have i0 : decide ((k : Int) ≤ (l.length : Int)) = false := by rw [decide_eq_false_iff_not]; omega
      have hR : Hid (b = false) := by show _ = _; rw [← H2.out]; exact Gl.meets_false fun i hi => HN.out i (by omega)
      clear HN
      go_wp2_with fail
      go_ret
      exact ⟨by rw [hR.out]; rfl, below_of_below b2 hB b2.size⟩
    · have i0n : decide (k ≤ l.length) = true := by rw [decide_eq_true_eq]; omega
      have i0 : decide ((k : Int) ≤ (l.length : Int)) = true := by rw [decide_eq_true_eq]; omega
      have hQ := HQ.out.below hB
      have hm3 := hm2.below hB hm2.lt
      obtain ⟨u, hu⟩ : ∃ u, Hid (Gl.joinL (Gl.part l 0 k) = u) := ⟨_, Lib.hid rfl⟩
      obtain ⟨t, ht⟩ : ∃ t, Hid (Gl.takesAll ps (l.take k) = t) := ⟨_, Lib.hid rfl⟩
      have hul : u.length ≤ 1100000 := by have := Gl.join_len2 hll hxl.out 0 k; rw [hu.out] at this; omega
      have HM : Hid (Gl.matchL q u = some t) := by
        show _ = _
        rw [← hu.out, Gl.match_join2 HP.out hok.out 0 k, Gl.part_zero, ht.out]
      have HQk := Lib.hid hQ
      clear hQ
      cases t with
      | true =>
        have hR : Hid (b = true) := by show _ = _; rw [← H2.out]; exact Gl.meets_true hkn ht.out
        clear HN
        go_wp2_with fail
        refine (joined2_at l A c _ HQk.out hll hxl.out k hkn hu).mono ?_
        rintro e w3 ⟨rfl, rfl⟩
        go_wp2_with fail
        refine (match_some q u hq hul _ hm3 HM).mono ?_
        rintro e w4 ⟨rfl, b4⟩
        go_wp2_with fail
        go_ret
        exact ⟨by rw [hR.out]; rfl, below_of_below b2 (below_of_below hB b4 hB.size) b2.size⟩
      | false =>
        have HN2 : Hid (∀ i, i < k + 1 → Gl.takesAll ps (l.take i) = false) := Lib.hid fun i hi => by
          by_cases h : i = k
          · rw [h]; exact ht.out
          · exact HN.out i (by omega)
        clear HN
        go_wp2_with fail
        refine (joined2_at l A c _ HQk.out hll hxl.out k hkn hu).mono ?_
        rintro e w3 ⟨rfl, rfl⟩
        go_wp2_with fail
        refine (match_some q u hq hul _ hm3 HM).mono ?_
        rintro e w4 ⟨rfl, b4⟩
        go_wp2_with fail
        go_roundw
        case rel => exact ⟨k + 1, by omega, by go_num, HN2, below_of_below hB b4 hB.size⟩
        case measure => simp [intOf]; omega
end Go.Proofs.YtdjfakampjbgeaaDoor
