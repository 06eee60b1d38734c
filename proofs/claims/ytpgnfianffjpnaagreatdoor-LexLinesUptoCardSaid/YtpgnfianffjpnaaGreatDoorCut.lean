/- Lines and blanks, plain: the pieces between bytes, what is trimmed. -/
import Derived.Test.YtpgnfianffjpnaaGreatDoorOwn
import Derived.Lib.SplitLaws
import Derived.Lib.SlTrimSet
namespace Go.Proofs.YtpgnfianffjpnaaGreatDoor
open Go Go.RowKit
namespace Gl
/-- the pieces between bytes k, the empty ones too. -/
def cutL (k : UInt8) : List UInt8 → List (List UInt8)
  | [] => [[]]
  | c :: r => if c = k then [] :: cutL k r else (c :: (cutL k r).headD []) :: (cutL k r).tail
theorem cutL_ne (k : UInt8) (s : List UInt8) : cutL k s = (cutL k s).headD [] :: (cutL k s).tail := by
  cases s with
  | nil => rfl
  | cons c r => unfold cutL; split <;> rfl
theorem cutL_no (k : UInt8) : ∀ (a : List UInt8), (∀ c ∈ a, c ≠ k) → cutL k a = [a]
  | [], _ => rfl
  | c :: a, h => by
    have hc : ¬ c = k := h c (List.mem_cons_self ..)
    have ih := cutL_no k a (fun x hx => h x (List.mem_cons_of_mem _ hx))
    rw [cutL, if_neg hc, ih]
    rfl
theorem cutL_cut (k : UInt8) : ∀ (a r : List UInt8), (∀ c ∈ a, c ≠ k) → cutL k (a ++ k :: r) = a :: cutL k r
  | [], r, _ => by rw [List.nil_append, cutL, if_pos rfl]
  | c :: a, r, h => by
    have hc : ¬ c = k := h c (List.mem_cons_self ..)
    have ih := cutL_cut k a r (fun x hx => h x (List.mem_cons_of_mem _ hx))
    rw [List.cons_append, cutL, if_neg hc, ih]
    rfl
theorem cutL_length (k : UInt8) : ∀ s : List UInt8, (cutL k s).length ≤ s.length + 1
  | [] => by simp [cutL]
  | c :: r => by
    have ih := cutL_length k r
    rw [cutL]
    split
    · simp; omega
    · simp only [List.length_cons, List.length_tail]; omega
theorem cutL_piece (k : UInt8) : ∀ (s : List UInt8) (x : List UInt8), x ∈ cutL k s → x.length ≤ s.length
  | [], x, h => by simp [cutL] at h; simp [h]
  | c :: r, x, h => by
    have ih := cutL_piece k r
    rw [cutL_ne k r] at ih
    rw [cutL] at h
    split at h
    · rcases List.mem_cons.1 h with rfl | h
      · simp
      · have := cutL_piece k r x h; simp; omega
    · rcases List.mem_cons.1 h with rfl | h
      · have := ih _ (List.mem_cons_self ..); simp only [List.length_cons]; omega
      · have := ih x (List.mem_cons_of_mem _ h); simp; omega
theorem index_byte (k : UInt8) : ∀ (l : List UInt8), (Lib.index l [k] = -1 ∧ ∀ c ∈ l, c ≠ k) ∨ (∃ a r, l = a ++ k :: r ∧ (∀ c ∈ a, c ≠ k) ∧ Lib.index l [k] = (a.length : Int))
  | [] => .inl ⟨rfl, by simp⟩
  | b :: l => by
    by_cases h : b = k
    · subst h
      exact .inr ⟨[], l, rfl, by simp, by simp [Lib.index, List.isPrefixOf]⟩
    · have hp : List.isPrefixOf [k] (b :: l) = false := by
        simp only [List.isPrefixOf, Bool.and_eq_false_iff]
        exact .inl (by simpa using fun e => h e.symm)
      rcases index_byte k l with ⟨h1, h2⟩ | ⟨a, r, h1, h2, h3⟩
      · refine .inl ⟨by simp [Lib.index, hp, h1], fun x hx => ?_⟩
        rcases List.mem_cons.1 hx with rfl | hx
        · exact h
        · exact h2 x hx
      · refine .inr ⟨b :: a, r, by rw [h1]; rfl, fun x hx => ?_, ?_⟩
        · rcases List.mem_cons.1 hx with rfl | hx
          · exact h
          · exact h2 x hx
        · have hne : (Lib.index l [k] == -1) = false := by rw [h3]; simp
          rw [Lib.index, if_neg (by rw [hp]; simp), if_neg (by rw [hne]; simp), h3]
          simp
theorem splitK_cut (k : UInt8) : ∀ (n : Nat) (s : List UInt8), s.length ≤ n → Lib.splitK [k] 0 (s.count k) s = cutL k s
  | n, s, hn => by
    rcases index_byte k s with ⟨h1, h2⟩ | ⟨a, r, h1, h2, h3⟩
    · have hc : s.count k = 0 := List.count_eq_zero.2 fun h => h2 k h rfl
      rw [hc, cutL_no k s h2, Lib.splitK]
    · have hc : s.count k = r.count k + 1 := by
        rw [h1, List.count_append, List.count_cons_self, List.count_eq_zero.2 fun h => h2 k h rfl]
        omega
      have hr : r.length < s.length := by rw [h1, List.length_append, List.length_cons]; omega
      cases n with
      | zero => omega
      | succ n =>
        have ih := splitK_cut k n r (by omega)
        rw [hc, Lib.splitK, h3, if_neg (by rw [beq_iff_eq]; omega)]
        have e1 : s.take (((a.length : Int)).toNat + 0) = a := by rw [h1]; simp
        have e2 : s.drop (((a.length : Int)).toNat + [k].length) = r := by
          rw [h1, Int.toNat_natCast, List.length_singleton, List.drop_append]
          simp
        rw [e1, e2, ih, h1, cutL_cut k a r h2]
/-- spaces, tabs, returns. -/
abbrev bls : List UInt8 := [32, 9, 13]
def trimL (s : List UInt8) : List UInt8 := Lib.trimS s bls
def lft (s : List UInt8) : List UInt8 := Lib.trimLeftS s bls
theorem trim_at (s : List UInt8) (i j : Nat) (hij : i ≤ j) (hj : j ≤ s.length) (h1 : ∀ (x : Nat) b, x < i → s[x]? = some b → bls.contains b = true) (h2 : ∀ b, s[i]? = some b → bls.contains b = false)
    (h3 : ∀ (x : Nat) b, j ≤ x → s[x]? = some b → bls.contains b = true) (h4 : j = i ∨ ∀ b, s[j - 1]? = some b → bls.contains b = false) : trimL s = (s.drop i).take (j - i) := by
  unfold trimL Lib.trimS
  rcases Nat.lt_or_ge i j with hlt | hge
  · rw [Lib.trimRightS_take s bls j hj h3 (fun b _ hb => by
      rcases h4 with h4 | h4
      · omega
      · exact h4 b hb)]
    rw [Lib.trimLeftS_drop (s.take j) bls i (by rw [List.length_take]; omega) (fun x b hx hb => by
      rw [List.getElem?_take, if_pos (by omega)] at hb
      exact h1 x b hx hb) (fun b hb => by
      rw [List.getElem?_take, if_pos hlt] at hb
      exact h2 b hb)]
    rw [List.drop_take]
  · obtain rfl : i = j := by omega
    have hi : i = s.length := by
      rcases Nat.lt_or_ge i s.length with h | h
      · have e := List.getElem?_eq_getElem h
        have q := h3 i _ (Nat.le_refl _) e
        rw [h2 _ e] at q
        cases q
      · omega
    rw [Lib.trimRightS_take s bls 0 (by omega) (fun x b _ hb => h1 x b (by rw [hi]; exact (List.getElem?_eq_some_iff.1 hb).1) hb) (fun b h => by omega)]
    simp [Lib.trimLeftS_nil]
theorem trimL_len (s : List UInt8) : (trimL s).length ≤ s.length := by
  unfold trimL Lib.trimS Lib.trimLeftS Lib.trimRightS
  refine Nat.le_trans (List.dropWhile_sublist _).length_le ?_
  rw [List.length_reverse]
  exact Nat.le_trans (List.dropWhile_sublist _).length_le (by rw [List.length_reverse]; exact Nat.le_refl _)
theorem lft_len (s : List UInt8) : (lft s).length ≤ s.length := (List.dropWhile_sublist _).length_le
theorem rgt_id (s : List UInt8) (h : ∀ b, s.getLast? = some b → bls.contains b = false) : Lib.trimRightS s bls = s := by
  unfold Lib.trimRightS
  have : s.reverse.dropWhile (bls.contains ·) = s.reverse := by
    cases hr : s.reverse with
    | nil => rfl
    | cons b r =>
      have := h b (by rw [List.getLast?_eq_head?_reverse, hr]; rfl)
      rw [List.dropWhile_cons_of_neg (by rw [this]; simp)]
  rw [this, List.reverse_reverse]
theorem rgt_last (s : List UInt8) (b : UInt8) (h : (Lib.trimRightS s bls).getLast? = some b) : bls.contains b = false := by
  unfold Lib.trimRightS at h
  rw [List.getLast?_reverse] at h
  cases hd : s.reverse.dropWhile (bls.contains ·) with
  | nil => rw [hd] at h; cases h
  | cons c r =>
    rw [hd] at h
    injection h with h
    subst h
    have := List.head?_dropWhile_not (bls.contains ·) s.reverse
    rw [hd] at this
    simpa using this
theorem last_lft (s : List UInt8) (b : UInt8) (h : (lft s).getLast? = some b) : s.getLast? = some b := by
  obtain ⟨a, e⟩ : ∃ a, s = a ++ lft s := ⟨s.takeWhile (bls.contains ·), (List.takeWhile_append_dropWhile ..).symm⟩
  rw [e, List.getLast?_append, h]
  rfl
theorem trimL_last (s : List UInt8) (b : UInt8) (h : (trimL s).getLast? = some b) : bls.contains b = false := rgt_last s b (last_lft _ b h)
/-- behind a mark ahead: blanks at one end alone. -/
theorem trim_tail {s r : List UInt8} {c : UInt8} (h : trimL s = c :: r) : trimL r = lft r := by
  unfold trimL Lib.trimS
  rw [rgt_id r (fun b hb => trimL_last s b (by
    rw [h, List.getLast?_cons, hb]
    rfl))]
  rfl
end Gl
end Go.Proofs.YtpgnfianffjpnaaGreatDoor
