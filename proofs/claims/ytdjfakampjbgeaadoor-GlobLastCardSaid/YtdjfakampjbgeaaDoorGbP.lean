/- Names of a text, plain: pieces between slashes. -/
import Derived.Lib.IndexMore
namespace Go.Proofs.YtdjfakampjbgeaaDoor.Gl

/-- all pieces of a text, the empty ones too. -/
def splitL : List UInt8 → List (List UInt8)
  | [] => [[]]
  | c :: r => if c = 47 then [] :: splitL r else (c :: (splitL r).headD []) :: (splitL r).tail
theorem splitL_ne (s : List UInt8) : splitL s = (splitL s).headD [] :: (splitL s).tail := by
  cases s with
  | nil => rfl
  | cons c r => unfold splitL; split <;> rfl
theorem splitL_no : ∀ (a : List UInt8), (∀ c ∈ a, c ≠ 47) → splitL a = [a]
  | [], _ => rfl
  | c :: a, h => by
    have hc : ¬ c = 47 := h c (List.mem_cons_self ..)
    have ih := splitL_no a (fun x hx => h x (List.mem_cons_of_mem _ hx))
    rw [splitL, if_neg hc, ih]
    rfl
theorem splitL_cut : ∀ (a r : List UInt8), (∀ c ∈ a, c ≠ 47) → splitL (a ++ 47 :: r) = a :: splitL r
  | [], r, _ => by rw [List.nil_append, splitL, if_pos rfl]
  | c :: a, r, h => by
    have hc : ¬ c = 47 := h c (List.mem_cons_self ..)
    have ih := splitL_cut a r (fun x hx => h x (List.mem_cons_of_mem _ hx))
    rw [List.cons_append, splitL, if_neg hc, ih]
    rfl
/-- the pieces that are not empty. -/
def namesL (s : List UInt8) : List (List UInt8) := (splitL s).filter fun x => !x.isEmpty
/-- the same, letter by letter; cur: what stands of the piece. -/
def nm : List UInt8 → List UInt8 → List (List UInt8)
  | cur, [] => if cur = [] then [] else [cur]
  | cur, c :: r => if c = 47 then (if cur = [] then nm [] r else cur :: nm [] r) else nm (cur ++ [c]) r
theorem nm_eq : ∀ (s cur : List UInt8), nm cur s = ((cur ++ (splitL s).headD []) :: (splitL s).tail).filter fun x => !x.isEmpty
  | [], cur => by
    rw [nm, splitL]
    cases cur <;> simp
  | c :: r, cur => by
    rw [nm]
    by_cases hc : c = 47
    · rw [if_pos hc, splitL, if_pos hc, nm_eq r [], List.nil_append, ← splitL_ne r]
      cases cur <;> simp
    · rw [if_neg hc, splitL, if_neg hc, nm_eq r (cur ++ [c])]
      simp
theorem nm_nil (s : List UInt8) : nm [] s = namesL s := by rw [nm_eq, List.nil_append, ← splitL_ne]; rfl

theorem index_slash : ∀ (l : List UInt8), (Lib.index l [47] = -1 ∧ ∀ c ∈ l, c ≠ 47) ∨ (∃ a r, l = a ++ 47 :: r ∧ (∀ c ∈ a, c ≠ 47) ∧ Lib.index l [47] = (a.length : Int))
  | [] => .inl ⟨rfl, by simp⟩
  | b :: l => by
    by_cases h : b = 47
    · subst h
      exact .inr ⟨[], l, rfl, by simp, by simp [Lib.index, List.isPrefixOf]⟩
    · have hp : List.isPrefixOf [47] (b :: l) = false := by
        simp only [List.isPrefixOf, Bool.and_eq_false_iff]
        exact .inl (by simpa using fun e => h e.symm)
      rcases index_slash l with ⟨h1, h2⟩ | ⟨a, r, h1, h2, h3⟩
      · refine .inl ⟨by simp [Lib.index, hp, h1], fun x hx => ?_⟩
        rcases List.mem_cons.1 hx with rfl | hx
        · exact h
        · exact h2 x hx
      · refine .inr ⟨b :: a, r, by rw [h1]; rfl, fun x hx => ?_, ?_⟩
        · rcases List.mem_cons.1 hx with rfl | hx
          · exact h
          · exact h2 x hx
        · have hne : (Lib.index l [47] == -1) = false := by rw [h3]; simp
          rw [Lib.index, if_neg (by rw [hp]; simp), if_neg (by rw [hne]; simp), h3]
          simp
theorem cut_slash (l : List UInt8) : (Lib.cut l [47] = (l, [], false) ∧ ∀ c ∈ l, c ≠ 47) ∨ (∃ a r, l = a ++ 47 :: r ∧ (∀ c ∈ a, c ≠ 47) ∧ Lib.cut l [47] = (a, r, true)) := by
  rcases index_slash l with ⟨h1, h2⟩ | ⟨a, r, h1, h2, h3⟩
  · exact .inl ⟨by simp [Lib.cut, h1], h2⟩
  · refine .inr ⟨a, r, h1, h2, ?_⟩
    rw [Lib.cut, if_pos (by omega), h3]
    subst h1
    simp
theorem splitL_length : ∀ s : List UInt8, (splitL s).length ≤ s.length + 1
  | [] => by simp [splitL]
  | c :: r => by
    have ih := splitL_length r
    rw [splitL]
    split
    · simp; omega
    · simp only [List.length_cons, List.length_tail]; omega
theorem namesL_length (s : List UInt8) : (namesL s).length ≤ s.length + 1 := Nat.le_trans (List.length_filter_le _ _) (splitL_length s)
theorem splitL_piece : ∀ (s : List UInt8) (x : List UInt8), x ∈ splitL s → x.length ≤ s.length
  | [], x, h => by simp [splitL] at h; simp [h]
  | c :: r, x, h => by
    have ih := splitL_piece r
    rw [splitL_ne r] at ih
    rw [splitL] at h
    split at h
    · rcases List.mem_cons.1 h with rfl | h
      · simp
      · have := splitL_piece r x h; simp; omega
    · rcases List.mem_cons.1 h with rfl | h
      · have := ih _ (List.mem_cons_self ..); simp only [List.length_cons]; omega
      · have := ih x (List.mem_cons_of_mem _ h); simp; omega
theorem namesL_piece {s x : List UInt8} (h : x ∈ namesL s) : x.length ≤ s.length := splitL_piece s x (List.mem_filter.1 h).1
theorem namesL_ne {s x : List UInt8} (h : x ∈ namesL s) : x ≠ [] := by
  have := (List.mem_filter.1 h).2
  intro e
  rw [e] at this
  cases this
theorem splitL_slash : ∀ (s x : List UInt8), x ∈ splitL s → ∀ c ∈ x, c ≠ 47
  | [], x, h, c, hc => by simp [splitL] at h; rw [h] at hc; cases hc
  | d :: r, x, h, c, hc => by
    have ih := splitL_slash r
    rw [splitL] at h
    split at h
    · rcases List.mem_cons.1 h with rfl | h
      · cases hc
      · exact ih x h c hc
    · rename_i hd
      rcases List.mem_cons.1 h with rfl | h
      · rcases List.mem_cons.1 hc with rfl | hc
        · exact hd
        · exact ih _ (by rw [splitL_ne r]; exact List.mem_cons_self ..) c hc
      · exact ih x (by rw [splitL_ne r]; exact List.mem_cons_of_mem _ h) c hc
theorem namesL_slash {s x : List UInt8} (h : x ∈ namesL s) : ∀ c ∈ x, c ≠ 47 := splitL_slash s x (List.mem_filter.1 h).1
end Go.Proofs.YtdjfakampjbgeaaDoor.Gl
