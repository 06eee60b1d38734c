/- Marks that take letters, one of them any: the walk that goes back to the last one. Plain. -/
namespace Go.Proofs.YtdjfakampjbgeaaDoor.Gm
section
variable {α β : Type} (any : α → Bool) (tk : α → β → Bool)

/-- Do marks take letters? One mark may take any letters (any), the others one letter each. -/
def mm : List α → List β → Bool
  | [], s => s.isEmpty
  | m :: ms, s => if any m then (List.range (s.length + 1)).any (fun k => mm ms (s.drop k)) else match s with
    | [] => false
    | c :: s' => tk m c && mm ms s'

theorem mm_cons (m : α) (ms : List α) (s : List β) : mm any tk (m :: ms) s = if any m then (List.range (s.length + 1)).any (fun k => mm any tk ms (s.drop k)) else match s with
    | [] => false
    | c :: s' => tk m c && mm any tk ms s' := by
  conv => lhs; rw [mm.eq_def]
theorem mm_any {m : α} {ms : List α} {s : List β} (h : any m = true) : mm any tk (m :: ms) s = true ↔ ∃ k, k ≤ s.length ∧ mm any tk ms (s.drop k) = true := by
  rw [mm_cons, if_pos h, List.any_eq_true]
  constructor
  · rintro ⟨k, hk, h⟩
    exact ⟨k, by have := List.mem_range.1 hk; omega, h⟩
  · rintro ⟨k, hk, h⟩
    exact ⟨k, List.mem_range.2 (by omega), h⟩
theorem mm_one {m : α} {ms : List α} {c : β} {s : List β} (h : any m = false) : mm any tk (m :: ms) (c :: s) = (tk m c && mm any tk ms s) := by
  rw [mm_cons, if_neg (by simp [h])]
theorem mm_one_nil {m : α} {ms : List α} (h : any m = false) : mm any tk (m :: ms) [] = false := by
  rw [mm_cons, if_neg (by simp [h])]
theorem mm_nil_any (ms : List α) : mm any tk ms [] = ms.all any := by
  induction ms with
  | nil => rfl
  | cons m ms ih =>
    rw [List.all_cons, ← ih]
    by_cases h : any m = true
    · rw [h, Bool.true_and]
      rw [Bool.eq_iff_iff, mm_any any tk h]
      constructor
      · rintro ⟨k, _, hk⟩; simpa using hk
      · intro hk; exact ⟨0, by simp, by simpa using hk⟩
    · have h' : any m = false := by simpa using h
      rw [mm_one_nil any tk h', h', Bool.false_and]

/-- the marks from a on, n of them, none of them any, take the letters from b on. -/
def Seg (ms : List α) (s : List β) (a b n : Nat) : Prop := ∀ x, x < n → ∃ (h1 : a + x < ms.length) (h2 : b + x < s.length), any ms[a + x] = false ∧ tk ms[a + x] s[b + x] = true
theorem seg_mm {ms : List α} {s : List β} {a b : Nat} : ∀ (n : Nat), Seg any tk ms s a b n → mm any tk (ms.drop a) (s.drop b) = mm any tk (ms.drop (a + n)) (s.drop (b + n))
  | 0, _ => rfl
  | n + 1, h => by
    have ih := seg_mm (a := a) (b := b) n (fun x hx => h x (by omega))
    obtain ⟨h1, h2, h3, h4⟩ := h n (by omega)
    rw [ih, List.drop_eq_getElem_cons h1, List.drop_eq_getElem_cons h2, mm_one any tk h3, h4, Bool.true_and, Nat.add_assoc, Nat.add_assoc]
/-- so many marks that take one letter each: they must be there, and what is behind is taken behind. -/
theorem seg_split {ms : List α} {s : List β} {a j : Nat} : ∀ (n : Nat), (∀ x, x < n → ∃ h : a + x < ms.length, any ms[a + x] = false) → mm any tk (ms.drop a) (s.drop j) = true → j + n ≤ s.length + (if n = 0 then j else 0) ∧ mm any tk (ms.drop (a + n)) (s.drop (j + n)) = true
  | 0, _, h => ⟨by simp, h⟩
  | n + 1, hm, h => by
    obtain ⟨_, h'⟩ := seg_split (a := a) (j := j) n (fun x hx => hm x (by omega)) h
    obtain ⟨h1, h2⟩ := hm n (by omega)
    rw [List.drop_eq_getElem_cons h1] at h'
    by_cases hj : j + n < s.length
    · rw [List.drop_eq_getElem_cons hj, mm_one any tk h2, Bool.and_eq_true] at h'
      exact ⟨by simp; omega, h'.2⟩
    · rw [show s.drop (j + n) = [] from List.drop_of_length_le (by omega), mm_one_nil any tk h2] at h'
      cases h'

/-- WHERE THE WALK OVER THE LETTERS STANDS: res is the answer; star: the place of the last any-mark that was met. -/
def GI (ms : List α) (s : List β) (res : Bool) (at_ : Nat) (star : Option Nat) (back i : Nat) : Prop :=
  at_ ≤ ms.length ∧ i ≤ s.length ∧
  match star with
  | none => res = mm any tk (ms.drop at_) (s.drop i)
  | some t => back ≤ i ∧ at_ = t + 1 + (i - back) ∧ Seg any tk ms s (t + 1) back (i - back) ∧
      (res = true ↔ ∃ j, back ≤ j ∧ j ≤ s.length ∧ mm any tk (ms.drop (t + 1)) (s.drop j) = true)
variable {any tk} {ms : List α} {s : List β} {res : Bool} {at_ back i : Nat} {star : Option Nat}
theorem GI.start : GI any tk ms s (mm any tk ms s) 0 none 0 0 := ⟨by omega, by omega, by simp⟩
theorem GI.star_ (h : GI any tk ms s res at_ star back i) (ha : at_ < ms.length) (hany : any ms[at_] = true) : GI any tk ms s res (at_ + 1) (some at_) i i := by
  obtain ⟨h1, h2, h3⟩ := h
  refine ⟨by omega, h2, Nat.le_refl _, by omega, fun x hx => by omega, ?_⟩
  have key : mm any tk (ms.drop at_) (s.drop i) = true ↔ ∃ j, i ≤ j ∧ j ≤ s.length ∧ mm any tk (ms.drop (at_ + 1)) (s.drop j) = true := by
    rw [List.drop_eq_getElem_cons ha, mm_any any tk hany]
    constructor
    · rintro ⟨k, hk, h⟩
      rw [List.length_drop] at hk
      rw [List.drop_drop] at h
      exact ⟨i + k, by omega, by omega, h⟩
    · rintro ⟨j, hj1, hj2, h⟩
      refine ⟨j - i, by rw [List.length_drop]; omega, ?_⟩
      rw [List.drop_drop, show i + (j - i) = j by omega]
      exact h
  cases star with
  | none =>
    simp only at h3
    rw [h3, key]
  | some t =>
    obtain ⟨hb, hat, hseg, hres⟩ := h3
    rw [hres]
    constructor
    · rintro ⟨j, hj1, hj2, hm⟩
      obtain ⟨hl, hm'⟩ := seg_split any tk (i - back) (fun x hx => by obtain ⟨a, _, b, _⟩ := hseg x hx; exact ⟨a, b⟩) hm
      rw [← hat] at hm'
      rw [List.drop_eq_getElem_cons ha, mm_any any tk hany] at hm'
      obtain ⟨k, hk, hm''⟩ := hm'
      rw [List.length_drop] at hk
      rw [List.drop_drop] at hm''
      by_cases hz : i - back = 0
      · rw [hz] at hm'' hk
        exact ⟨j + 0 + k, by omega, by omega, hm''⟩
      · rw [if_neg hz] at hl
        exact ⟨j + (i - back) + k, by omega, by omega, hm''⟩
    · rintro ⟨j, hj1, hj2, hm⟩
      refine ⟨back, Nat.le_refl _, by omega, ?_⟩
      rw [seg_mm any tk (i - back) hseg, ← hat, Nat.add_sub_cancel' hb]
      exact key.2 ⟨j, hj1, hj2, hm⟩
theorem GI.take (h : GI any tk ms s res at_ star back i) (ha : at_ < ms.length) (hi : i < s.length) (hany : any ms[at_] = false) (ht : tk ms[at_] s[i] = true) : GI any tk ms s res (at_ + 1) star back (i + 1) := by
  obtain ⟨h1, h2, h3⟩ := h
  refine ⟨by omega, by omega, ?_⟩
  cases star with
  | none =>
    simp only at h3 ⊢
    rw [h3, List.drop_eq_getElem_cons ha, List.drop_eq_getElem_cons hi, mm_one any tk hany, ht, Bool.true_and]
  | some t =>
    obtain ⟨hb, hat, hseg, hres⟩ := h3
    refine ⟨by clear hseg hres; omega, by clear hseg hres; omega, fun x hx => ?_, hres⟩
    by_cases hx' : x < i - back
    · exact hseg x hx'
    · have hxe : x = i - back := by omega
      subst hxe
      have e1 : t + 1 + (i - back) = at_ := by omega
      have e2 : back + (i - back) = i := by omega
      refine ⟨by omega, by omega, ?_⟩
      simp only [e1, e2]
      exact ⟨hany, ht⟩
theorem fail_mm (hi : i < s.length) (hf : at_ = ms.length ∨ ∃ h : at_ < ms.length, any ms[at_] = false ∧ tk ms[at_] s[i] = false) : mm any tk (ms.drop at_) (s.drop i) = false := by
  rcases hf with rfl | ⟨h, h1, h2⟩
  · rw [List.drop_length, List.drop_eq_getElem_cons hi]; rfl
  · rw [List.drop_eq_getElem_cons h, List.drop_eq_getElem_cons hi, mm_one any tk h1, h2, Bool.false_and]
theorem GI.none_ (h : GI any tk ms s res at_ none back i) (hi : i < s.length) (hf : at_ = ms.length ∨ ∃ h : at_ < ms.length, any ms[at_] = false ∧ tk ms[at_] s[i] = false) : res = false := by
  obtain ⟨h1, h2, h3⟩ := h
  simp only at h3
  rw [h3, fail_mm hi hf]
theorem GI.back_ {t : Nat} (h : GI any tk ms s res at_ (some t) back i) (hi : i < s.length) (hf : at_ = ms.length ∨ ∃ h : at_ < ms.length, any ms[at_] = false ∧ tk ms[at_] s[i] = false) : GI any tk ms s res (t + 1) (some t) (back + 1) (back + 1) := by
  obtain ⟨h1, h2, hb, hat, hseg, hres⟩ := h
  have hb' : back + 1 ≤ s.length := by clear hf hres hseg; omega
  have ht' : t + 1 ≤ ms.length := by clear hf hres hseg; omega
  refine ⟨ht', hb', Nat.le_refl _, by simp, fun x hx => by simp at hx, ?_⟩
  rw [hres]
  constructor
  · rintro ⟨j, hj1, hj2, hm⟩
    by_cases hjb : j = back
    · subst hjb
      rw [seg_mm any tk (i - j) hseg, ← hat, Nat.add_sub_cancel' hb, fail_mm hi hf] at hm
      cases hm
    · exact ⟨j, by omega, hj2, hm⟩
  · rintro ⟨j, hj1, hj2, hm⟩
    exact ⟨j, by omega, hj2, hm⟩
theorem GI.end_ (h : GI any tk ms s res at_ star back s.length) : res = (ms.drop at_).all any := by
  obtain ⟨h1, h2, h3⟩ := h
  cases star with
  | none =>
    simp only at h3
    rw [h3, List.drop_length, mm_nil_any]
  | some t =>
    obtain ⟨hb, hat, hseg, hres⟩ := h3
    have e1 := seg_mm any tk (s.length - back) hseg
    rw [← hat, Nat.add_sub_cancel' hb, List.drop_length, mm_nil_any] at e1
    rw [← e1, Bool.eq_iff_iff, hres]
    constructor
    · rintro ⟨j, hj1, hj2, hm⟩
      clear hat
      obtain ⟨hl, hm'⟩ := seg_split any tk (s.length - back) (fun x hx => by obtain ⟨a, _, b, _⟩ := hseg x hx; exact ⟨a, b⟩) hm
      clear hm' hres hseg
      by_cases hz : s.length - back = 0
      · have : j = back := by omega
        rw [← this]; exact hm
      · rw [if_neg hz] at hl
        have : j = back := by omega
        rw [← this]; exact hm
    · intro hm
      exact ⟨back, Nat.le_refl _, by omega, hm⟩
end
end Go.Proofs.YtdjfakampjbgeaaDoor.Gm
