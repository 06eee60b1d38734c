/- Names of a text, plain: pieces between slashes. -/
import Derived.Lib.IndexMore
namespace Go.Proofs.YtdjfakampjbgeaaGreatDoor.Gl

/-- all pieces of a text, the empty ones too. -/
def splitL : List UInt8 → List (List UInt8)
  | [] => [[]]
  | c :: r => if c = 47 then [] :: splitL r else (c :: (splitL r).headD []) :: (splitL r).tail
theorem splitL_ne (s : List UInt8) : splitL s = (splitL s).headD [] :: (splitL s).tail := by
  cases s with
  | nil => rfl
  | cons c r => unfold splitL; split <;> rfl
theorem splitL_no : ∀ (a : List UInt8), (∀ c ∈ a, c ≠ 47) → splitL a = [a]
  | [], _ => rfl
  | c :: a, h => by
    have hc : ¬ c = 47 := h c (List.mem_cons_self ..)
    have ih := splitL_no a (fun x hx => h x (List.mem_cons_of_mem _ hx))
    rw [splitL, if_neg hc, ih]
    rfl
theorem splitL_cut : ∀ (a r : List UInt8), (∀ c ∈ a, c ≠ 47) → splitL (a ++ 47 :: r) = a :: splitL r
  | [], r, _ => by rw [List.nil_append, splitL, if_pos rfl]
  | c :: a, r, h => by
    have hc : ¬ c = 47 := h c (List.mem_cons_self ..)
    have ih := splitL_cut a r (fun x hx => h x (List.mem_cons_of_mem _ hx))
    rw [List.cons_append, splitL, if_neg hc, ih]
    rfl
/-- the pieces that are not empty. -/
def namesL (s : List UInt8) : List (List UInt8) := (splitL s).filter fun x => !x.isEmpty
/-- the same, letter by letter; cur: what stands of the piece. -/
def nm : List UInt8 → List UInt8 → List (List UInt8)
  | cur, [] => if cur = [] then [] else [cur]
  | cur, c :: r => if c = 47 then (if cur = [] then nm [] r else cur :: nm [] r) else nm (cur ++ [c]) r
theorem nm_eq : ∀ (s cur : List UInt8), nm cur s = ((cur ++ (splitL s).headD []) :: (splitL s).tail).filter fun x => !x.isEmpty
  | [], cur => by
    rw [nm, splitL]
    cases cur <;> simp
  | c :: r, cur => by
    rw [nm]
    by_cases hc : c = 47
    · rw [if_pos hc, splitL, if_pos hc, nm_eq r [], List.nil_append, ← splitL_ne r]
      cases cur <;> simp
    · rw [if_neg hc, splitL, if_neg hc, nm_eq r (cur ++ [c])]
      simp
theorem nm_nil (s : List UInt8) : nm [] s = namesL s := by rw [nm_eq, List.nil_append, ← splitL_ne]; rfl

theorem index_slash : ∀ (l : List UInt8), (Lib.index l [47] = -1 ∧ ∀ c ∈ l, c ≠ 47) ∨ (∃ a r, l = a ++ 47 :: r ∧ (∀ c ∈ a, c ≠ 47) ∧ Lib.index l [47] = (a.length : Int))
  | [] => .inl ⟨rfl, by simp⟩
  | b :: l => by
    by_cases h : b = 47
    · subst h
      exact .inr ⟨[], l, rfl, by simp, by simp [Lib.index, List.isPrefixOf]⟩
    · have hp : List.isPrefixOf [47] (b :: l) = false := by
        simp only [List.isPrefixOf, Bool.and_eq_false_iff]
        exact .inl (by simpa using fun e => h e.symm)
      rcases index_slash l with ⟨h1, h2⟩ | ⟨a, r, h1, h2, h3⟩
      · refine .inl ⟨by simp [Lib.index, hp, h1], fun x hx => ?_⟩
        rcases List.mem_cons.1 hx with rfl | hx
        · exact h
        · exact h2 x hx
      · refine .inr ⟨b :: a, r, by rw [h1]; rfl, fun x hx => ?_, ?_⟩
        · rcases List.mem_cons.1 hx with rfl | hx
          · exact h
          · exact h2 x hx
        · have hne : (Lib.index l [47] == -1) = false := by rw [h3]; simp
          rw [Lib.index, if_neg (by rw [hp]; simp), if_neg (by rw [hne]; simp), h3]
          simp
theorem cut_slash (l : List UInt8) : (Lib.cut l [47] = (l, [], false) ∧ ∀ c ∈ l, c ≠ 47) ∨ (∃ a r, l = a ++ 47 :: r ∧ (∀ c ∈ a, c ≠ 47) ∧ Lib.cut l [47] = (a, r, true)) := by
  rcases index_slash l with ⟨h1, h2⟩ | ⟨a, r, h1, h2, h3⟩
  · exact .inl ⟨by simp [Lib.cut, h1], h2⟩
  · refine .inr ⟨a, r, h1, h2, ?_⟩
    rw [Lib.cut, if_pos (by omega), h3]
    subst h1
    simp
theorem splitL_length : ∀ s : List UInt8, (splitL s).length ≤ s.length + 1
  | [] => by simp [splitL]
  | c :: r => by
    have ih := splitL_length r
    rw [splitL]
    split
    · simp; omega
    · simp only [List.length_cons, List.length_tail]; omega
theorem namesL_length (s : List UInt8) : (namesL s).length ≤ s.length + 1 := Nat.le_trans (List.length_filter_le _ _) (splitL_length s)
theorem splitL_piece : ∀ (s : List UInt8) (x : List UInt8), x ∈ splitL s → x.length ≤ s.length
  | [], x, h => by simp [splitL] at h; simp [h]
  | c :: r, x, h => by
    have ih := splitL_piece r
    rw [splitL_ne r] at ih
    rw [splitL] at h
    split at h
    · rcases List.mem_cons.1 h with rfl | h
      · simp
      · have := splitL_piece r x h; simp; omega
    · rcases List.mem_cons.1 h with rfl | h
      · have := ih _ (List.mem_cons_self ..); simp only [List.length_cons]; omega
      · have := ih x (List.mem_cons_of_mem _ h); simp; omega
theorem namesL_piece {s x : List UInt8} (h : x ∈ namesL s) : x.length ≤ s.length := splitL_piece s x (List.mem_filter.1 h).1
theorem namesL_ne {s x : List UInt8} (h : x ∈ namesL s) : x ≠ [] := by
  have := (List.mem_filter.1 h).2
  intro e
  rw [e] at this
  cases this
theorem splitL_slash : ∀ (s x : List UInt8), x ∈ splitL s → ∀ c ∈ x, c ≠ 47
  | [], x, h, c, hc => by simp [splitL] at h; rw [h] at hc; cases hc
  | d :: r, x, h, c, hc => by
    have ih := splitL_slash r
    rw [splitL] at h
    split at h
    · rcases List.mem_cons.1 h with rfl | h
      · cases hc
      · exact ih x h c hc
    · rename_i hd
      rcases List.mem_cons.1 h with rfl | h
      · rcases List.mem_cons.1 hc with rfl | hc
        · exact hd
        · exact ih _ (by rw [splitL_ne r]; exact List.mem_cons_self ..) c hc
      · exact ih x (by rw [splitL_ne r]; exact List.mem_cons_of_mem _ h) c hc
theorem namesL_slash {s x : List UInt8} (h : x ∈ namesL s) : ∀ c ∈ x, c ≠ 47 := splitL_slash s x (List.mem_filter.1 h).1
end Go.Proofs.YtdjfakampjbgeaaGreatDoor.Gl
/- Marks that take letters, one of them any: the walk that goes back to the last one. Plain. -/
namespace Go.Proofs.YtdjfakampjbgeaaGreatDoor.Gm
section
variable {α β : Type} (any : α → Bool) (tk : α → β → Bool)

/-- Do marks take letters? One mark may take any letters (any), the others one letter each. -/
def mm : List α → List β → Bool
  | [], s => s.isEmpty
  | m :: ms, s => if any m then (List.range (s.length + 1)).any (fun k => mm ms (s.drop k)) else match s with
    | [] => false
    | c :: s' => tk m c && mm ms s'

theorem mm_cons (m : α) (ms : List α) (s : List β) : mm any tk (m :: ms) s = if any m then (List.range (s.length + 1)).any (fun k => mm any tk ms (s.drop k)) else match s with
    | [] => false
    | c :: s' => tk m c && mm any tk ms s' := by
  conv => lhs; rw [mm.eq_def]
theorem mm_any {m : α} {ms : List α} {s : List β} (h : any m = true) : mm any tk (m :: ms) s = true ↔ ∃ k, k ≤ s.length ∧ mm any tk ms (s.drop k) = true := by
  rw [mm_cons, if_pos h, List.any_eq_true]
  constructor
  · rintro ⟨k, hk, h⟩
    exact ⟨k, by have := List.mem_range.1 hk; omega, h⟩
  · rintro ⟨k, hk, h⟩
    exact ⟨k, List.mem_range.2 (by omega), h⟩
theorem mm_one {m : α} {ms : List α} {c : β} {s : List β} (h : any m = false) : mm any tk (m :: ms) (c :: s) = (tk m c && mm any tk ms s) := by
  rw [mm_cons, if_neg (by simp [h])]
theorem mm_one_nil {m : α} {ms : List α} (h : any m = false) : mm any tk (m :: ms) [] = false := by
  rw [mm_cons, if_neg (by simp [h])]
theorem mm_nil_any (ms : List α) : mm any tk ms [] = ms.all any := by
  induction ms with
  | nil => rfl
  | cons m ms ih =>
    rw [List.all_cons, ← ih]
    by_cases h : any m = true
    · rw [h, Bool.true_and]
      rw [Bool.eq_iff_iff, mm_any any tk h]
      constructor
      · rintro ⟨k, _, hk⟩; simpa using hk
      · intro hk; exact ⟨0, by simp, by simpa using hk⟩
    · have h' : any m = false := by simpa using h
      rw [mm_one_nil any tk h', h', Bool.false_and]

/-- the marks from a on, n of them, none of them any, take the letters from b on. -/
def Seg (ms : List α) (s : List β) (a b n : Nat) : Prop := ∀ x, x < n → ∃ (h1 : a + x < ms.length) (h2 : b + x < s.length), any ms[a + x] = false ∧ tk ms[a + x] s[b + x] = true
theorem seg_mm {ms : List α} {s : List β} {a b : Nat} : ∀ (n : Nat), Seg any tk ms s a b n → mm any tk (ms.drop a) (s.drop b) = mm any tk (ms.drop (a + n)) (s.drop (b + n))
  | 0, _ => rfl
  | n + 1, h => by
    have ih := seg_mm (a := a) (b := b) n (fun x hx => h x (by omega))
    obtain ⟨h1, h2, h3, h4⟩ := h n (by omega)
    rw [ih, List.drop_eq_getElem_cons h1, List.drop_eq_getElem_cons h2, mm_one any tk h3, h4, Bool.true_and, Nat.add_assoc, Nat.add_assoc]
/-- so many marks that take one letter each: they must be there, and what is behind is taken behind. -/
theorem seg_split {ms : List α} {s : List β} {a j : Nat} : ∀ (n : Nat), (∀ x, x < n → ∃ h : a + x < ms.length, any ms[a + x] = false) → mm any tk (ms.drop a) (s.drop j) = true → j + n ≤ s.length + (if n = 0 then j else 0) ∧ mm any tk (ms.drop (a + n)) (s.drop (j + n)) = true
  | 0, _, h => ⟨by simp, h⟩
  | n + 1, hm, h => by
    obtain ⟨_, h'⟩ := seg_split (a := a) (j := j) n (fun x hx => hm x (by omega)) h
    obtain ⟨h1, h2⟩ := hm n (by omega)
    rw [List.drop_eq_getElem_cons h1] at h'
    by_cases hj : j + n < s.length
    · rw [List.drop_eq_getElem_cons hj, mm_one any tk h2, Bool.and_eq_true] at h'
      exact ⟨by simp; omega, h'.2⟩
    · rw [show s.drop (j + n) = [] from List.drop_of_length_le (by omega), mm_one_nil any tk h2] at h'
      cases h'

/-- WHERE THE WALK OVER THE LETTERS STANDS: res is the answer; star: the place of the last any-mark that was met. -/
def GI (ms : List α) (s : List β) (res : Bool) (at_ : Nat) (star : Option Nat) (back i : Nat) : Prop :=
  at_ ≤ ms.length ∧ i ≤ s.length ∧
  match star with
  | none => res = mm any tk (ms.drop at_) (s.drop i)
  | some t => back ≤ i ∧ at_ = t + 1 + (i - back) ∧ Seg any tk ms s (t + 1) back (i - back) ∧
      (res = true ↔ ∃ j, back ≤ j ∧ j ≤ s.length ∧ mm any tk (ms.drop (t + 1)) (s.drop j) = true)
variable {any tk} {ms : List α} {s : List β} {res : Bool} {at_ back i : Nat} {star : Option Nat}
theorem GI.start : GI any tk ms s (mm any tk ms s) 0 none 0 0 := ⟨by omega, by omega, by simp⟩
theorem GI.star_ (h : GI any tk ms s res at_ star back i) (ha : at_ < ms.length) (hany : any ms[at_] = true) : GI any tk ms s res (at_ + 1) (some at_) i i := by
  obtain ⟨h1, h2, h3⟩ := h
  refine ⟨by omega, h2, Nat.le_refl _, by omega, fun x hx => by omega, ?_⟩
  have key : mm any tk (ms.drop at_) (s.drop i) = true ↔ ∃ j, i ≤ j ∧ j ≤ s.length ∧ mm any tk (ms.drop (at_ + 1)) (s.drop j) = true := by
    rw [List.drop_eq_getElem_cons ha, mm_any any tk hany]
    constructor
    · rintro ⟨k, hk, h⟩
      rw [List.length_drop] at hk
      rw [List.drop_drop] at h
      exact ⟨i + k, by omega, by omega, h⟩
    · rintro ⟨j, hj1, hj2, h⟩
      refine ⟨j - i, by rw [List.length_drop]; omega, ?_⟩
      rw [List.drop_drop, show i + (j - i) = j by omega]
      exact h
  cases star with
  | none =>
    simp only at h3
    rw [h3, key]
  | some t =>
    obtain ⟨hb, hat, hseg, hres⟩ := h3
    rw [hres]
    constructor
    · rintro ⟨j, hj1, hj2, hm⟩
      obtain ⟨hl, hm'⟩ := seg_split any tk (i - back) (fun x hx => by obtain ⟨a, _, b, _⟩ := hseg x hx; exact ⟨a, b⟩) hm
      rw [← hat] at hm'
      rw [List.drop_eq_getElem_cons ha, mm_any any tk hany] at hm'
      obtain ⟨k, hk, hm''⟩ := hm'
      rw [List.length_drop] at hk
      rw [List.drop_drop] at hm''
      by_cases hz : i - back = 0
      · rw [hz] at hm'' hk
        exact ⟨j + 0 + k, by omega, by omega, hm''⟩
      · rw [if_neg hz] at hl
        exact ⟨j + (i - back) + k, by omega, by omega, hm''⟩
    · rintro ⟨j, hj1, hj2, hm⟩
      refine ⟨back, Nat.le_refl _, by omega, ?_⟩
      rw [seg_mm any tk (i - back) hseg, ← hat, Nat.add_sub_cancel' hb]
      exact key.2 ⟨j, hj1, hj2, hm⟩
theorem GI.take (h : GI any tk ms s res at_ star back i) (ha : at_ < ms.length) (hi : i < s.length) (hany : any ms[at_] = false) (ht : tk ms[at_] s[i] = true) : GI any tk ms s res (at_ + 1) star back (i + 1) := by
  obtain ⟨h1, h2, h3⟩ := h
  refine ⟨by omega, by omega, ?_⟩
  cases star with
  | none =>
    simp only at h3 ⊢
    rw [h3, List.drop_eq_getElem_cons ha, List.drop_eq_getElem_cons hi, mm_one any tk hany, ht, Bool.true_and]
  | some t =>
    obtain ⟨hb, hat, hseg, hres⟩ := h3
    refine ⟨by clear hseg hres; omega, by clear hseg hres; omega, fun x hx => ?_, hres⟩
    by_cases hx' : x < i - back
    · exact hseg x hx'
    · have hxe : x = i - back := by omega
      subst hxe
      have e1 : t + 1 + (i - back) = at_ := by omega
      have e2 : back + (i - back) = i := by omega
      refine ⟨by omega, by omega, ?_⟩
      simp only [e1, e2]
      exact ⟨hany, ht⟩
theorem fail_mm (hi : i < s.length) (hf : at_ = ms.length ∨ ∃ h : at_ < ms.length, any ms[at_] = false ∧ tk ms[at_] s[i] = false) : mm any tk (ms.drop at_) (s.drop i) = false := by
  rcases hf with rfl | ⟨h, h1, h2⟩
  · rw [List.drop_length, List.drop_eq_getElem_cons hi]; rfl
  · rw [List.drop_eq_getElem_cons h, List.drop_eq_getElem_cons hi, mm_one any tk h1, h2, Bool.false_and]
theorem GI.none_ (h : GI any tk ms s res at_ none back i) (hi : i < s.length) (hf : at_ = ms.length ∨ ∃ h : at_ < ms.length, any ms[at_] = false ∧ tk ms[at_] s[i] = false) : res = false := by
  obtain ⟨h1, h2, h3⟩ := h
  simp only at h3
  rw [h3, fail_mm hi hf]
theorem GI.back_ {t : Nat} (h : GI any tk ms s res at_ (some t) back i) (hi : i < s.length) (hf : at_ = ms.length ∨ ∃ h : at_ < ms.length, any ms[at_] = false ∧ tk ms[at_] s[i] = false) : GI any tk ms s res (t + 1) (some t) (back + 1) (back + 1) := by
  obtain ⟨h1, h2, hb, hat, hseg, hres⟩ := h
  have hb' : back + 1 ≤ s.length := by clear hf hres hseg; omega
  have ht' : t + 1 ≤ ms.length := by clear hf hres hseg; omega
  refine ⟨ht', hb', Nat.le_refl _, by simp, fun x hx => by simp at hx, ?_⟩
  rw [hres]
  constructor
  · rintro ⟨j, hj1, hj2, hm⟩
    by_cases hjb : j = back
    · subst hjb
      rw [seg_mm any tk (i - j) hseg, ← hat, Nat.add_sub_cancel' hb, fail_mm hi hf] at hm
      cases hm
    · exact ⟨j, by omega, hj2, hm⟩
  · rintro ⟨j, hj1, hj2, hm⟩
    exact ⟨j, by omega, hj2, hm⟩
theorem GI.end_ (h : GI any tk ms s res at_ star back s.length) : res = (ms.drop at_).all any := by
  obtain ⟨h1, h2, h3⟩ := h
  cases star with
  | none =>
    simp only at h3
    rw [h3, List.drop_length, mm_nil_any]
  | some t =>
    obtain ⟨hb, hat, hseg, hres⟩ := h3
    have e1 := seg_mm any tk (s.length - back) hseg
    rw [← hat, Nat.add_sub_cancel' hb, List.drop_length, mm_nil_any] at e1
    rw [← e1, Bool.eq_iff_iff, hres]
    constructor
    · rintro ⟨j, hj1, hj2, hm⟩
      clear hat
      obtain ⟨hl, hm'⟩ := seg_split any tk (s.length - back) (fun x hx => by obtain ⟨a, _, b, _⟩ := hseg x hx; exact ⟨a, b⟩) hm
      clear hm' hres hseg
      by_cases hz : s.length - back = 0
      · have : j = back := by omega
        rw [← this]; exact hm
      · rw [if_neg hz] at hl
        have : j = back := by omega
        rw [← this]; exact hm
    · intro hm
      exact ⟨back, Nat.le_refl _, by omega, hm⟩
end
end Go.Proofs.YtdjfakampjbgeaaGreatDoor.Gm
/- Patterns, plain: what a piece is read as, and what it takes. -/
namespace Go.Proofs.YtdjfakampjbgeaaGreatDoor.Gl

/-- the byte with which a text begins, and what stands behind it. -/
def oneL : List UInt8 → Option (UInt8 × List UInt8)
  | [] => none
  | c :: r => if c = 92 then (match r with | [] => none | d :: r' => some (d, r')) else some (c, r)
/-- a mark of a piece. -/
structure Mk where
  any : Bool
  neg : Bool
  fr : List UInt8
  to : List UInt8
  deriving DecidableEq
/-- a set's ranges, from behind its '[' (and '!') on, to behind its ']'. -/
def setL : Nat → Bool → List UInt8 → List UInt8 → List UInt8 → Option ((List UInt8 × List UInt8) × List UInt8)
  | 0, _, _, _, _ => none
  | n + 1, first, l, fs, ts =>
    match l with
    | [] => none
    | x :: r0 =>
      if x = 93 ∧ first = false then some ((fs, ts), r0) else
      match oneL (x :: r0) with
      | none => none
      | some (c, r) =>
        match r with
        | y :: z :: r2 =>
          if y = 45 ∧ z ≠ 93 then
            match oneL (z :: r2) with
            | none => none
            | some (d, r3) => if d < c then none else setL n false r3 (fs ++ [c]) (ts ++ [d])
          else setL n false r (fs ++ [c]) (ts ++ [c])
        | _ => setL n false r (fs ++ [c]) (ts ++ [c])
/-- a set, from behind its '[' on. -/
def setOpen (r : List UInt8) : Option (Mk × List UInt8) :=
  let neg := r.head? = some 33 || r.head? = some 94
  let l := if neg then r.tail else r
  (setL (l.length + 1) true l [] []).map fun x => (⟨false, neg, x.1.1, x.1.2⟩, x.2)
/-- a piece's marks. -/
def pieceA : Nat → List Mk → List UInt8 → Option (List Mk)
  | 0, _, _ => none
  | _ + 1, out, [] => some out
  | n + 1, out, c :: r =>
    if c = 42 then pieceA n (out ++ [⟨true, false, [], []⟩]) r
    else if c = 63 then pieceA n (out ++ [⟨false, true, [], []⟩]) r
    else if c = 91 then match setOpen r with
      | none => none
      | some (m, r') => pieceA n (out ++ [m]) r'
    else match oneL (c :: r) with
      | none => none
      | some (d, r') => pieceA n (out ++ [⟨false, false, [d], [d]⟩]) r'
/-- a pattern's piece. -/
structure Pc where
  deep : Bool
  marks : List Mk
def pieceL (p : List UInt8) : Option (List Mk) := pieceA (p.length + 1) [] p
def readA : List (List UInt8) → List Pc → Option (List Pc)
  | [], out => some out
  | p :: ps, out => if p = [42, 42] then readA ps (out ++ [⟨true, []⟩]) else match pieceL p with
    | none => none
    | some ms => readA ps (out ++ [⟨false, ms⟩])
/-- a pattern; none: it is none. -/
def readL (pat : List UInt8) : Option (List Pc) := if 1020 < pat.length ∨ namesL pat = [] then none else readA (namesL pat) []
def Mk.takes (m : Mk) (c : UInt8) : Bool := if (m.fr.zip m.to).any (fun p => decide (p.1 ≤ c) && decide (c ≤ p.2)) then !m.neg else m.neg
def takesName (ms : List Mk) (s : List UInt8) : Bool := Gm.mm Mk.any Mk.takes ms s
def takesAll (ps : List Pc) (l : List (List UInt8)) : Bool := Gm.mm Pc.deep (fun p s => takesName p.marks s) ps l
def matchL (pat p : List UInt8) : Option Bool := (readL pat).map fun ps => takesAll ps (namesL p)
end Go.Proofs.YtdjfakampjbgeaaGreatDoor.Gl
