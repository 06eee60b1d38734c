/- The words of a line, plain: what layer 13 says, as a machine that reads byte by byte. -/
import Derived.Test.YtpgnfianffjpnaaGreatDoorCut
namespace Go.Proofs.YtpgnfianffjpnaaGreatDoor
open Go Go.RowKit
namespace Lx
abbrev Bs := List UInt8
def blank (c : UInt8) : Bool := c == 32 || c == 9 || c == 13
theorem blank_bls (c : UInt8) : Gl.bls.contains c = blank c := by rw [Bool.eq_iff_iff]; simp [blank, or_assoc]
def escOf (c : UInt8) : UInt8 := if c = 96 then 96 else 92
structure Wd where
  at_ : Nat
  raw : Bs
/-- where the machine stands; f: where the word begins, q: where its quote does. -/
inductive St where
  | btw
  | win (f : Nat)
  | wesc (f : Nat)
  | sgl (f q : Nat)
  | dbl (f q : Nat)
  | desc (f q : Nat)
def sl (s : Bs) (f i : Nat) : Bs := (s.drop f).take (i - f)
def inn (e c : UInt8) (f i : Nat) : St := if c = 39 then .sgl f i else if c = 34 then .dbl f i else if c = e then .wesc f else .win f
def pushW (x : Wd) : Nat ⊕ List Wd → Nat ⊕ List Wd
  | .inl q => .inl q
  | .inr l => .inr (x :: l)
/-- the words; or the place of the quote that has no end. -/
def runW (s : Bs) (e : UInt8) : Bs → Nat → St → Nat ⊕ List Wd
  | [], _, .btw => .inr []
  | [], _, .win f => .inr [⟨f, s.drop f⟩]
  | [], _, .wesc f => .inr [⟨f, s.drop f⟩]
  | [], _, .sgl _ q => .inl q
  | [], _, .dbl _ q => .inl q
  | [], _, .desc _ q => .inl q
  | c :: r, i, .btw => if blank c then runW s e r (i + 1) .btw else runW s e r (i + 1) (inn e c i i)
  | c :: r, i, .win f => if blank c then pushW ⟨f, sl s f i⟩ (runW s e r (i + 1) .btw) else runW s e r (i + 1) (inn e c f i)
  | _ :: r, i, .wesc f => runW s e r (i + 1) (.win f)
  | c :: r, i, .sgl f q => runW s e r (i + 1) (if c = 39 then .win f else .sgl f q)
  | c :: r, i, .dbl f q => runW s e r (i + 1) (if c = 34 then .win f else if c = e then .desc f q else .dbl f q)
  | _ :: r, i, .desc f q => runW s e r (i + 1) (.dbl f q)
def wordsL (s : Bs) (esc : UInt8) : Nat ⊕ List Wd := runW s (escOf esc) s 0 .btw
/-- words ahead. -/
def putW (l : List Wd) : Nat ⊕ List Wd → Nat ⊕ List Wd
  | .inl q => .inl q
  | .inr r => .inr (l ++ r)
theorem putW_nil (x : Nat ⊕ List Wd) : putW [] x = x := by cases x <;> rfl
theorem putW_push (l : List Wd) (w : Wd) (x : Nat ⊕ List Wd) : putW l (pushW w x) = putW (l ++ [w]) x := by cases x <;> simp [putW, pushW]
section
variable {s : Bs} {e : UInt8} {i f q : Nat}
theorem drop_lt (h : i < s.length) : s.drop i = s[i] :: s.drop (i + 1) := List.drop_eq_getElem_cons h
theorem run_btw_blank (h : i < s.length) (hb : blank s[i] = true) : runW s e (s.drop i) i .btw = runW s e (s.drop (i + 1)) (i + 1) .btw := by
  rw [drop_lt h, runW, if_pos hb]
theorem run_btw_in (h : i < s.length) (hb : blank s[i] = false) : runW s e (s.drop i) i .btw = runW s e (s.drop (i + 1)) (i + 1) (inn e s[i] i i) := by
  rw [drop_lt h, runW, if_neg (by rw [hb]; simp)]
theorem run_win_blank (h : i < s.length) (hb : blank s[i] = true) : runW s e (s.drop i) i (.win f) = pushW ⟨f, sl s f i⟩ (runW s e (s.drop (i + 1)) (i + 1) .btw) := by
  rw [drop_lt h, runW, if_pos hb]
theorem run_win_in (h : i < s.length) (hb : blank s[i] = false) : runW s e (s.drop i) i (.win f) = runW s e (s.drop (i + 1)) (i + 1) (inn e s[i] f i) := by
  rw [drop_lt h, runW, if_neg (by rw [hb]; simp)]
theorem run_wesc : runW s e (s.drop i) i (.wesc f) = runW s e (s.drop (i + 1)) (i + 1) (.win f) := by
  rcases Nat.lt_or_ge i s.length with h | h
  · rw [drop_lt h, runW]
  · rw [List.drop_eq_nil_of_le h, List.drop_eq_nil_of_le (by omega), runW, runW]
theorem run_sgl (h : i < s.length) : runW s e (s.drop i) i (.sgl f q) = runW s e (s.drop (i + 1)) (i + 1) (if s[i] = 39 then .win f else .sgl f q) := by
  rw [drop_lt h, runW]
theorem run_dbl (h : i < s.length) : runW s e (s.drop i) i (.dbl f q) = runW s e (s.drop (i + 1)) (i + 1) (if s[i] = 34 then .win f else if s[i] = e then .desc f q else .dbl f q) := by
  rw [drop_lt h, runW]
theorem run_desc : runW s e (s.drop i) i (.desc f q) = runW s e (s.drop (i + 1)) (i + 1) (.dbl f q) := by
  rcases Nat.lt_or_ge i s.length with h | h
  · rw [drop_lt h, runW]
  · rw [List.drop_eq_nil_of_le h, List.drop_eq_nil_of_le (by omega), runW, runW]
theorem run_end_btw (h : s.length ≤ i) : runW s e (s.drop i) i .btw = .inr [] := by rw [List.drop_eq_nil_of_le h, runW]
theorem run_end_win (h : s.length ≤ i) : runW s e (s.drop i) i (.win f) = .inr [⟨f, s.drop f⟩] := by rw [List.drop_eq_nil_of_le h, runW]
theorem run_end_sgl (h : s.length ≤ i) : runW s e (s.drop i) i (.sgl f q) = .inl q := by rw [List.drop_eq_nil_of_le h, runW]
theorem run_end_dbl (h : s.length ≤ i) : runW s e (s.drop i) i (.dbl f q) = .inl q := by rw [List.drop_eq_nil_of_le h, runW]
end
/-- what holds of each word. -/
def WdIn (s : Bs) (w : Wd) : Prop := ∃ k, w.at_ < k ∧ k ≤ s.length ∧ w.raw = sl s w.at_ k
def allIn (s : Bs) : Nat ⊕ List Wd → Prop
  | .inl q => q < s.length
  | .inr l => ∀ w ∈ l, WdIn s w
theorem sl_end (s : Bs) (f : Nat) : s.drop f = sl s f s.length := by rw [sl, List.take_of_length_le (by rw [List.length_drop]; omega)]
theorem allIn_push {s : Bs} {w : Wd} {x : Nat ⊕ List Wd} (hw : WdIn s w) (hx : allIn s x) : allIn s (pushW w x) := by
  cases x with
  | inl q => exact hx
  | inr l =>
    intro y hy
    rcases List.mem_cons.1 hy with rfl | hy
    · exact hw
    · exact hx y hy
def stOk (s : Bs) (i : Nat) : St → Prop
  | .btw => True
  | .win f => f < i ∧ f < s.length
  | .wesc f => f < i ∧ f < s.length
  | .sgl f q => f < i ∧ f < s.length ∧ q < s.length
  | .dbl f q => f < i ∧ f < s.length ∧ q < s.length
  | .desc f q => f < i ∧ f < s.length ∧ q < s.length
theorem inn_ok {s : Bs} {e c : UInt8} {f i : Nat} (hf : f ≤ i) (hi : i < s.length) : stOk s (i + 1) (inn e c f i) := by
  unfold inn
  split
  · exact ⟨by omega, by omega, hi⟩
  · split
    · exact ⟨by omega, by omega, hi⟩
    · split
      · exact ⟨by omega, by omega⟩
      · exact ⟨by omega, by omega⟩
theorem runW_in {s : Bs} {e : UInt8} : ∀ (r : Bs) (i : Nat) (st : St), i + r.length = s.length → stOk s i st → allIn s (runW s e r i st)
  | [], i, .btw, _, _ => by rw [runW]; intro w hw; cases hw
  | [], i, .win f, _, h => by
    rw [runW]
    intro w hw
    rw [List.mem_singleton.1 hw]
    exact ⟨s.length, h.2, Nat.le_refl _, sl_end s f⟩
  | [], i, .wesc f, _, h => by
    rw [runW]
    intro w hw
    rw [List.mem_singleton.1 hw]
    exact ⟨s.length, h.2, Nat.le_refl _, sl_end s f⟩
  | [], i, .sgl f q, _, h => by rw [runW]; exact h.2.2
  | [], i, .dbl f q, _, h => by rw [runW]; exact h.2.2
  | [], i, .desc f q, _, h => by rw [runW]; exact h.2.2
  | c :: r, i, .btw, hl, _ => by
    rw [List.length_cons] at hl
    rw [runW]
    split
    · exact runW_in r (i + 1) _ (by omega) trivial
    · exact runW_in r (i + 1) _ (by omega) (inn_ok (Nat.le_refl _) (by omega))
  | c :: r, i, .win f, hl, h => by
    rw [List.length_cons] at hl
    obtain ⟨h1, h2⟩ := h
    rw [runW]
    split
    · exact allIn_push ⟨i, h1, by omega, rfl⟩ (runW_in r (i + 1) _ (by omega) trivial)
    · exact runW_in r (i + 1) _ (by omega) (inn_ok (by omega) (by omega))
  | c :: r, i, .wesc f, hl, h => by
    rw [List.length_cons] at hl
    rw [runW]
    exact runW_in r (i + 1) _ (by omega) ⟨by have := h.1; omega, h.2⟩
  | c :: r, i, .sgl f q, hl, h => by
    rw [List.length_cons] at hl
    obtain ⟨h1, h2, h3⟩ := h
    rw [runW]
    refine runW_in r (i + 1) _ (by omega) ?_
    split
    · exact ⟨by omega, h2⟩
    · exact ⟨by omega, h2, h3⟩
  | c :: r, i, .dbl f q, hl, h => by
    rw [List.length_cons] at hl
    obtain ⟨h1, h2, h3⟩ := h
    rw [runW]
    refine runW_in r (i + 1) _ (by omega) ?_
    split
    · exact ⟨by omega, h2⟩
    · split
      · exact ⟨by omega, h2, h3⟩
      · exact ⟨by omega, h2, h3⟩
  | c :: r, i, .desc f q, hl, h => by
    rw [List.length_cons] at hl
    obtain ⟨h1, h2, h3⟩ := h
    rw [runW]
    exact runW_in r (i + 1) _ (by omega) ⟨by omega, h2, h3⟩
theorem words_in (s : Bs) (e : UInt8) : allIn s (wordsL s e) := runW_in s 0 .btw (by omega) trivial
theorem sl_len {s : Bs} {f k : Nat} (hk : k ≤ s.length) : (sl s f k).length = k - f := by rw [sl, List.length_take, List.length_drop]; omega
theorem words_at {s : Bs} {e : UInt8} {l : List Wd} (h : wordsL s e = .inr l) : ∀ w ∈ l, w.at_ < s.length ∧ w.raw.length ≤ s.length := by
  have := words_in s e
  rw [h] at this
  intro w hw
  obtain ⟨k, h1, h2, h3⟩ := this w hw
  exact ⟨by omega, by rw [h3, sl_len h2]; omega⟩
theorem words_q {s : Bs} {e : UInt8} {q : Nat} (h : wordsL s e = .inl q) : q < s.length := by
  have := words_in s e
  rw [h] at this
  exact this
/-- so many words at most. -/
theorem runW_count {s : Bs} {e : UInt8} : ∀ (r : Bs) (i : Nat) (st : St) (l : List Wd), runW s e r i st = .inr l → l.length ≤ r.length + 1
  | [], i, st, l, h => by cases st <;> rw [runW] at h <;> first | (injection h with h; subst h; simp) | cases h
  | c :: r, i, .btw, l, h => by
    rw [runW] at h
    split at h
    · have := runW_count r _ _ _ h; simp only [List.length_cons]; omega
    · have := runW_count r _ _ _ h; simp only [List.length_cons]; omega
  | c :: r, i, .win f, l, h => by
    rw [runW] at h
    split at h
    · cases hr : runW s e r (i + 1) .btw with
      | inl q => rw [hr] at h; cases h
      | inr k =>
        rw [hr] at h
        injection h with h
        subst h
        have := runW_count r _ _ _ hr
        simp only [List.length_cons]; omega
    · have := runW_count r _ _ _ h; simp only [List.length_cons]; omega
  | c :: r, i, .wesc f, l, h => by rw [runW] at h; have := runW_count r _ _ _ h; simp only [List.length_cons]; omega
  | c :: r, i, .sgl f q, l, h => by rw [runW] at h; have := runW_count r _ _ _ h; simp only [List.length_cons]; omega
  | c :: r, i, .dbl f q, l, h => by rw [runW] at h; have := runW_count r _ _ _ h; simp only [List.length_cons]; omega
  | c :: r, i, .desc f q, l, h => by rw [runW] at h; have := runW_count r _ _ _ h; simp only [List.length_cons]; omega
theorem words_count {s : Bs} {e : UInt8} {l : List Wd} (h : wordsL s e = .inr l) : l.length ≤ s.length + 1 := runW_count _ _ _ _ h
theorem inn_ne (e c : UInt8) (f i : Nat) : inn e c f i ≠ .btw := by
  unfold inn
  split
  · simp
  · split
    · simp
    · split <;> simp
theorem dbl_ne (e c : UInt8) (f q : Nat) : (if c = 34 then St.win f else if c = e then .desc f q else .dbl f q) ≠ .btw := by
  split
  · simp
  · split <;> simp
/-- within a word there is one. -/
theorem runW_ne {s : Bs} {e : UInt8} : ∀ (r : Bs) (i : Nat) (st : St), st ≠ .btw → runW s e r i st ≠ .inr []
  | [], i, st, hs, h => by cases st <;> rw [runW] at h <;> first | exact hs rfl | (injection h with h; cases h) | cases h
  | c :: r, i, .btw, hs, h => hs rfl
  | c :: r, i, .win f, hs, h => by
    rw [runW] at h
    split at h
    · cases hr : runW s e r (i + 1) .btw <;> rw [hr] at h <;> first | cases h | (injection h with h; cases h)
    · exact runW_ne r _ _ (inn_ne _ _ _ _) h
  | c :: r, i, .wesc f, hs, h => by rw [runW] at h; exact runW_ne r _ _ (by simp) h
  | c :: r, i, .sgl f q, hs, h => by rw [runW] at h; exact runW_ne r _ _ (by split <;> simp) h
  | c :: r, i, .dbl f q, hs, h => by rw [runW] at h; exact runW_ne r _ _ (dbl_ne _ _ _ _) h
  | c :: r, i, .desc f q, hs, h => by rw [runW] at h; exact runW_ne r _ _ (by simp) h
theorem runW_some {s : Bs} {e : UInt8} : ∀ (r : Bs) (i : Nat), r.any (fun c => !blank c) = true → runW s e r i .btw ≠ .inr []
  | [], _, h, _ => by cases h
  | c :: r, i, h, h2 => by
    rw [runW] at h2
    cases hb : blank c with
    | true =>
      rw [if_pos hb] at h2
      exact runW_some r _ (by simpa [hb] using h) h2
    | false =>
      rw [if_neg (by rw [hb]; simp)] at h2
      exact runW_ne r _ _ (inn_ne _ _ _ _) h2
theorem words_some {s : Bs} {e : UInt8} (h : s.any (fun c => !blank c) = true) : wordsL s e ≠ .inr [] := runW_some s 0 h
end Lx
end Go.Proofs.YtpgnfianffjpnaaGreatDoor
