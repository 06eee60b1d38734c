/- The words of a line, plain: what layer 13 says, as a machine that reads byte by byte. The lines of a build file, plain: what layer 14 says. What is wrong with a build file by itself, plain: one spec for the program and the document. -/
import Derived.Test.YtnlkmljdcmfogaaGreatDoorCut0
namespace Go.Proofs.YtnlkmljdcmfogaaGreatDoor
open Go Go.RowKit
namespace Lx
abbrev Bs := List UInt8
def blank (c : UInt8) : Bool := c == 32 || c == 9 || c == 13
theorem blank_bls (c : UInt8) : Gl.bls.contains c = blank c := by rw [Bool.eq_iff_iff]; simp [blank, or_assoc]
def escOf (c : UInt8) : UInt8 := if c = 96 then 96 else 92
structure Wd where
  at_ : Nat
  raw : Bs
/-- where the machine stands; f: where the word begins, q: where its quote does. -/
inductive St where
  | btw
  | win (f : Nat)
  | wesc (f : Nat)
  | sgl (f q : Nat)
  | dbl (f q : Nat)
  | desc (f q : Nat)
def sl (s : Bs) (f i : Nat) : Bs := (s.drop f).take (i - f)
def inn (e c : UInt8) (f i : Nat) : St := if c = 39 then .sgl f i else if c = 34 then .dbl f i else if c = e then .wesc f else .win f
def pushW (x : Wd) : Nat ⊕ List Wd → Nat ⊕ List Wd
  | .inl q => .inl q
  | .inr l => .inr (x :: l)
/-- the words; or the place of the quote that has no end. -/
def runW (s : Bs) (e : UInt8) : Bs → Nat → St → Nat ⊕ List Wd
  | [], _, .btw => .inr []
  | [], _, .win f => .inr [⟨f, s.drop f⟩]
  | [], _, .wesc f => .inr [⟨f, s.drop f⟩]
  | [], _, .sgl _ q => .inl q
  | [], _, .dbl _ q => .inl q
  | [], _, .desc _ q => .inl q
  | c :: r, i, .btw => if blank c then runW s e r (i + 1) .btw else runW s e r (i + 1) (inn e c i i)
  | c :: r, i, .win f => if blank c then pushW ⟨f, sl s f i⟩ (runW s e r (i + 1) .btw) else runW s e r (i + 1) (inn e c f i)
  | _ :: r, i, .wesc f => runW s e r (i + 1) (.win f)
  | c :: r, i, .sgl f q => runW s e r (i + 1) (if c = 39 then .win f else .sgl f q)
  | c :: r, i, .dbl f q => runW s e r (i + 1) (if c = 34 then .win f else if c = e then .desc f q else .dbl f q)
  | _ :: r, i, .desc f q => runW s e r (i + 1) (.dbl f q)
def wordsL (s : Bs) (esc : UInt8) : Nat ⊕ List Wd := runW s (escOf esc) s 0 .btw
/-- words ahead. -/
def putW (l : List Wd) : Nat ⊕ List Wd → Nat ⊕ List Wd
  | .inl q => .inl q
  | .inr r => .inr (l ++ r)
theorem putW_nil (x : Nat ⊕ List Wd) : putW [] x = x := by cases x <;> rfl
theorem putW_push (l : List Wd) (w : Wd) (x : Nat ⊕ List Wd) : putW l (pushW w x) = putW (l ++ [w]) x := by cases x <;> simp [putW, pushW]
section
variable {s : Bs} {e : UInt8} {i f q : Nat}
theorem drop_lt (h : i < s.length) : s.drop i = s[i] :: s.drop (i + 1) := List.drop_eq_getElem_cons h
theorem run_btw_blank (h : i < s.length) (hb : blank s[i] = true) : runW s e (s.drop i) i .btw = runW s e (s.drop (i + 1)) (i + 1) .btw := by
  rw [drop_lt h, runW, if_pos hb]
theorem run_btw_in (h : i < s.length) (hb : blank s[i] = false) : runW s e (s.drop i) i .btw = runW s e (s.drop (i + 1)) (i + 1) (inn e s[i] i i) := by
  rw [drop_lt h, runW, if_neg (by rw [hb]; simp)]
theorem run_win_blank (h : i < s.length) (hb : blank s[i] = true) : runW s e (s.drop i) i (.win f) = pushW ⟨f, sl s f i⟩ (runW s e (s.drop (i + 1)) (i + 1) .btw) := by
  rw [drop_lt h, runW, if_pos hb]
theorem run_win_in (h : i < s.length) (hb : blank s[i] = false) : runW s e (s.drop i) i (.win f) = runW s e (s.drop (i + 1)) (i + 1) (inn e s[i] f i) := by
  rw [drop_lt h, runW, if_neg (by rw [hb]; simp)]
theorem run_wesc : runW s e (s.drop i) i (.wesc f) = runW s e (s.drop (i + 1)) (i + 1) (.win f) := by
  rcases Nat.lt_or_ge i s.length with h | h
  · rw [drop_lt h, runW]
  · rw [List.drop_eq_nil_of_le h, List.drop_eq_nil_of_le (by omega), runW, runW]
theorem run_sgl (h : i < s.length) : runW s e (s.drop i) i (.sgl f q) = runW s e (s.drop (i + 1)) (i + 1) (if s[i] = 39 then .win f else .sgl f q) := by
  rw [drop_lt h, runW]
theorem run_dbl (h : i < s.length) : runW s e (s.drop i) i (.dbl f q) = runW s e (s.drop (i + 1)) (i + 1) (if s[i] = 34 then .win f else if s[i] = e then .desc f q else .dbl f q) := by
  rw [drop_lt h, runW]
theorem run_desc : runW s e (s.drop i) i (.desc f q) = runW s e (s.drop (i + 1)) (i + 1) (.dbl f q) := by
  rcases Nat.lt_or_ge i s.length with h | h
  · rw [drop_lt h, runW]
  · rw [List.drop_eq_nil_of_le h, List.drop_eq_nil_of_le (by omega), runW, runW]
theorem run_end_btw (h : s.length ≤ i) : runW s e (s.drop i) i .btw = .inr [] := by rw [List.drop_eq_nil_of_le h, runW]
theorem run_end_win (h : s.length ≤ i) : runW s e (s.drop i) i (.win f) = .inr [⟨f, s.drop f⟩] := by rw [List.drop_eq_nil_of_le h, runW]
theorem run_end_sgl (h : s.length ≤ i) : runW s e (s.drop i) i (.sgl f q) = .inl q := by rw [List.drop_eq_nil_of_le h, runW]
theorem run_end_dbl (h : s.length ≤ i) : runW s e (s.drop i) i (.dbl f q) = .inl q := by rw [List.drop_eq_nil_of_le h, runW]
end
/-- what holds of each word. -/
def WdIn (s : Bs) (w : Wd) : Prop := ∃ k, w.at_ < k ∧ k ≤ s.length ∧ w.raw = sl s w.at_ k
def allIn (s : Bs) : Nat ⊕ List Wd → Prop
  | .inl q => q < s.length
  | .inr l => ∀ w ∈ l, WdIn s w
theorem sl_end (s : Bs) (f : Nat) : s.drop f = sl s f s.length := by rw [sl, List.take_of_length_le (by rw [List.length_drop]; omega)]
theorem allIn_push {s : Bs} {w : Wd} {x : Nat ⊕ List Wd} (hw : WdIn s w) (hx : allIn s x) : allIn s (pushW w x) := by
  cases x with
  | inl q => exact hx
  | inr l =>
    intro y hy
    rcases List.mem_cons.1 hy with rfl | hy
    · exact hw
    · exact hx y hy
def stOk (s : Bs) (i : Nat) : St → Prop
  | .btw => True
  | .win f => f < i ∧ f < s.length
  | .wesc f => f < i ∧ f < s.length
  | .sgl f q => f < i ∧ f < s.length ∧ q < s.length
  | .dbl f q => f < i ∧ f < s.length ∧ q < s.length
  | .desc f q => f < i ∧ f < s.length ∧ q < s.length
theorem inn_ok {s : Bs} {e c : UInt8} {f i : Nat} (hf : f ≤ i) (hi : i < s.length) : stOk s (i + 1) (inn e c f i) := by
  unfold inn
  split
  · exact ⟨by omega, by omega, hi⟩
  · split
    · exact ⟨by omega, by omega, hi⟩
    · split
      · exact ⟨by omega, by omega⟩
      · exact ⟨by omega, by omega⟩
theorem runW_in {s : Bs} {e : UInt8} : ∀ (r : Bs) (i : Nat) (st : St), i + r.length = s.length → stOk s i st → allIn s (runW s e r i st)
  | [], i, .btw, _, _ => by rw [runW]; intro w hw; cases hw
  | [], i, .win f, _, h => by
    rw [runW]
    intro w hw
    rw [List.mem_singleton.1 hw]
    exact ⟨s.length, h.2, Nat.le_refl _, sl_end s f⟩
  | [], i, .wesc f, _, h => by
    rw [runW]
    intro w hw
    rw [List.mem_singleton.1 hw]
    exact ⟨s.length, h.2, Nat.le_refl _, sl_end s f⟩
  | [], i, .sgl f q, _, h => by rw [runW]; exact h.2.2
  | [], i, .dbl f q, _, h => by rw [runW]; exact h.2.2
  | [], i, .desc f q, _, h => by rw [runW]; exact h.2.2
  | c :: r, i, .btw, hl, _ => by
    rw [List.length_cons] at hl
    rw [runW]
    split
    · exact runW_in r (i + 1) _ (by omega) trivial
    · exact runW_in r (i + 1) _ (by omega) (inn_ok (Nat.le_refl _) (by omega))
  | c :: r, i, .win f, hl, h => by
    rw [List.length_cons] at hl
    obtain ⟨h1, h2⟩ := h
    rw [runW]
    split
    · exact allIn_push ⟨i, h1, by omega, rfl⟩ (runW_in r (i + 1) _ (by omega) trivial)
    · exact runW_in r (i + 1) _ (by omega) (inn_ok (by omega) (by omega))
  | c :: r, i, .wesc f, hl, h => by
    rw [List.length_cons] at hl
    rw [runW]
    exact runW_in r (i + 1) _ (by omega) ⟨by have := h.1; omega, h.2⟩
  | c :: r, i, .sgl f q, hl, h => by
    rw [List.length_cons] at hl
    obtain ⟨h1, h2, h3⟩ := h
    rw [runW]
    refine runW_in r (i + 1) _ (by omega) ?_
    split
    · exact ⟨by omega, h2⟩
    · exact ⟨by omega, h2, h3⟩
  | c :: r, i, .dbl f q, hl, h => by
    rw [List.length_cons] at hl
    obtain ⟨h1, h2, h3⟩ := h
    rw [runW]
    refine runW_in r (i + 1) _ (by omega) ?_
    split
    · exact ⟨by omega, h2⟩
    · split
      · exact ⟨by omega, h2, h3⟩
      · exact ⟨by omega, h2, h3⟩
  | c :: r, i, .desc f q, hl, h => by
    rw [List.length_cons] at hl
    obtain ⟨h1, h2, h3⟩ := h
    rw [runW]
    exact runW_in r (i + 1) _ (by omega) ⟨by omega, h2, h3⟩
theorem words_in (s : Bs) (e : UInt8) : allIn s (wordsL s e) := runW_in s 0 .btw (by omega) trivial
theorem sl_len {s : Bs} {f k : Nat} (hk : k ≤ s.length) : (sl s f k).length = k - f := by rw [sl, List.length_take, List.length_drop]; omega
theorem words_at {s : Bs} {e : UInt8} {l : List Wd} (h : wordsL s e = .inr l) : ∀ w ∈ l, w.at_ < s.length ∧ w.raw.length ≤ s.length := by
  have := words_in s e
  rw [h] at this
  intro w hw
  obtain ⟨k, h1, h2, h3⟩ := this w hw
  exact ⟨by omega, by rw [h3, sl_len h2]; omega⟩
theorem words_q {s : Bs} {e : UInt8} {q : Nat} (h : wordsL s e = .inl q) : q < s.length := by
  have := words_in s e
  rw [h] at this
  exact this
/-- so many words at most. -/
theorem runW_count {s : Bs} {e : UInt8} : ∀ (r : Bs) (i : Nat) (st : St) (l : List Wd), runW s e r i st = .inr l → l.length ≤ r.length + 1
  | [], i, st, l, h => by cases st <;> rw [runW] at h <;> first | (injection h with h; subst h; simp) | cases h
  | c :: r, i, .btw, l, h => by
    rw [runW] at h
    split at h
    · have := runW_count r _ _ _ h; simp only [List.length_cons]; omega
    · have := runW_count r _ _ _ h; simp only [List.length_cons]; omega
  | c :: r, i, .win f, l, h => by
    rw [runW] at h
    split at h
    · cases hr : runW s e r (i + 1) .btw with
      | inl q => rw [hr] at h; cases h
      | inr k =>
        rw [hr] at h
        injection h with h
        subst h
        have := runW_count r _ _ _ hr
        simp only [List.length_cons]; omega
    · have := runW_count r _ _ _ h; simp only [List.length_cons]; omega
  | c :: r, i, .wesc f, l, h => by rw [runW] at h; have := runW_count r _ _ _ h; simp only [List.length_cons]; omega
  | c :: r, i, .sgl f q, l, h => by rw [runW] at h; have := runW_count r _ _ _ h; simp only [List.length_cons]; omega
  | c :: r, i, .dbl f q, l, h => by rw [runW] at h; have := runW_count r _ _ _ h; simp only [List.length_cons]; omega
  | c :: r, i, .desc f q, l, h => by rw [runW] at h; have := runW_count r _ _ _ h; simp only [List.length_cons]; omega
theorem words_count {s : Bs} {e : UInt8} {l : List Wd} (h : wordsL s e = .inr l) : l.length ≤ s.length + 1 := runW_count _ _ _ _ h
theorem inn_ne (e c : UInt8) (f i : Nat) : inn e c f i ≠ .btw := by
  unfold inn
  split
  · simp
  · split
    · simp
    · split <;> simp
theorem dbl_ne (e c : UInt8) (f q : Nat) : (if c = 34 then St.win f else if c = e then .desc f q else .dbl f q) ≠ .btw := by
  split
  · simp
  · split <;> simp
/-- within a word there is one. -/
theorem runW_ne {s : Bs} {e : UInt8} : ∀ (r : Bs) (i : Nat) (st : St), st ≠ .btw → runW s e r i st ≠ .inr []
  | [], i, st, hs, h => by cases st <;> rw [runW] at h <;> first | exact hs rfl | (injection h with h; cases h) | cases h
  | c :: r, i, .btw, hs, h => hs rfl
  | c :: r, i, .win f, hs, h => by
    rw [runW] at h
    split at h
    · cases hr : runW s e r (i + 1) .btw <;> rw [hr] at h <;> first | cases h | (injection h with h; cases h)
    · exact runW_ne r _ _ (inn_ne _ _ _ _) h
  | c :: r, i, .wesc f, hs, h => by rw [runW] at h; exact runW_ne r _ _ (by simp) h
  | c :: r, i, .sgl f q, hs, h => by rw [runW] at h; exact runW_ne r _ _ (by split <;> simp) h
  | c :: r, i, .dbl f q, hs, h => by rw [runW] at h; exact runW_ne r _ _ (dbl_ne _ _ _ _) h
  | c :: r, i, .desc f q, hs, h => by rw [runW] at h; exact runW_ne r _ _ (by simp) h
theorem runW_some {s : Bs} {e : UInt8} : ∀ (r : Bs) (i : Nat), r.any (fun c => !blank c) = true → runW s e r i .btw ≠ .inr []
  | [], _, h, _ => by cases h
  | c :: r, i, h, h2 => by
    rw [runW] at h2
    cases hb : blank c with
    | true =>
      rw [if_pos hb] at h2
      exact runW_some r _ (by simpa [hb] using h) h2
    | false =>
      rw [if_neg (by rw [hb]; simp)] at h2
      exact runW_ne r _ _ (inn_ne _ _ _ _) h2
theorem words_some {s : Bs} {e : UInt8} (h : s.any (fun c => !blank c) = true) : wordsL s e ≠ .inr [] := runW_some s 0 h
end Lx
end Go.Proofs.YtnlkmljdcmfogaaGreatDoor
namespace Go.Proofs.YtnlkmljdcmfogaaGreatDoor
open Go Go.RowKit
namespace Lx
/-- how many bytes a character has that begins with these; 0: none does. -/
def charN (n b0 b1 b2 b3 : Nat) : Nat :=
  if b0 < 128 then 1
  else if 194 ≤ b0 ∧ b0 ≤ 223 then (if 2 ≤ n ∧ (128 ≤ b1 ∧ b1 ≤ 191) then 2 else 0)
  else if 224 ≤ b0 ∧ b0 ≤ 239 then (if 3 ≤ n ∧ ((if b0 = 224 then 160 else 128) ≤ b1 ∧ b1 ≤ (if b0 = 237 then 159 else 191)) ∧ (128 ≤ b2 ∧ b2 ≤ 191) then 3 else 0)
  else if 240 ≤ b0 ∧ b0 ≤ 244 then (if 4 ≤ n ∧ ((if b0 = 240 then 144 else 128) ≤ b1 ∧ b1 ≤ (if b0 = 244 then 143 else 191)) ∧ (128 ≤ b2 ∧ b2 ≤ 191) ∧ (128 ≤ b3 ∧ b3 ≤ 191) then 4 else 0)
  else 0
def charLen (l : Bs) : Nat := charN l.length (l.getD 0 0).toNat (l.getD 1 0).toNat (l.getD 2 0).toNat (l.getD 3 0).toNat
/-- the line and place at which no character begins. -/
def wrongL : Bs → Nat → Nat → Nat → Nat → Option (Nat × Nat)
  | [], _, _, _, _ => none
  | _ :: r, k + 1, i, line, f => wrongL r k (i + 1) line f
  | c :: r, 0, i, line, f => match charLen (c :: r) with
    | 0 => some (line, i - f + 1)
    | n + 1 => wrongL r n (i + 1) (if c = 10 then line + 1 else line) (if c = 10 then i + 1 else f)
theorem wrongL_skip : ∀ (k : Nat) (l : Bs) (i line f : Nat), wrongL l k i line f = wrongL (l.drop k) 0 (i + k) line f
  | 0, l, i, line, f => by rw [List.drop_zero, Nat.add_zero]
  | k + 1, [], i, line, f => by rw [List.drop_nil, wrongL, wrongL]
  | k + 1, c :: r, i, line, f => by rw [wrongL, List.drop_succ_cons, wrongL_skip k r, show i + 1 + k = i + (k + 1) by omega]
theorem wrong_at {s : Bs} {i line f : Nat} (h : i < s.length) (h0 : charLen (s.drop i) = 0) : wrongL (s.drop i) 0 i line f = some (line, i - f + 1) := by
  rw [List.drop_eq_getElem_cons h] at h0 ⊢
  rw [wrongL, h0]
theorem wrong_go {s : Bs} {i line f n : Nat} (h : i < s.length) (h0 : charLen (s.drop i) = n + 1) :
    wrongL (s.drop i) 0 i line f = wrongL (s.drop (i + (n + 1))) 0 (i + (n + 1)) (if s[i] = 10 then line + 1 else line) (if s[i] = 10 then i + 1 else f) := by
  rw [List.drop_eq_getElem_cons h] at h0 ⊢
  rw [wrongL, h0]
  simp only
  rw [wrongL_skip, List.drop_drop, show i + 1 + n = i + (n + 1) by omega]
theorem wrong_end {s : Bs} {i line f : Nat} (h : s.length ≤ i) : wrongL (s.drop i) 0 i line f = none := by rw [List.drop_eq_nil_of_le h, wrongL]
theorem charN_le (n b0 b1 b2 b3 : Nat) (h : 1 ≤ n) : charN n b0 b1 b2 b3 ≤ n := by
  unfold charN
  repeat' split
  all_goals omega

/-- the file's lines. -/
def dropE (l : List Bs) : List Bs := if l.getLast? = some [] then l.dropLast else l
def cr (x : Bs) : Bs := Lib.trimRightS x [13]
def fileL (s : Bs) : List Bs := (dropE (Gl.cutL 10 s)).map cr
theorem dropE_cons (x : Bs) {l : List Bs} (h : l ≠ []) : dropE (x :: l) = x :: dropE l := by
  unfold dropE
  cases l with
  | nil => exact absurd rfl h
  | cons y r =>
    rw [List.getLast?_cons_cons]
    split
    · rfl
    · rfl
theorem cutL_nn (k : UInt8) (s : Bs) : Gl.cutL k s ≠ [] := by rw [Gl.cutL_ne]; simp
theorem fileL_cut (a r : Bs) (h : ∀ c ∈ a, c ≠ 10) : fileL (a ++ 10 :: r) = cr a :: fileL r := by
  rw [fileL, Gl.cutL_cut 10 a r h, dropE_cons _ (cutL_nn 10 r), List.map_cons]; rfl
theorem fileL_nil : fileL [] = [] := rfl
theorem fileL_one (a : Bs) (h : ∀ c ∈ a, c ≠ 10) (hne : a ≠ []) : fileL a = [cr a] := by
  rw [fileL, Gl.cutL_no 10 a h, dropE]
  rw [if_neg (by simp; exact hne)]
  rfl
theorem dropE_le (l : List Bs) : (dropE l).length ≤ l.length := by
  unfold dropE; split <;> simp
theorem dropE_sub {l : List Bs} {x : Bs} (h : x ∈ dropE l) : x ∈ l := by
  unfold dropE at h; split at h
  · exact List.dropLast_subset _ h
  · exact h
theorem fileL_count (s : Bs) : (fileL s).length ≤ s.length + 1 := by
  rw [fileL, List.length_map]
  exact Nat.le_trans (dropE_le _) (Gl.cutL_length 10 s)
theorem trimR_le (x cs : Bs) : (Lib.trimRightS x cs).length ≤ x.length := by
  unfold Lib.trimRightS
  rw [List.length_reverse]
  exact Nat.le_trans (List.dropWhile_sublist _).length_le (by rw [List.length_reverse]; exact Nat.le_refl _)
theorem trimL_le (x cs : Bs) : (Lib.trimLeftS x cs).length ≤ x.length := (List.dropWhile_sublist _).length_le
theorem fileL_len {s x : Bs} (h : x ∈ fileL s) : x.length ≤ s.length := by
  obtain ⟨y, hy, rfl⟩ := List.mem_map.1 h
  exact Nat.le_trans (trimR_le y [13]) (Gl.cutL_piece 10 s y (dropE_sub hy))

/-! ### lines -/
def headN (l : Bs) : Nat := l.length - (Gl.lft l).length
def rgt (l : Bs) : Bs := Lib.trimRightS l Gl.bls
theorem lft_drop (l : Bs) : Gl.lft l = l.drop (headN l) := by
  have e : l = l.takeWhile (Gl.bls.contains ·) ++ Gl.lft l := (List.takeWhile_append_dropWhile ..).symm
  have h2 : headN l = (l.takeWhile (Gl.bls.contains ·)).length := by
    have := congrArg List.length e
    rw [List.length_append] at this
    unfold headN; omega
  rw [h2]
  generalize l.takeWhile (Gl.bls.contains ·) = a at e
  conv => rhs; rw [e]
  rw [List.drop_left]
theorem headN_le (l : Bs) : headN l ≤ l.length := by unfold headN; omega
def nothingL (l : Bs) : Bool := match Gl.lft l with
  | [] => true
  | c :: _ => c == 35
def low (c : UInt8) : UInt8 := if 65 ≤ c ∧ c ≤ 90 then c + 32 else c
def sameL (s w : Bs) : Bool := s.map low == w
abbrev escW : Bs := [101, 115, 99, 97, 112, 101]
abbrev copyW : Bs := [99, 111, 112, 121]
/-- where the value of a directive begins. -/
def dirP (line : Bs) : Option Nat := match Gl.lft line with
  | [] => none
  | c :: r => if c = 35 then (if sameL ((Gl.lft r).take 6) escW then (match Gl.lft ((Gl.lft r).drop 6) with
    | [] => none
    | d :: v => if d = 61 then some (line.length - v.length) else none) else none) else none
def dirV (line : Bs) (p : Nat) : Bs := Gl.trimL (line.drop p)
abbrev Err := Nat × Int × Int
/-- the directives: how many, the escape. -/
def dirsL : List Bs → Err ⊕ (Nat × UInt8)
  | [] => .inr (0, 92)
  | x :: r => match dirP x with
    | none => .inr (0, 92)
    | some p => match dirV x p with
      | [c] => if c = 92 ∨ c = 96 then (match r with
          | [] => .inr (1, c)
          | y :: _ => if (dirP y).isSome then .inl (11, 2, (headN y : Int) + 1) else .inr (1, c))
        else .inl (4, 1, (p : Int))
      | _ => .inl (4, 1, (p : Int))
structure Mk where
  at_ : Int
  line : Int
  col : Int
structure Dc where
  name : Bs
  raw : Bool
  line : Int
  text : Bs
structure Ln where
  line : Int
  text : Bs
  marks : List Mk
  docs : List Dc
abbrev w64 (x : Int) : Int := IntKind.i64.wrap x
def clampL (l : Ln) (a : Int) : Int := max 0 (min a l.text.length)
def placeM (ms : List Mk) (a : Int) (d : Int × Int) : Int × Int := ms.foldl (fun r m => if m.at_ ≤ a then (m.line, w64 (m.col + w64 (a - m.at_))) else r) d
/-- where a byte of a line stands. -/
def placeL (l : Ln) (a : Int) : Int × Int := placeM l.marks (clampL l a) (l.line, clampL l a + 1)
theorem placeM_snoc (ms : List Mk) (m : Mk) (a : Int) (d : Int × Int) : placeM (ms ++ [m]) a d = if m.at_ ≤ a then (m.line, w64 (m.col + w64 (a - m.at_))) else placeM ms a d := by
  rw [placeM, List.foldl_append]; rfl
abbrev Acc := Bs × List Mk
def addL (a : Acc) (x : Bs) (n ahead : Nat) : Acc := if x = [] then a else (a.1 ++ x, a.2 ++ [⟨(a.1.length : Int), (n : Int), (ahead : Int) + 1⟩])
def onL (e : UInt8) (x : Bs) : Bool := (rgt x).getLast? == some e
/-- a line is put behind; does it go on? -/
def moreL (e : UInt8) (a : Acc) (line : Bs) (n ahead : Nat) : Acc :=
  if onL e (line.drop ahead) then addL a (rgt (line.drop ahead)).dropLast n ahead else addL a (line.drop ahead) n ahead
def goJ (e : UInt8) : List Bs → Nat → Acc → Acc × Nat
  | [], i, a => (a, i)
  | x :: r, i, a => if nothingL x then goJ e r (i + 1) a else if onL e x then goJ e r (i + 1) (moreL e a x (i + 1) 0) else (moreL e a x (i + 1) 0, i + 1)
def joinL (e : UInt8) (x : Bs) (r : List Bs) (i : Nat) : Acc × Nat :=
  if onL e (x.drop (headN x)) then goJ e r (i + 1) (moreL e ([], []) x (i + 1) (headN x)) else (moreL e ([], []) x (i + 1) (headN x), i + 1)
def copL (text : Bs) : Bool := decide (4 < (Gl.lft text).length) && sameL ((Gl.lft text).take 4) copyW && blank ((Gl.lft text).getD 4 0)
def quotedB (s : Bs) : Bool := decide (2 ≤ s.length) && (s.head? == some 34 || s.head? == some 39) && s.getLast? == s.head?
def letter (c : UInt8) : Bool := (97 ≤ c && c ≤ 122) || (65 ≤ c && c ≤ 90) || c == 95 || (48 ≤ c && c ≤ 57)
def nameOk (n : Bs) : Bool := n.all letter && n != [] && decide (n.length ≤ 96)
def openName (raw : Bs) : Bs := if quotedB (Lib.trimPrefix (raw.drop 2) [45]) then (Lib.trimPrefix (raw.drop 2) [45]).tail.dropLast else Lib.trimPrefix (raw.drop 2) [45]
def openTabs (raw : Bs) : Bool := Lib.hasPrefix (raw.drop 2) [45]
def openRaw (raw : Bs) : Bool := quotedB (Lib.trimPrefix (raw.drop 2) [45])
def bare (tabs : Bool) (x : Bs) : Bs := if tabs then Lib.trimLeftS x [9] else x
/-- a document's text, and how many lines it takes. -/
def bodyL (name : Bs) (tabs : Bool) : List Bs → Bs → Nat → Option (Bs × Nat)
  | [], _, _ => none
  | x :: r, acc, k => if bare tabs x = name then some (acc, k + 1) else bodyL name tabs r (acc ++ bare tabs x ++ [10]) (k + 1)
abbrev isDoc (raw : Bs) : Bool := [60, 60].isPrefixOf raw
def errAt (n : Nat) (p : Int × Int) : Err := (n, p.1, p.2)
def docsW (L : List Bs) (ln : Ln) : List Wd → Nat → List Dc → Err ⊕ (List Dc × Nat)
  | [], j, acc => .inr (acc, j)
  | w :: ws, j, acc => if isDoc w.raw then (if nameOk (openName w.raw) then (match bodyL (openName w.raw) (openTabs w.raw) (L.drop j) [] j with
      | none => .inl (errAt 26 (placeL ln w.at_))
      | some (t, k) => docsW L ln ws k (acc ++ [⟨openName w.raw, openRaw w.raw, (j : Int) + 1, t⟩]))
    else .inl (errAt 26 (placeL ln w.at_))) else docsW L ln ws j acc
def docsL (e : UInt8) (L : List Bs) (ln : Ln) (j : Nat) : Err ⊕ (List Dc × Nat) :=
  if copL ln.text then (match wordsL ln.text e with
    | .inl q => .inl (errAt 18 (placeL ln q))
    | .inr ws => docsW L ln ws.tail j []) else .inr ([], j)
def empty (t : Bs) : Bool := (Gl.lft t).isEmpty
/-- the lines of a build file, from line i of the file on. -/
def mainL (e : UInt8) (L : List Bs) : List Bs → Nat → Nat → List Ln → Err ⊕ List Ln
  | [], _, _, acc => .inr acc
  | _ :: r, k + 1, i, acc => mainL e L r k (i + 1) acc
  | x :: r, 0, i, acc => if nothingL x then mainL e L r 0 (i + 1) acc else
    if empty (joinL e x r i).1.1 then mainL e L r ((joinL e x r i).2 - (i + 1)) (i + 1) acc else
      match docsL e L ⟨(i : Int) + 1, (joinL e x r i).1.1, (joinL e x r i).1.2, []⟩ (joinL e x r i).2 with
      | .inl z => .inl z
      | .inr (ds, m) => mainL e L r (m - (i + 1)) (i + 1) (acc ++ [⟨(i : Int) + 1, (joinL e x r i).1.1, (joinL e x r i).1.2, ds⟩])
def linesL (s : Bs) : Err ⊕ (UInt8 × List Ln) :=
  if 65536 < s.length then .inl (5, 0, 0) else match wrongL s 0 0 1 0 with
  | some (l, a) => .inl (6, (l : Int), (a : Int))
  | none => if 4096 < (fileL s).length then .inl (5, 4097, 1) else match dirsL (fileL s) with
    | .inl z => .inl z
    | .inr (n, e) => match mainL e (fileL s) ((fileL s).drop n) 0 n [] with
      | .inl z => .inl z
      | .inr ls => .inr (e, ls)
theorem mainL_skip {e : UInt8} {L : List Bs} : ∀ (k : Nat) (l : List Bs) (i : Nat) (acc : List Ln), mainL e L l k i acc = mainL e L (l.drop k) 0 (i + k) acc
  | 0, l, i, acc => by rw [List.drop_zero, Nat.add_zero]
  | k + 1, [], i, acc => by rw [List.drop_nil, mainL, mainL]
  | k + 1, c :: r, i, acc => by rw [mainL, List.drop_succ_cons, mainL_skip k r, show i + 1 + k = i + (k + 1) by omega]
theorem goJ_le {e : UInt8} : ∀ (r : List Bs) (i : Nat) (a : Acc), i ≤ (goJ e r i a).2 ∧ (goJ e r i a).2 ≤ i + r.length
  | [], i, a => by rw [goJ]; simp
  | x :: r, i, a => by
    rw [goJ, List.length_cons]
    split
    · have := goJ_le (e := e) r (i + 1) a; omega
    · split
      · have := goJ_le (e := e) r (i + 1) (moreL e a x (i + 1) 0); omega
      · simp only; omega
theorem joinL_le {e : UInt8} (x : Bs) (r : List Bs) (i : Nat) : i + 1 ≤ (joinL e x r i).2 ∧ (joinL e x r i).2 ≤ i + 1 + r.length := by
  rw [joinL]
  split
  · exact goJ_le r (i + 1) _
  · simp only; omega
theorem bodyL_le {name : Bs} {tabs : Bool} : ∀ (r : List Bs) (acc : Bs) (k : Nat) (t : Bs) (m : Nat), bodyL name tabs r acc k = some (t, m) → k < m ∧ m ≤ k + r.length
  | [], acc, k, t, m, h => by rw [bodyL] at h; cases h
  | x :: r, acc, k, t, m, h => by
    rw [bodyL] at h
    split at h
    · injection h with h; injection h with _ h; rw [List.length_cons]; omega
    · have := bodyL_le r _ _ t m h; rw [List.length_cons]; omega
theorem docsW_le {L : List Bs} {ln : Ln} : ∀ (ws : List Wd) (j : Nat) (acc : List Dc) (ds : List Dc) (m : Nat), docsW L ln ws j acc = .inr (ds, m) → j ≤ m ∧ (j ≤ L.length → m ≤ L.length)
  | [], j, acc, ds, m, h => by rw [docsW] at h; injection h with h; injection h with _ h; omega
  | w :: ws, j, acc, ds, m, h => by
    rw [docsW] at h
    split at h
    · split at h
      · cases hb : bodyL (openName w.raw) (openTabs w.raw) (L.drop j) [] j with
        | none => rw [hb] at h; cases h
        | some tk =>
          obtain ⟨t, k⟩ := tk
          rw [hb] at h
          have h1 := bodyL_le _ _ _ _ _ hb
          rw [List.length_drop] at h1
          have h2 := docsW_le ws k _ ds m h
          exact ⟨by omega, fun hj => h2.2 (by omega)⟩
      · cases h
    · exact docsW_le ws j acc ds m h
theorem docsL_le {e : UInt8} {L : List Bs} {ln : Ln} {j : Nat} {ds : List Dc} {m : Nat} (h : docsL e L ln j = .inr (ds, m)) : j ≤ m ∧ (j ≤ L.length → m ≤ L.length) := by
  rw [docsL] at h
  split at h
  · split at h
    · cases h
    · exact docsW_le _ _ _ _ _ h
  · injection h with h; injection h with _ h; omega
section
variable {e : UInt8} {L : List Bs} {i : Nat} {acc : List Ln}
theorem main_end (h : L.length ≤ i) : mainL e L (L.drop i) 0 i acc = .inr acc := by rw [List.drop_eq_nil_of_le h, mainL]
theorem main_nothing (h : i < L.length) (hn : nothingL L[i] = true) : mainL e L (L.drop i) 0 i acc = mainL e L (L.drop (i + 1)) 0 (i + 1) acc := by
  rw [List.drop_eq_getElem_cons h, mainL, if_pos hn]
theorem main_empty (h : i < L.length) (hn : nothingL L[i] = false) {t : Acc} {j : Nat} (hj : joinL e L[i] (L.drop (i + 1)) i = (t, j)) (he : empty t.1 = true) :
    mainL e L (L.drop i) 0 i acc = mainL e L (L.drop j) 0 j acc := by
  have hle := joinL_le (e := e) L[i] (L.drop (i + 1)) i
  rw [hj] at hle
  rw [List.drop_eq_getElem_cons h, mainL, if_neg (by rw [hn]; simp), hj, if_pos he, mainL_skip, List.drop_drop, show i + 1 + (j - (i + 1)) = j by have := hle.1; simp only at this; omega]
theorem main_err (h : i < L.length) (hn : nothingL L[i] = false) {t : Acc} {j : Nat} (hj : joinL e L[i] (L.drop (i + 1)) i = (t, j)) (he : empty t.1 = false) {z : Err} (hd : docsL e L ⟨(i : Int) + 1, t.1, t.2, []⟩ j = .inl z) :
    mainL e L (L.drop i) 0 i acc = .inl z := by
  rw [List.drop_eq_getElem_cons h, mainL, if_neg (by rw [hn]; simp), hj, if_neg (by rw [he]; simp)]
  simp only
  rw [hd]
theorem main_line (h : i < L.length) (hn : nothingL L[i] = false) {t : Acc} {j : Nat} (hj : joinL e L[i] (L.drop (i + 1)) i = (t, j)) (he : empty t.1 = false) {ds : List Dc} {m : Nat} (hd : docsL e L ⟨(i : Int) + 1, t.1, t.2, []⟩ j = .inr (ds, m)) :
    mainL e L (L.drop i) 0 i acc = mainL e L (L.drop m) 0 m (acc ++ [⟨(i : Int) + 1, t.1, t.2, ds⟩]) := by
  have hle := joinL_le (e := e) L[i] (L.drop (i + 1)) i
  rw [hj] at hle
  have hm := docsL_le hd
  rw [List.drop_eq_getElem_cons h, mainL, if_neg (by rw [hn]; simp), hj, if_neg (by rw [he]; simp)]
  simp only
  rw [hd]
  simp only
  rw [mainL_skip, List.drop_drop, show i + 1 + (m - (i + 1)) = m by have := hle.1; simp only at this; omega]
end
end Lx
end Go.Proofs.YtnlkmljdcmfogaaGreatDoor
namespace Go.Proofs.YtnlkmljdcmfogaaGreatDoor
open Go Go.RowKit
namespace Ck
structure Pr where
  key : List UInt8
  val : List UInt8
structure St where
  op : Int
  line : Int
  from_ : List UInt8
  mode : List UInt8
  force : Bool
  pairs : List Pr
  bare : Bool
  words : List (List UInt8)
  docs : List Lx.Dc
  exec : List (List UInt8)
structure Sg where
  line : Int
  base : List UInt8
  name : List UInt8
  steps : List St
structure Fl where
  escape : UInt8
  args : List St
  stages : List Sg
def errR : Ex.R → Nat
  | .inl z => z
  | .inr _ => 0
/-- how a word is wrong; a document's text. -/
def wordL (e : UInt8) (s : List UInt8) : Nat := errR (Ex.readL e .plain s)
def docL (e : UInt8) (s : List UInt8) : Nat := errR (Ex.readL e .document s)
/-- is it no UTF-8? -/
def badT (s : List UInt8) : Bool := (Lx.wrongL s 0 0 1 0).isSome
def textsL (s : St) : List (List UInt8) := [s.from_, s.mode] ++ s.words ++ s.exec ++ s.pairs.flatMap (fun p => [p.key, p.val]) ++ s.docs.flatMap fun d => [d.name, d.text]
def least (op : Int) : Nat := if op = 9 ∨ op = 5 ∨ op = 6 ∨ op = 10 then 2 else if op = 13 ∨ op = 14 then 0 else 1
def most (op : Int) : Nat := if op = 1 ∨ op = 4 ∨ op = 11 then 1 else if op = 9 then 2 else 64
def fieldsL (s : St) : Nat :=
  if (s.from_ ≠ [] ∧ s.op ≠ 5) ∨ (s.mode ≠ [] ∧ s.op ≠ 5 ∧ s.op ≠ 6 ∧ s.op ≠ 8) ∨ (s.force = true ∧ s.op ≠ 7) then 20
  else if (s.pairs ≠ [] ∧ ¬ (s.op = 1 ∨ s.op = 2 ∨ s.op = 3)) ∨ (s.words ≠ [] ∧ (s.op = 1 ∨ s.op = 2 ∨ s.op = 3 ∨ s.op = 13 ∨ s.op = 14)) ∨ (s.docs ≠ [] ∧ s.op ≠ 5) ∨ (s.exec ≠ [] ∧ ¬ (s.op = 13 ∨ s.op = 14)) ∨ (s.bare = true ∧ s.op ≠ 1) ∨ (s.bare = true ∧ ∃ p ∈ s.pairs, p.val ≠ []) then 4
  else 0
def numbersL (s : St) : Nat :=
  let n := s.words.length + s.pairs.length + s.exec.length
  if n < least s.op then 2
  else if most s.op < n ∧ most s.op < 64 then 3
  else if most s.op < n then 5
  else if s.from_ ≠ [] ∧ digitsR s.from_ = false ∧ stageR s.from_ = false ∧ refR s.from_ = false then 31
  else if s.mode ≠ [] ∧ modeR s.mode = false then 16
  else 0
def pairsL (op : Int) (e : UInt8) : List Pr → Nat
  | [] => 0
  | p :: r => if (if op = 3 then labelR p.key else varR p.key) = false then 8 else if wordL e p.val ≠ 0 then wordL e p.val else pairsL op e r
/-- the name of the document that a word opens, behind its <<; none: it opens none. -/
def opensL (w : List UInt8) : Option (List UInt8 × Bool) :=
  let s := if w.head? = some 45 then w.drop 1 else w
  let q := decide (2 ≤ s.length) && (s.head? == some 34 || s.head? == some 39) && s.getLast? == s.head?
  let t := if q then (s.drop 1).dropLast else s
  if t.all (fun c => Ex.letter c || digit c) ∧ 1 ≤ t.length ∧ t.length ≤ 96 then some (t, q) else none
def opening (w : List UInt8) : Bool := w.take 2 == [60, 60]
/-- the words of a step; ds: the documents that are left. -/
def wordsL (op : Int) (e : UInt8) : List (List UInt8) → List Lx.Dc → Nat ⊕ List Lx.Dc
  | [], ds => .inr ds
  | w :: r, ds =>
    if op ≠ 5 ∨ opening w = false then (if wordL e w ≠ 0 then .inl (wordL e w) else wordsL op e r ds)
    else if r = [] then .inl 4
    else match opensL (w.drop 2), ds with
      | some (n, q), d :: ds' => if d.name = n ∧ d.raw = q then wordsL op e r ds' else .inl 26
      | _, _ => .inl 26
def docsL (e : UInt8) : List Lx.Dc → Nat
  | [] => 0
  | d :: r => if d.raw = false ∧ docL e d.text ≠ 0 then docL e d.text else docsL e r
def bodyL (s : St) (e : UInt8) : Nat := match wordsL s.op e s.words s.docs with
  | .inl z => z
  | .inr (_ :: _) => 26
  | .inr [] => docsL e s.docs
/-- what is wrong with a step. -/
def stepL (s : St) (e : UInt8) : Nat :=
  if s.op < 1 ∨ 14 < s.op then 19
  else if (textsL s).any badT then 6
  else if fieldsL s ≠ 0 then fieldsL s
  else if numbersL s ≠ 0 then numbersL s
  else if pairsL s.op e s.pairs ≠ 0 then pairsL s.op e s.pairs
  else bodyL s e
/-- the first of some steps that is wrong: its number, its line. -/
def stepsL (e : UInt8) : List St → Option (Nat × Int)
  | [] => none
  | s :: r => if stepL s e ≠ 0 then some (stepL s e, s.line) else stepsL e r
def argsL (e : UInt8) : List St → Option (Nat × Int)
  | [] => none
  | s :: r => if s.op ≠ 1 then some (19, s.line) else if stepL s e ≠ 0 then some (stepL s e, s.line) else argsL e r
/-- a stage; the names ahead of it. -/
def stageL (e : UInt8) (names : List (List UInt8)) (s : Sg) : Nat :=
  if badT s.base || badT s.name then 6
  else if s.base = [] then 2
  else if wordL e s.base ≠ 0 then wordL e s.base
  else if s.name ≠ [] ∧ stageR s.name = false then 8
  else if s.name ≠ [] ∧ s.name ∈ names then 11
  else 0
def stagesL (e : UInt8) : List (List UInt8) → List Sg → Option (Nat × Int)
  | _, [] => none
  | names, s :: r => if stageL e names s ≠ 0 then some (stageL e names s, s.line) else match stepsL e s.steps with
    | some x => some x
    | none => stagesL e (names ++ [s.name]) r
def countL (f : Fl) : Nat := f.args.length + (f.stages.map (·.steps.length)).sum
/-- what is wrong with a file: its number and its line; none: nothing. -/
def fileL (f : Fl) : Option (Nat × Int) :=
  if f.escape ≠ 92 ∧ f.escape ≠ 96 then some (1, 0)
  else if f.stages = [] then some (2, 0)
  else if 32 < f.stages.length ∨ 512 < countL f then some (5, 0)
  else match argsL f.escape f.args with
    | some x => some x
    | none => stagesL f.escape [] f.stages
end Ck
end Go.Proofs.YtnlkmljdcmfogaaGreatDoor
