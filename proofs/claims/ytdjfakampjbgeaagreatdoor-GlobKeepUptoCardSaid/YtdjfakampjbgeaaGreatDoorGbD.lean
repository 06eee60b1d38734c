/- What GlobQuoted and GlobDeep say, plain. -/
import Derived.Test.YtdjfakampjbgeaaGreatDoorMA
namespace Go.Proofs.YtdjfakampjbgeaaGreatDoor.Gl

def quotedL (p : List UInt8) : List UInt8 := p.flatMap fun c => if c = 47 then [47] else [92, c]
def qn (n : List UInt8) : List UInt8 := n.flatMap fun c => [92, c]
def single (c : UInt8) : Mk := ⟨false, false, [c], [c]⟩
theorem headD_map_qn (l : List (List UInt8)) : (l.map qn).headD [] = qn (l.headD []) := by cases l <;> rfl
theorem split_quoted : ∀ p : List UInt8, splitL (quotedL p) = (splitL p).map qn
  | [] => rfl
  | c :: r => by
    have ih := split_quoted r
    by_cases h : c = 47
    · have e : quotedL (c :: r) = 47 :: quotedL r := by simp [quotedL, h]
      rw [e, splitL, if_pos rfl, splitL, if_pos h, ih]
      rfl
    · have e : quotedL (c :: r) = 92 :: c :: quotedL r := by simp [quotedL, h]
      rw [e, splitL, if_neg (by decide), splitL, if_neg h, splitL, if_neg h, ih, headD_map_qn]
      simp only [List.headD_cons, List.tail_cons, List.map_cons, List.map_tail]
      rfl
theorem qn_empty (n : List UInt8) : (qn n).isEmpty = n.isEmpty := by cases n <;> rfl
theorem names_quoted (p : List UInt8) : namesL (quotedL p) = (namesL p).map qn := by
  rw [namesL, split_quoted, namesL, List.filter_map]
  congr 2
  funext x
  simp [qn_empty]
theorem quoted_length (p : List UInt8) : (quotedL p).length ≤ 2 * p.length := by
  induction p with
  | nil => simp [quotedL]
  | cons c r ih =>
    have : quotedL (c :: r) = (if c = 47 then [47] else [92, c]) ++ quotedL r := by simp [quotedL]
    rw [this, List.length_append, List.length_cons]
    split <;> simp <;> omega
theorem piece_qn : ∀ (n : List UInt8) (f : Nat) (out : List Mk), (qn n).length < f → pieceA f out (qn n) = some (out ++ n.map single)
  | [], f + 1, out, _ => by
    show pieceA (f + 1) out [] = _
    rw [pieceA]; simp
  | c :: n, f + 1, out, h => by
    have e : qn (c :: n) = 92 :: c :: qn n := rfl
    rw [e] at h ⊢
    simp only [List.length_cons] at h
    rw [pieceA, if_neg (by decide), if_neg (by decide), if_neg (by decide), oneL, if_pos rfl]
    simp only
    rw [piece_qn n f _ (by omega)]
    simp [single]
theorem qn_deep (n : List UInt8) : qn n ≠ [42, 42] := by
  cases n with
  | nil => simp [qn]
  | cons c n =>
    show 92 :: c :: qn n ≠ _
    simp
theorem read_qn : ∀ (l : List (List UInt8)) (out : List Pc), readA (l.map qn) out = some (out ++ l.map fun n => ⟨false, n.map single⟩)
  | [], out => by simp [readA]
  | n :: l, out => by
    rw [List.map_cons, readA, if_neg (qn_deep n), pieceL, piece_qn n _ [] (by omega)]
    simp only
    rw [read_qn l]
    simp
theorem single_takes (c d : UInt8) : (single c).takes d = (c == d) := by
  have h : (decide (c ≤ d) && decide (d ≤ c)) = (c == d) := by
    rw [Bool.eq_iff_iff]
    simp only [Bool.and_eq_true, decide_eq_true_eq, beq_iff_eq]
    exact ⟨fun ⟨a, b⟩ => UInt8.le_antisymm a b, fun e => by subst e; exact ⟨UInt8.le_refl _, UInt8.le_refl _⟩⟩
  simp only [Mk.takes, single, List.zip_cons_cons, List.zip_nil_right, List.any_cons, List.any_nil, Bool.or_false, h]
  cases c == d <;> rfl
theorem takes_singles : ∀ (n s : List UInt8), takesName (n.map single) s = (n == s)
  | [], s => by cases s <;> rfl
  | c :: n, [] => Gm.mm_one_nil Mk.any Mk.takes rfl
  | c :: n, d :: s => by
    have ih := takes_singles n s
    rw [takesName] at ih ⊢
    rw [List.map_cons, Gm.mm_one Mk.any Mk.takes rfl, ih, single_takes]
    rfl
theorem takes_names : ∀ (l m : List (List UInt8)), takesAll (l.map fun n => ⟨false, n.map single⟩) m = (l == m)
  | [], m => by cases m <;> rfl
  | n :: l, [] => Gm.mm_one_nil Pc.deep _ rfl
  | n :: l, s :: m => by
    have ih := takes_names l m
    rw [takesAll] at ih ⊢
    rw [List.map_cons, Gm.mm_one Pc.deep _ rfl, ih, takes_singles]
    rfl
theorem match_quoted (p q : List UInt8) (hp : p.length ≤ 510) : matchL (quotedL p) q = if namesL p = [] then none else some (namesL p == namesL q) := by
  have hl := quoted_length p
  rw [matchL, readL, names_quoted]
  by_cases h : namesL p = []
  · rw [if_pos (.inr (by rw [h]; rfl)), if_pos h]; rfl
  · rw [if_neg (by
      rintro (h1 | h1)
      · omega
      · exact h (List.map_eq_nil_iff.1 h1)), if_neg h, read_qn]
    simp only [Option.map_some, List.nil_append, takes_names]

/-! what is deep ahead, behind -/
theorem mm_snoc_any {α β : Type} (any : α → Bool) (tk : α → β → Bool) {m : α} (hm : any m = true) : ∀ (ms : List α) (s : List β), Gm.mm any tk (ms ++ [m]) s = true ↔ ∃ i, i ≤ s.length ∧ Gm.mm any tk ms (s.take i) = true
  | [], s => by
    rw [List.nil_append, Gm.mm_any any tk hm]
    constructor
    · rintro _
      exact ⟨0, by omega, by simp [Gm.mm]⟩
    · rintro _
      exact ⟨s.length, by omega, by simp [Gm.mm]⟩
  | x :: ms, s => by
    rw [List.cons_append]
    by_cases hx : any x = true
    · rw [Gm.mm_any any tk hx]
      constructor
      · rintro ⟨k, hk, h⟩
        obtain ⟨i, hi, h⟩ := (mm_snoc_any any tk hm ms _).1 h
        rw [List.length_drop] at hi
        refine ⟨k + i, by omega, (Gm.mm_any any tk hx).2 ⟨k, by rw [List.length_take]; omega, ?_⟩⟩
        rw [List.drop_take, show k + i - k = i by omega]
        exact h
      · rintro ⟨i, hi, h⟩
        obtain ⟨k, hk, h⟩ := (Gm.mm_any any tk hx).1 h
        rw [List.length_take] at hk
        refine ⟨k, by omega, (mm_snoc_any any tk hm ms _).2 ⟨i - k, by rw [List.length_drop]; omega, ?_⟩⟩
        rw [← List.drop_take]
        exact h
    · have hx' : any x = false := by simpa using hx
      cases s with
      | nil =>
        rw [Gm.mm_one_nil any tk hx']
        simp only [List.take_nil, Gm.mm_one_nil any tk hx']
        simp
      | cons c s =>
        rw [Gm.mm_one any tk hx', Bool.and_eq_true, mm_snoc_any any tk hm ms s]
        constructor
        · rintro ⟨h1, i, hi, h2⟩
          refine ⟨i + 1, by simp; omega, ?_⟩
          rw [List.take_succ_cons, Gm.mm_one any tk hx', h1, h2]
          rfl
        · rintro ⟨i, hi, h⟩
          cases i with
          | zero => rw [List.take_zero, Gm.mm_one_nil any tk hx'] at h; cases h
          | succ i =>
            rw [List.take_succ_cons, Gm.mm_one any tk hx', Bool.and_eq_true] at h
            exact ⟨h.1, i, by simpa using hi, h.2⟩
theorem readA_app : ∀ (a b : List (List UInt8)) (out ps : List Pc), readA a out = some ps → readA (a ++ b) out = readA b ps
  | [], b, out, ps, h => by
    rw [readA] at h
    cases h
    rfl
  | p :: a, b, out, ps, h => by
    rw [readA] at h
    rw [List.cons_append, readA]
    split
    · rename_i hp
      rw [if_pos hp] at h
      exact readA_app a b _ _ h
    · rename_i hp
      rw [if_neg hp] at h
      cases hq : pieceL p with
      | none => rw [hq] at h; cases h
      | some ms =>
        rw [hq] at h
        exact readA_app a b _ _ h
theorem readA_out : ∀ (a : List (List UInt8)) (o out : List Pc), readA a (o ++ out) = (readA a out).map (o ++ ·)
  | [], o, out => by simp [readA]
  | p :: a, o, out => by
    rw [readA, readA]
    split
    · rw [List.append_assoc, readA_out a]
    · cases pieceL p with
      | none => rfl
      | some ms => simp only; rw [List.append_assoc, readA_out a]
theorem split_app : ∀ (a b : List UInt8), splitL (a ++ 47 :: b) = splitL a ++ splitL b
  | [], b => by
    have h : splitL (47 :: b) = [] :: splitL b := by rw [splitL, if_pos rfl]
    rw [List.nil_append, h]; rfl
  | c :: a, b => by
    have ih := split_app a b
    rw [List.cons_append, splitL, splitL]
    by_cases h : c = 47
    · rw [if_pos h, if_pos h, ih]; rfl
    · rw [if_neg h, if_neg h, ih]
      rw [splitL_ne a]
      rfl
theorem names_app (a b : List UInt8) : namesL (a ++ 47 :: b) = namesL a ++ namesL b := by rw [namesL, split_app, List.filter_append]; rfl
def deepPc : Pc := ⟨true, []⟩
theorem read_ahead {pat : List UInt8} {ps : List Pc} (hp : pat.length ≤ 1000) (h : readL pat = some ps) : readL ([42, 42] ++ 47 :: pat) = some (deepPc :: ps) := by
  rw [readL] at h
  split at h
  · cases h
  · rename_i hn
    rw [readL, names_app, show namesL [42, 42] = [[42, 42]] from rfl, if_neg (by simp; omega), List.singleton_append, readA, if_pos rfl, List.nil_append]
    have := readA_out (namesL pat) [deepPc] []
    rw [List.append_nil, h] at this
    exact this
theorem read_behind {pat : List UInt8} {ps : List Pc} (hp : pat.length ≤ 1000) (h : readL pat = some ps) : readL (pat ++ 47 :: [42, 42]) = some (ps ++ [deepPc]) := by
  rw [readL] at h
  split at h
  · cases h
  · rename_i hn
    rw [readL, names_app, show namesL [42, 42] = [[42, 42]] from rfl, if_neg (by simp; omega), readA_app _ _ _ _ h, readA, if_pos rfl]
    rfl
theorem takes_ahead (ps : List Pc) (l : List (List UInt8)) : takesAll (deepPc :: ps) l = true ↔ ∃ k, k ≤ l.length ∧ takesAll ps (l.drop k) = true := Gm.mm_any Pc.deep _ rfl
theorem takes_behind (ps : List Pc) (l : List (List UInt8)) : takesAll (ps ++ [deepPc]) l = true ↔ ∃ i, i ≤ l.length ∧ takesAll ps (l.take i) = true := mm_snoc_any Pc.deep _ rfl ps l
end Go.Proofs.YtdjfakampjbgeaaGreatDoor.Gl
