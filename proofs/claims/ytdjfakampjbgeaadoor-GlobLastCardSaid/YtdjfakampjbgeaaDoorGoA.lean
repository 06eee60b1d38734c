/- Lists of patterns, plain: lines, blanks, rules; what is out. -/
import Derived.Test.YtdjfakampjbgeaaDoorGrG
import Derived.Lib.SplitLaws
import Derived.Lib.SlTrimSet
namespace Go.Proofs.YtdjfakampjbgeaaDoor
open Go Go.RowKit
namespace Gl
/-- the pieces between bytes k, the empty ones too. -/
def cutL (k : UInt8) : List UInt8 → List (List UInt8)
  | [] => [[]]
  | c :: r => if c = k then [] :: cutL k r else (c :: (cutL k r).headD []) :: (cutL k r).tail
theorem cutL_ne (k : UInt8) (s : List UInt8) : cutL k s = (cutL k s).headD [] :: (cutL k s).tail := by
  cases s with
  | nil => rfl
  | cons c r => unfold cutL; split <;> rfl
theorem cutL_no (k : UInt8) : ∀ (a : List UInt8), (∀ c ∈ a, c ≠ k) → cutL k a = [a]
  | [], _ => rfl
  | c :: a, h => by
    have hc : ¬ c = k := h c (List.mem_cons_self ..)
    have ih := cutL_no k a (fun x hx => h x (List.mem_cons_of_mem _ hx))
    rw [cutL, if_neg hc, ih]
    rfl
theorem cutL_cut (k : UInt8) : ∀ (a r : List UInt8), (∀ c ∈ a, c ≠ k) → cutL k (a ++ k :: r) = a :: cutL k r
  | [], r, _ => by rw [List.nil_append, cutL, if_pos rfl]
  | c :: a, r, h => by
    have hc : ¬ c = k := h c (List.mem_cons_self ..)
    have ih := cutL_cut k a r (fun x hx => h x (List.mem_cons_of_mem _ hx))
    rw [List.cons_append, cutL, if_neg hc, ih]
    rfl
theorem cutL_length (k : UInt8) : ∀ s : List UInt8, (cutL k s).length ≤ s.length + 1
  | [] => by simp [cutL]
  | c :: r => by
    have ih := cutL_length k r
    rw [cutL]
    split
    · simp; omega
    · simp only [List.length_cons, List.length_tail]; omega
theorem cutL_piece (k : UInt8) : ∀ (s : List UInt8) (x : List UInt8), x ∈ cutL k s → x.length ≤ s.length
  | [], x, h => by simp [cutL] at h; simp [h]
  | c :: r, x, h => by
    have ih := cutL_piece k r
    rw [cutL_ne k r] at ih
    rw [cutL] at h
    split at h
    · rcases List.mem_cons.1 h with rfl | h
      · simp
      · have := cutL_piece k r x h; simp; omega
    · rcases List.mem_cons.1 h with rfl | h
      · have := ih _ (List.mem_cons_self ..); simp only [List.length_cons]; omega
      · have := ih x (List.mem_cons_of_mem _ h); simp; omega
theorem index_byte (k : UInt8) : ∀ (l : List UInt8), (Lib.index l [k] = -1 ∧ ∀ c ∈ l, c ≠ k) ∨ (∃ a r, l = a ++ k :: r ∧ (∀ c ∈ a, c ≠ k) ∧ Lib.index l [k] = (a.length : Int))
  | [] => .inl ⟨rfl, by simp⟩
  | b :: l => by
    by_cases h : b = k
    · subst h
      exact .inr ⟨[], l, rfl, by simp, by simp [Lib.index, List.isPrefixOf]⟩
    · have hp : List.isPrefixOf [k] (b :: l) = false := by
        simp only [List.isPrefixOf, Bool.and_eq_false_iff]
        exact .inl (by simpa using fun e => h e.symm)
      rcases index_byte k l with ⟨h1, h2⟩ | ⟨a, r, h1, h2, h3⟩
      · refine .inl ⟨by simp [Lib.index, hp, h1], fun x hx => ?_⟩
        rcases List.mem_cons.1 hx with rfl | hx
        · exact h
        · exact h2 x hx
      · refine .inr ⟨b :: a, r, by rw [h1]; rfl, fun x hx => ?_, ?_⟩
        · rcases List.mem_cons.1 hx with rfl | hx
          · exact h
          · exact h2 x hx
        · have hne : (Lib.index l [k] == -1) = false := by rw [h3]; simp
          rw [Lib.index, if_neg (by rw [hp]; simp), if_neg (by rw [hne]; simp), h3]
          simp
theorem splitK_cut (k : UInt8) : ∀ (n : Nat) (s : List UInt8), s.length ≤ n → Lib.splitK [k] 0 (s.count k) s = cutL k s
  | n, s, hn => by
    rcases index_byte k s with ⟨h1, h2⟩ | ⟨a, r, h1, h2, h3⟩
    · have hc : s.count k = 0 := List.count_eq_zero.2 fun h => h2 k h rfl
      rw [hc, cutL_no k s h2, Lib.splitK]
    · have hc : s.count k = r.count k + 1 := by
        rw [h1, List.count_append, List.count_cons_self, List.count_eq_zero.2 fun h => h2 k h rfl]
        omega
      have hr : r.length < s.length := by rw [h1, List.length_append, List.length_cons]; omega
      cases n with
      | zero => omega
      | succ n =>
        have ih := splitK_cut k n r (by omega)
        rw [hc, Lib.splitK, h3, if_neg (by rw [beq_iff_eq]; omega)]
        have e1 : s.take (((a.length : Int)).toNat + 0) = a := by rw [h1]; simp
        have e2 : s.drop (((a.length : Int)).toNat + [k].length) = r := by
          rw [h1, Int.toNat_natCast, List.length_singleton, List.drop_append]
          simp
        rw [e1, e2, ih, h1, cutL_cut k a r h2]
/-- spaces, tabs, returns. -/
abbrev bls : List UInt8 := [32, 9, 13]
def trimL (s : List UInt8) : List UInt8 := Lib.trimS s bls
def lft (s : List UInt8) : List UInt8 := Lib.trimLeftS s bls
theorem trim_at (s : List UInt8) (i j : Nat) (hij : i ≤ j) (hj : j ≤ s.length) (h1 : ∀ (x : Nat) b, x < i → s[x]? = some b → bls.contains b = true) (h2 : ∀ b, s[i]? = some b → bls.contains b = false)
    (h3 : ∀ (x : Nat) b, j ≤ x → s[x]? = some b → bls.contains b = true) (h4 : j = i ∨ ∀ b, s[j - 1]? = some b → bls.contains b = false) : trimL s = (s.drop i).take (j - i) := by
  unfold trimL Lib.trimS
  rcases Nat.lt_or_ge i j with hlt | hge
  · rw [Lib.trimRightS_take s bls j hj h3 (fun b _ hb => by
      rcases h4 with h4 | h4
      · omega
      · exact h4 b hb)]
    rw [Lib.trimLeftS_drop (s.take j) bls i (by rw [List.length_take]; omega) (fun x b hx hb => by
      rw [List.getElem?_take, if_pos (by omega)] at hb
      exact h1 x b hx hb) (fun b hb => by
      rw [List.getElem?_take, if_pos hlt] at hb
      exact h2 b hb)]
    rw [List.drop_take]
  · obtain rfl : i = j := by omega
    have hi : i = s.length := by
      rcases Nat.lt_or_ge i s.length with h | h
      · have e := List.getElem?_eq_getElem h
        have q := h3 i _ (Nat.le_refl _) e
        rw [h2 _ e] at q
        cases q
      · omega
    rw [Lib.trimRightS_take s bls 0 (by omega) (fun x b _ hb => h1 x b (by rw [hi]; exact (List.getElem?_eq_some_iff.1 hb).1) hb) (fun b h => by omega)]
    simp [Lib.trimLeftS_nil]
theorem trimL_len (s : List UInt8) : (trimL s).length ≤ s.length := by
  unfold trimL Lib.trimS Lib.trimLeftS Lib.trimRightS
  refine Nat.le_trans (List.dropWhile_sublist _).length_le ?_
  rw [List.length_reverse]
  exact Nat.le_trans (List.dropWhile_sublist _).length_le (by rw [List.length_reverse]; exact Nat.le_refl _)
theorem lft_len (s : List UInt8) : (lft s).length ≤ s.length := (List.dropWhile_sublist _).length_le
theorem rgt_id (s : List UInt8) (h : ∀ b, s.getLast? = some b → bls.contains b = false) : Lib.trimRightS s bls = s := by
  unfold Lib.trimRightS
  have : s.reverse.dropWhile (bls.contains ·) = s.reverse := by
    cases hr : s.reverse with
    | nil => rfl
    | cons b r =>
      have := h b (by rw [List.getLast?_eq_head?_reverse, hr]; rfl)
      rw [List.dropWhile_cons_of_neg (by rw [this]; simp)]
  rw [this, List.reverse_reverse]
theorem rgt_last (s : List UInt8) (b : UInt8) (h : (Lib.trimRightS s bls).getLast? = some b) : bls.contains b = false := by
  unfold Lib.trimRightS at h
  rw [List.getLast?_reverse] at h
  cases hd : s.reverse.dropWhile (bls.contains ·) with
  | nil => rw [hd] at h; cases h
  | cons c r =>
    rw [hd] at h
    injection h with h
    subst h
    have := List.head?_dropWhile_not (bls.contains ·) s.reverse
    rw [hd] at this
    simpa using this
theorem last_lft (s : List UInt8) (b : UInt8) (h : (lft s).getLast? = some b) : s.getLast? = some b := by
  obtain ⟨a, e⟩ : ∃ a, s = a ++ lft s := ⟨s.takeWhile (bls.contains ·), (List.takeWhile_append_dropWhile ..).symm⟩
  rw [e, List.getLast?_append, h]
  rfl
theorem trimL_last (s : List UInt8) (b : UInt8) (h : (trimL s).getLast? = some b) : bls.contains b = false := rgt_last s b (last_lft _ b h)
/-- behind a mark ahead: blanks at one end alone. -/
theorem trim_tail {s r : List UInt8} {c : UInt8} (h : trimL s = c :: r) : trimL r = lft r := by
  unfold trimL Lib.trimS
  rw [rgt_id r (fun b hb => trimL_last s b (by
    rw [h, List.getLast?_cons, hb]
    rfl))]
  rfl
/-- a rule of a line: does it take back, its pattern; none: it says nothing. -/
def ruleOf (l : List UInt8) : Option (Bool × List UInt8) := match trimL l with
  | [] => none
  | c :: r => if c = 35 then none else if c = 33 then some (true, lft r) else some (false, c :: r)
theorem ruleOf_len {l : List UInt8} {b : Bool} {q : List UInt8} (h : ruleOf l = some (b, q)) : q.length ≤ l.length := by
  have ht := trimL_len l
  unfold ruleOf at h
  cases hs : trimL l with
  | nil => rw [hs] at h; cases h
  | cons c r =>
    rw [hs] at h ht
    simp only [List.length_cons] at ht
    simp only at h
    split at h
    · cases h
    · split at h
      · injection h with h; injection h with _ h; rw [← h]; have := lft_len r; omega
      · injection h with h; injection h with _ h; rw [← h]; simpa using ht
structure Rl where
  back : Bool
  pat : List UInt8
  ps : List Pc
/-- a list: its rules; or the number of what is wrong and its line. -/
def parseA : List (List UInt8) → Nat → List Rl → (Nat × Nat) ⊕ List Rl
  | [], _, acc => .inr acc
  | l :: ls, i, acc => match ruleOf l with
    | none => parseA ls (i + 1) acc
    | some (b, q) => if 256 ≤ acc.length then .inl (5, i + 1) else match readL q with
      | none => .inl (24, i + 1)
      | some ps => parseA ls (i + 1) (acc ++ [⟨b, q, ps⟩])
def parseL (text : List UInt8) : (Nat × Nat) ⊕ List Rl := parseA (cutL 10 text) 0 []
theorem parseA_skip {l : List UInt8} {ls : List (List UInt8)} {i : Nat} {acc : List Rl} (h : ruleOf l = none) : parseA (l :: ls) i acc = parseA ls (i + 1) acc := by rw [parseA, h]
theorem parseA_many {l : List UInt8} {ls : List (List UInt8)} {i : Nat} {acc : List Rl} {b : Bool} {q : List UInt8} (h : ruleOf l = some (b, q)) (h2 : 256 ≤ acc.length) : parseA (l :: ls) i acc = .inl (5, i + 1) := by
  rw [parseA, h]
  exact if_pos h2
theorem parseA_none {l : List UInt8} {ls : List (List UInt8)} {i : Nat} {acc : List Rl} {b : Bool} {q : List UInt8} (h : ruleOf l = some (b, q)) (h2 : ¬ 256 ≤ acc.length) (h3 : readL q = none) : parseA (l :: ls) i acc = .inl (24, i + 1) := by
  rw [parseA, h]
  simp only [if_neg h2, h3]
theorem parseA_some {l : List UInt8} {ls : List (List UInt8)} {i : Nat} {acc : List Rl} {b : Bool} {q : List UInt8} {ps : List Pc} (h : ruleOf l = some (b, q)) (h2 : ¬ 256 ≤ acc.length) (h3 : readL q = some ps) : parseA (l :: ls) i acc = parseA ls (i + 1) (acc ++ [⟨b, q, ps⟩]) := by
  rw [parseA, h]
  simp only [if_neg h2, h3]
/-- what holds of the rules that a list has. -/
def RlOk (n : Nat) (r : Rl) : Prop := readL r.pat = some r.ps ∧ r.pat.length ≤ n
theorem parseA_err : ∀ {ls : List (List UInt8)} {i : Nat} {acc : List Rl} {n k : Nat}, parseA ls i acc = .inl (n, k) → (n = 5 ∨ n = 24) ∧ k ≤ i + ls.length
  | [], i, acc, n, k, h => by rw [parseA] at h; cases h
  | l :: ls, i, acc, n, k, h => by
    cases hr : ruleOf l with
    | none =>
      rw [parseA_skip hr] at h
      have := parseA_err h
      exact ⟨this.1, by simp only [List.length_cons]; omega⟩
    | some bq =>
      obtain ⟨b, q⟩ := bq
      by_cases hm : 256 ≤ acc.length
      · rw [parseA_many hr hm] at h
        injection h with h
        injection h with h1 h2
        exact ⟨.inl h1.symm, by simp only [List.length_cons]; omega⟩
      · cases hq : readL q with
        | none =>
          rw [parseA_none hr hm hq] at h
          injection h with h
          injection h with h1 h2
          exact ⟨.inr h1.symm, by simp only [List.length_cons]; omega⟩
        | some ps =>
          rw [parseA_some hr hm hq] at h
          have := parseA_err h
          exact ⟨this.1, by simp only [List.length_cons]; omega⟩
theorem parseA_ok {m : Nat} : ∀ {ls : List (List UInt8)} {i : Nat} {acc rs : List Rl}, parseA ls i acc = .inr rs → (∀ l ∈ ls, l.length ≤ m) → acc.length ≤ 256 → (∀ r ∈ acc, RlOk m r) → rs.length ≤ 256 ∧ ∀ r ∈ rs, RlOk m r
  | [], i, acc, rs, h, _, ha, ho => by rw [parseA] at h; injection h with h; subst h; exact ⟨ha, ho⟩
  | l :: ls, i, acc, rs, h, hl, ha, ho => by
    have hl' := fun x hx => hl x (List.mem_cons_of_mem _ hx)
    cases hr : ruleOf l with
    | none =>
      rw [parseA_skip hr] at h
      exact parseA_ok h hl' ha ho
    | some bq =>
      obtain ⟨b, q⟩ := bq
      by_cases hm : 256 ≤ acc.length
      · rw [parseA_many hr hm] at h; cases h
      · cases hq : readL q with
        | none => rw [parseA_none hr hm hq] at h; cases h
        | some ps =>
          rw [parseA_some hr hm hq] at h
          refine parseA_ok h hl' (by simp; omega) fun r hx => ?_
          rcases List.mem_append.1 hx with hx | hx
          · exact ho r hx
          · rw [List.mem_singleton.1 hx]
            exact ⟨hq, Nat.le_trans (ruleOf_len hr) (hl l (List.mem_cons_self ..))⟩
/-- does a rule meet names: all of them, or the first of them? -/
def meetsL (ps : List Pc) (ns : List (List UInt8)) : Bool := (List.range (ns.length + 1)).any fun k => takesAll ps (ns.take k)
theorem meets_true {ps : List Pc} {ns : List (List UInt8)} {k : Nat} (hk : k ≤ ns.length) (h : takesAll ps (ns.take k) = true) : meetsL ps ns = true := List.any_eq_true.2 ⟨k, List.mem_range.2 (by omega), h⟩
theorem meets_false {ps : List Pc} {ns : List (List UInt8)} (h : ∀ k, k ≤ ns.length → takesAll ps (ns.take k) = false) : meetsL ps ns = false := by
  rw [meetsL, List.any_eq_false]
  intro k hk
  rw [h k (by have := List.mem_range.1 hk; omega)]
  simp
/-- what a list says of names. -/
def outL (rs : List Rl) (ns : List (List UInt8)) : Bool := rs.foldl (fun o r => if meetsL r.ps ns then !r.back else o) false
theorem outL_snoc (rs : List Rl) (r : Rl) (ns : List (List UInt8)) : outL (rs ++ [r]) ns = if meetsL r.ps ns then !r.back else outL rs ns := by rw [outL, List.foldl_append]; rfl
theorem outL_take {rs : List Rl} {i : Nat} (hi : i < rs.length) (ns : List (List UInt8)) : outL (rs.take (i + 1)) ns = if meetsL rs[i].ps ns then !rs[i].back else outL (rs.take i) ns := by
  rw [List.take_add_one, List.getElem?_eq_getElem hi]
  exact outL_snoc _ _ _
end Gl
theorem reachP_takes (ps : List Gl.Pc) (ns : List (List UInt8)) (i : Nat) : reachP ps ns i = Gl.takesAll ps (ns.take i) := rfl
end Go.Proofs.YtdjfakampjbgeaaDoor
