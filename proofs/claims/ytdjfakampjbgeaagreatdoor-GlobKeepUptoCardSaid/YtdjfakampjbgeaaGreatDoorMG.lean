/- Lists of patterns, plain: lines, blanks, rules; what is out. -/
import Derived.Test.YtdjfakampjbgeaaGreatDoorGrG
import Derived.Lib.SplitLaws
import Derived.Lib.SlTrimSet
import Derived.Shelf.Abstract
import Derived.Shelf.RegionOpen
import Derived.Shelf.Strings.SlTrimAscii
import Derived.Shelf.Strings.Split
namespace Go.Proofs.YtdjfakampjbgeaaGreatDoor
open Go Go.RowKit
namespace Gl
/-- the pieces between bytes k, the empty ones too. -/
def cutL (k : UInt8) : List UInt8 → List (List UInt8)
  | [] => [[]]
  | c :: r => if c = k then [] :: cutL k r else (c :: (cutL k r).headD []) :: (cutL k r).tail
theorem cutL_ne (k : UInt8) (s : List UInt8) : cutL k s = (cutL k s).headD [] :: (cutL k s).tail := by
  cases s with
  | nil => rfl
  | cons c r => unfold cutL; split <;> rfl
theorem cutL_no (k : UInt8) : ∀ (a : List UInt8), (∀ c ∈ a, c ≠ k) → cutL k a = [a]
  | [], _ => rfl
  | c :: a, h => by
    have hc : ¬ c = k := h c (List.mem_cons_self ..)
    have ih := cutL_no k a (fun x hx => h x (List.mem_cons_of_mem _ hx))
    rw [cutL, if_neg hc, ih]
    rfl
theorem cutL_cut (k : UInt8) : ∀ (a r : List UInt8), (∀ c ∈ a, c ≠ k) → cutL k (a ++ k :: r) = a :: cutL k r
  | [], r, _ => by rw [List.nil_append, cutL, if_pos rfl]
  | c :: a, r, h => by
    have hc : ¬ c = k := h c (List.mem_cons_self ..)
    have ih := cutL_cut k a r (fun x hx => h x (List.mem_cons_of_mem _ hx))
    rw [List.cons_append, cutL, if_neg hc, ih]
    rfl
theorem cutL_length (k : UInt8) : ∀ s : List UInt8, (cutL k s).length ≤ s.length + 1
  | [] => by simp [cutL]
  | c :: r => by
    have ih := cutL_length k r
    rw [cutL]
    split
    · simp; omega
    · simp only [List.length_cons, List.length_tail]; omega
theorem cutL_piece (k : UInt8) : ∀ (s : List UInt8) (x : List UInt8), x ∈ cutL k s → x.length ≤ s.length
  | [], x, h => by simp [cutL] at h; simp [h]
  | c :: r, x, h => by
    have ih := cutL_piece k r
    rw [cutL_ne k r] at ih
    rw [cutL] at h
    split at h
    · rcases List.mem_cons.1 h with rfl | h
      · simp
      · have := cutL_piece k r x h; simp; omega
    · rcases List.mem_cons.1 h with rfl | h
      · have := ih _ (List.mem_cons_self ..); simp only [List.length_cons]; omega
      · have := ih x (List.mem_cons_of_mem _ h); simp; omega
theorem index_byte (k : UInt8) : ∀ (l : List UInt8), (Lib.index l [k] = -1 ∧ ∀ c ∈ l, c ≠ k) ∨ (∃ a r, l = a ++ k :: r ∧ (∀ c ∈ a, c ≠ k) ∧ Lib.index l [k] = (a.length : Int))
  | [] => .inl ⟨rfl, by simp⟩
  | b :: l => by
    by_cases h : b = k
    · subst h
      exact .inr ⟨[], l, rfl, by simp, by simp [Lib.index, List.isPrefixOf]⟩
    · have hp : List.isPrefixOf [k] (b :: l) = false := by
        simp only [List.isPrefixOf, Bool.and_eq_false_iff]
        exact .inl (by simpa using fun e => h e.symm)
      rcases index_byte k l with ⟨h1, h2⟩ | ⟨a, r, h1, h2, h3⟩
      · refine .inl ⟨by simp [Lib.index, hp, h1], fun x hx => ?_⟩
        rcases List.mem_cons.1 hx with rfl | hx
        · exact h
        · exact h2 x hx
      · refine .inr ⟨b :: a, r, by rw [h1]; rfl, fun x hx => ?_, ?_⟩
        · rcases List.mem_cons.1 hx with rfl | hx
          · exact h
          · exact h2 x hx
        · have hne : (Lib.index l [k] == -1) = false := by rw [h3]; simp
          rw [Lib.index, if_neg (by rw [hp]; simp), if_neg (by rw [hne]; simp), h3]
          simp
theorem splitK_cut (k : UInt8) : ∀ (n : Nat) (s : List UInt8), s.length ≤ n → Lib.splitK [k] 0 (s.count k) s = cutL k s
  | n, s, hn => by
    rcases index_byte k s with ⟨h1, h2⟩ | ⟨a, r, h1, h2, h3⟩
    · have hc : s.count k = 0 := List.count_eq_zero.2 fun h => h2 k h rfl
      rw [hc, cutL_no k s h2, Lib.splitK]
    · have hc : s.count k = r.count k + 1 := by
        rw [h1, List.count_append, List.count_cons_self, List.count_eq_zero.2 fun h => h2 k h rfl]
        omega
      have hr : r.length < s.length := by rw [h1, List.length_append, List.length_cons]; omega
      cases n with
      | zero => omega
      | succ n =>
        have ih := splitK_cut k n r (by omega)
        rw [hc, Lib.splitK, h3, if_neg (by rw [beq_iff_eq]; omega)]
        have e1 : s.take (((a.length : Int)).toNat + 0) = a := by rw [h1]; simp
        have e2 : s.drop (((a.length : Int)).toNat + [k].length) = r := by
          rw [h1, Int.toNat_natCast, List.length_singleton, List.drop_append]
          simp
        rw [e1, e2, ih, h1, cutL_cut k a r h2]
/-- spaces, tabs, returns. -/
abbrev bls : List UInt8 := [32, 9, 13]
def trimL (s : List UInt8) : List UInt8 := Lib.trimS s bls
def lft (s : List UInt8) : List UInt8 := Lib.trimLeftS s bls
theorem trim_at (s : List UInt8) (i j : Nat) (hij : i ≤ j) (hj : j ≤ s.length) (h1 : ∀ (x : Nat) b, x < i → s[x]? = some b → bls.contains b = true) (h2 : ∀ b, s[i]? = some b → bls.contains b = false)
    (h3 : ∀ (x : Nat) b, j ≤ x → s[x]? = some b → bls.contains b = true) (h4 : j = i ∨ ∀ b, s[j - 1]? = some b → bls.contains b = false) : trimL s = (s.drop i).take (j - i) := by
  unfold trimL Lib.trimS
  rcases Nat.lt_or_ge i j with hlt | hge
  · rw [Lib.trimRightS_take s bls j hj h3 (fun b _ hb => by
      rcases h4 with h4 | h4
      · omega
      · exact h4 b hb)]
    rw [Lib.trimLeftS_drop (s.take j) bls i (by rw [List.length_take]; omega) (fun x b hx hb => by
      rw [List.getElem?_take, if_pos (by omega)] at hb
      exact h1 x b hx hb) (fun b hb => by
      rw [List.getElem?_take, if_pos hlt] at hb
      exact h2 b hb)]
    rw [List.drop_take]
  · obtain rfl : i = j := by omega
    have hi : i = s.length := by
      rcases Nat.lt_or_ge i s.length with h | h
      · have e := List.getElem?_eq_getElem h
        have q := h3 i _ (Nat.le_refl _) e
        rw [h2 _ e] at q
        cases q
      · omega
    rw [Lib.trimRightS_take s bls 0 (by omega) (fun x b _ hb => h1 x b (by rw [hi]; exact (List.getElem?_eq_some_iff.1 hb).1) hb) (fun b h => by omega)]
    simp [Lib.trimLeftS_nil]
theorem trimL_len (s : List UInt8) : (trimL s).length ≤ s.length := by
  unfold trimL Lib.trimS Lib.trimLeftS Lib.trimRightS
  refine Nat.le_trans (List.dropWhile_sublist _).length_le ?_
  rw [List.length_reverse]
  exact Nat.le_trans (List.dropWhile_sublist _).length_le (by rw [List.length_reverse]; exact Nat.le_refl _)
theorem lft_len (s : List UInt8) : (lft s).length ≤ s.length := (List.dropWhile_sublist _).length_le
theorem rgt_id (s : List UInt8) (h : ∀ b, s.getLast? = some b → bls.contains b = false) : Lib.trimRightS s bls = s := by
  unfold Lib.trimRightS
  have : s.reverse.dropWhile (bls.contains ·) = s.reverse := by
    cases hr : s.reverse with
    | nil => rfl
    | cons b r =>
      have := h b (by rw [List.getLast?_eq_head?_reverse, hr]; rfl)
      rw [List.dropWhile_cons_of_neg (by rw [this]; simp)]
  rw [this, List.reverse_reverse]
theorem rgt_last (s : List UInt8) (b : UInt8) (h : (Lib.trimRightS s bls).getLast? = some b) : bls.contains b = false := by
  unfold Lib.trimRightS at h
  rw [List.getLast?_reverse] at h
  cases hd : s.reverse.dropWhile (bls.contains ·) with
  | nil => rw [hd] at h; cases h
  | cons c r =>
    rw [hd] at h
    injection h with h
    subst h
    have := List.head?_dropWhile_not (bls.contains ·) s.reverse
    rw [hd] at this
    simpa using this
theorem last_lft (s : List UInt8) (b : UInt8) (h : (lft s).getLast? = some b) : s.getLast? = some b := by
  obtain ⟨a, e⟩ : ∃ a, s = a ++ lft s := ⟨s.takeWhile (bls.contains ·), (List.takeWhile_append_dropWhile ..).symm⟩
  rw [e, List.getLast?_append, h]
  rfl
theorem trimL_last (s : List UInt8) (b : UInt8) (h : (trimL s).getLast? = some b) : bls.contains b = false := rgt_last s b (last_lft _ b h)
/-- behind a mark ahead: blanks at one end alone. -/
theorem trim_tail {s r : List UInt8} {c : UInt8} (h : trimL s = c :: r) : trimL r = lft r := by
  unfold trimL Lib.trimS
  rw [rgt_id r (fun b hb => trimL_last s b (by
    rw [h, List.getLast?_cons, hb]
    rfl))]
  rfl
/-- a rule of a line: does it take back, its pattern; none: it says nothing. -/
def ruleOf (l : List UInt8) : Option (Bool × List UInt8) := match trimL l with
  | [] => none
  | c :: r => if c = 35 then none else if c = 33 then some (true, lft r) else some (false, c :: r)
theorem ruleOf_len {l : List UInt8} {b : Bool} {q : List UInt8} (h : ruleOf l = some (b, q)) : q.length ≤ l.length := by
  have ht := trimL_len l
  unfold ruleOf at h
  cases hs : trimL l with
  | nil => rw [hs] at h; cases h
  | cons c r =>
    rw [hs] at h ht
    simp only [List.length_cons] at ht
    simp only at h
    split at h
    · cases h
    · split at h
      · injection h with h; injection h with _ h; rw [← h]; have := lft_len r; omega
      · injection h with h; injection h with _ h; rw [← h]; simpa using ht
structure Rl where
  back : Bool
  pat : List UInt8
  ps : List Pc
/-- a list: its rules; or the number of what is wrong and its line. -/
def parseA : List (List UInt8) → Nat → List Rl → (Nat × Nat) ⊕ List Rl
  | [], _, acc => .inr acc
  | l :: ls, i, acc => match ruleOf l with
    | none => parseA ls (i + 1) acc
    | some (b, q) => if 256 ≤ acc.length then .inl (5, i + 1) else match readL q with
      | none => .inl (24, i + 1)
      | some ps => parseA ls (i + 1) (acc ++ [⟨b, q, ps⟩])
def parseL (text : List UInt8) : (Nat × Nat) ⊕ List Rl := parseA (cutL 10 text) 0 []
theorem parseA_skip {l : List UInt8} {ls : List (List UInt8)} {i : Nat} {acc : List Rl} (h : ruleOf l = none) : parseA (l :: ls) i acc = parseA ls (i + 1) acc := by rw [parseA, h]
theorem parseA_many {l : List UInt8} {ls : List (List UInt8)} {i : Nat} {acc : List Rl} {b : Bool} {q : List UInt8} (h : ruleOf l = some (b, q)) (h2 : 256 ≤ acc.length) : parseA (l :: ls) i acc = .inl (5, i + 1) := by
  rw [parseA, h]
  exact if_pos h2
theorem parseA_none {l : List UInt8} {ls : List (List UInt8)} {i : Nat} {acc : List Rl} {b : Bool} {q : List UInt8} (h : ruleOf l = some (b, q)) (h2 : ¬ 256 ≤ acc.length) (h3 : readL q = none) : parseA (l :: ls) i acc = .inl (24, i + 1) := by
  rw [parseA, h]
  simp only [if_neg h2, h3]
theorem parseA_some {l : List UInt8} {ls : List (List UInt8)} {i : Nat} {acc : List Rl} {b : Bool} {q : List UInt8} {ps : List Pc} (h : ruleOf l = some (b, q)) (h2 : ¬ 256 ≤ acc.length) (h3 : readL q = some ps) : parseA (l :: ls) i acc = parseA ls (i + 1) (acc ++ [⟨b, q, ps⟩]) := by
  rw [parseA, h]
  simp only [if_neg h2, h3]
/-- what holds of the rules that a list has. -/
def RlOk (n : Nat) (r : Rl) : Prop := readL r.pat = some r.ps ∧ r.pat.length ≤ n
theorem parseA_err : ∀ {ls : List (List UInt8)} {i : Nat} {acc : List Rl} {n k : Nat}, parseA ls i acc = .inl (n, k) → (n = 5 ∨ n = 24) ∧ k ≤ i + ls.length
  | [], i, acc, n, k, h => by rw [parseA] at h; cases h
  | l :: ls, i, acc, n, k, h => by
    cases hr : ruleOf l with
    | none =>
      rw [parseA_skip hr] at h
      have := parseA_err h
      exact ⟨this.1, by simp only [List.length_cons]; omega⟩
    | some bq =>
      obtain ⟨b, q⟩ := bq
      by_cases hm : 256 ≤ acc.length
      · rw [parseA_many hr hm] at h
        injection h with h
        injection h with h1 h2
        exact ⟨.inl h1.symm, by simp only [List.length_cons]; omega⟩
      · cases hq : readL q with
        | none =>
          rw [parseA_none hr hm hq] at h
          injection h with h
          injection h with h1 h2
          exact ⟨.inr h1.symm, by simp only [List.length_cons]; omega⟩
        | some ps =>
          rw [parseA_some hr hm hq] at h
          have := parseA_err h
          exact ⟨this.1, by simp only [List.length_cons]; omega⟩
theorem parseA_ok {m : Nat} : ∀ {ls : List (List UInt8)} {i : Nat} {acc rs : List Rl}, parseA ls i acc = .inr rs → (∀ l ∈ ls, l.length ≤ m) → acc.length ≤ 256 → (∀ r ∈ acc, RlOk m r) → rs.length ≤ 256 ∧ ∀ r ∈ rs, RlOk m r
  | [], i, acc, rs, h, _, ha, ho => by rw [parseA] at h; injection h with h; subst h; exact ⟨ha, ho⟩
  | l :: ls, i, acc, rs, h, hl, ha, ho => by
    have hl' := fun x hx => hl x (List.mem_cons_of_mem _ hx)
    cases hr : ruleOf l with
    | none =>
      rw [parseA_skip hr] at h
      exact parseA_ok h hl' ha ho
    | some bq =>
      obtain ⟨b, q⟩ := bq
      by_cases hm : 256 ≤ acc.length
      · rw [parseA_many hr hm] at h; cases h
      · cases hq : readL q with
        | none => rw [parseA_none hr hm hq] at h; cases h
        | some ps =>
          rw [parseA_some hr hm hq] at h
          refine parseA_ok h hl' (by simp; omega) fun r hx => ?_
          rcases List.mem_append.1 hx with hx | hx
          · exact ho r hx
          · rw [List.mem_singleton.1 hx]
            exact ⟨hq, Nat.le_trans (ruleOf_len hr) (hl l (List.mem_cons_self ..))⟩
/-- does a rule meet names: all of them, or the first of them? -/
def meetsL (ps : List Pc) (ns : List (List UInt8)) : Bool := (List.range (ns.length + 1)).any fun k => takesAll ps (ns.take k)
theorem meets_true {ps : List Pc} {ns : List (List UInt8)} {k : Nat} (hk : k ≤ ns.length) (h : takesAll ps (ns.take k) = true) : meetsL ps ns = true := List.any_eq_true.2 ⟨k, List.mem_range.2 (by omega), h⟩
theorem meets_false {ps : List Pc} {ns : List (List UInt8)} (h : ∀ k, k ≤ ns.length → takesAll ps (ns.take k) = false) : meetsL ps ns = false := by
  rw [meetsL, List.any_eq_false]
  intro k hk
  rw [h k (by have := List.mem_range.1 hk; omega)]
  simp
/-- what a list says of names. -/
def outL (rs : List Rl) (ns : List (List UInt8)) : Bool := rs.foldl (fun o r => if meetsL r.ps ns then !r.back else o) false
theorem outL_snoc (rs : List Rl) (r : Rl) (ns : List (List UInt8)) : outL (rs ++ [r]) ns = if meetsL r.ps ns then !r.back else outL rs ns := by rw [outL, List.foldl_append]; rfl
theorem outL_take {rs : List Rl} {i : Nat} (hi : i < rs.length) (ns : List (List UInt8)) : outL (rs.take (i + 1)) ns = if meetsL rs[i].ps ns then !rs[i].back else outL (rs.take i) ns := by
  rw [List.take_add_one, List.getElem?_eq_getElem hi]
  exact outL_snoc _ _ _
end Gl
theorem reachP_takes (ps : List Gl.Pc) (ns : List (List UInt8)) (i : Nat) : reachP ps ns i = Gl.takesAll ps (ns.take i) := rfl
end Go.Proofs.YtdjfakampjbgeaaGreatDoor
/- strings.Split, Trim, TrimLeft by the shelf; strataref02.Lines, blank, Trimmed, walked. -/
namespace Go.Proofs.YtdjfakampjbgeaaGreatDoor
open Go Go.RowKit Go.Shelf
def Tryz.lays160_ren : Go.Shelf.Ren := ⟨fun | 160 => 22 | 232 => 44 | 231 => 43 | 227 => 45 | 234 => 47 | 233 => 46 | 236 => 49 | 235 => 48 | 228 => 72 | 271 => 75 | 151 => 74 | 197 => 73 | 120 => 91 | 152 => 90 | 260 => 89 | 137 => 105 | 119 => 106 | 224 => 103 | 225 => 102 | 217 => 101 | 266 => 109 | n => n, fun | 9 => 9 | 4 => 4 | 3 => 3 | 5 => 5 | 117 => 85 | 116 => 84 | 0 => 0 | 124 => 88 | 21 => 21 | 105 => 117 | 46 => 150 | 119 => 165 | 139 => 168 | 138 => 167 | n => n, fun | 3 => 2 | 4 => 3 | n => n⟩
theorem Tryz.lays160 : Go.Proofs.Lays.n160 Tryz.prog Tryz.lays160_ren := {
  mixed := by kernel_rfl
  f119 := Tryz.func106.trans (congrArg some (by kernel_rfl))
  f120 := Tryz.func91.trans (congrArg some (by kernel_rfl))
  f137 := Tryz.func105.trans (congrArg some (by kernel_rfl))
  f151 := Tryz.func74.trans (congrArg some (by kernel_rfl))
  f152 := Tryz.func90.trans (congrArg some (by kernel_rfl))
  f160 := Tryz.func22.trans (congrArg some (by kernel_rfl))
  f197 := Tryz.func73.trans (congrArg some (by kernel_rfl))
  f217 := Tryz.func101.trans (congrArg some (by kernel_rfl))
  f224 := Tryz.func103.trans (congrArg some (by kernel_rfl))
  f225 := Tryz.func102.trans (congrArg some (by kernel_rfl))
  f227 := Tryz.func45.trans (congrArg some (by kernel_rfl))
  f228 := Tryz.func72.trans (congrArg some (by kernel_rfl))
  f231 := Tryz.func43.trans (congrArg some (by kernel_rfl))
  f232 := Tryz.func44.trans (congrArg some (by kernel_rfl))
  f233 := Tryz.func46.trans (congrArg some (by kernel_rfl))
  f234 := Tryz.func47.trans (congrArg some (by kernel_rfl))
  f235 := Tryz.func48.trans (congrArg some (by kernel_rfl))
  f236 := Tryz.func49.trans (congrArg some (by kernel_rfl))
  f260 := Tryz.func89.trans (congrArg some (by kernel_rfl))
  f266 := Tryz.func109.trans (congrArg some (by kernel_rfl))
  f271 := Tryz.func75.trans (congrArg some (by kernel_rfl))
  t0 := Tryz.underlying0
  a0 := Tryz.isAgg0
  z0 := Tryz.sizeOf0
  v0 := Tryz.zeroValue0
  t3 := Tryz.underlying3
  a3 := Tryz.isAgg3
  z3 := Tryz.sizeOf3
  v3 := Tryz.zeroValue3
  t4 := Tryz.underlying4
  a4 := Tryz.isAgg4
  z4 := Tryz.sizeOf4
  v4 := Tryz.zeroValue4
  t5 := Tryz.underlying5
  a5 := Tryz.isAgg5
  z5 := Tryz.sizeOf5
  v5 := Tryz.zeroValue5
  t9 := Tryz.underlying9
  a9 := Tryz.isAgg9
  z9 := Tryz.sizeOf9
  v9 := Tryz.zeroValue9
  t21 := Tryz.underlying21
  a21 := Tryz.isAgg21
  z21 := Tryz.sizeOf21
  v21 := Tryz.zeroValue21
  t46 := Tryz.underlying150
  a46 := Tryz.isAgg150
  z46 := Tryz.sizeOf150
  v46 := Tryz.zeroValue150
  t105 := Tryz.underlying117
  a105 := Tryz.isAgg117
  z105 := Tryz.sizeOf117
  v105 := Tryz.zeroValue117
  t116 := Tryz.underlying84
  a116 := Tryz.isAgg84
  z116 := Tryz.sizeOf84
  t117 := Tryz.underlying85
  a117 := Tryz.isAgg85
  z117 := Tryz.sizeOf85
  v117 := Tryz.zeroValue85
  t119 := Tryz.underlying165
  a119 := Tryz.isAgg165
  z119 := Tryz.sizeOf165
  t124 := Tryz.underlying88
  a124 := Tryz.isAgg88
  z124 := Tryz.sizeOf88
  v124 := Tryz.zeroValue88
  t138 := Tryz.underlying167
  a138 := Tryz.isAgg167
  z138 := Tryz.sizeOf167
  v138 := Tryz.zeroValue167
  t139 := Tryz.underlying168
  a139 := Tryz.isAgg168
  z139 := Tryz.sizeOf168
  v139 := Tryz.zeroValue168
  g3 := by kernel_rfl
  g4 := by kernel_rfl }
def Tryz.lays161_ren : Go.Shelf.Ren := ⟨fun | 161 => 23 | 231 => 43 | 227 => 45 | 233 => 46 | 235 => 48 | 228 => 72 | 197 => 73 | 151 => 74 | 260 => 89 | 152 => 90 | 137 => 105 | 119 => 106 | 224 => 103 | 225 => 102 | 217 => 101 | 266 => 109 | n => n, fun | 9 => 9 | 4 => 4 | 3 => 3 | 5 => 5 | 117 => 85 | 116 => 84 | 0 => 0 | 124 => 88 | 105 => 117 | 21 => 21 | 119 => 165 | 46 => 150 | 139 => 168 | 138 => 167 | n => n, fun | 3 => 2 | 4 => 3 | n => n⟩
theorem Tryz.lays161 : Go.Proofs.Lays.n161 Tryz.prog Tryz.lays161_ren := {
  mixed := by kernel_rfl
  f119 := Tryz.func106.trans (congrArg some (by kernel_rfl))
  f137 := Tryz.func105.trans (congrArg some (by kernel_rfl))
  f151 := Tryz.func74.trans (congrArg some (by kernel_rfl))
  f152 := Tryz.func90.trans (congrArg some (by kernel_rfl))
  f161 := Tryz.func23.trans (congrArg some (by kernel_rfl))
  f197 := Tryz.func73.trans (congrArg some (by kernel_rfl))
  f217 := Tryz.func101.trans (congrArg some (by kernel_rfl))
  f224 := Tryz.func103.trans (congrArg some (by kernel_rfl))
  f225 := Tryz.func102.trans (congrArg some (by kernel_rfl))
  f227 := Tryz.func45.trans (congrArg some (by kernel_rfl))
  f228 := Tryz.func72.trans (congrArg some (by kernel_rfl))
  f231 := Tryz.func43.trans (congrArg some (by kernel_rfl))
  f233 := Tryz.func46.trans (congrArg some (by kernel_rfl))
  f235 := Tryz.func48.trans (congrArg some (by kernel_rfl))
  f260 := Tryz.func89.trans (congrArg some (by kernel_rfl))
  f266 := Tryz.func109.trans (congrArg some (by kernel_rfl))
  t0 := Tryz.underlying0
  a0 := Tryz.isAgg0
  z0 := Tryz.sizeOf0
  v0 := Tryz.zeroValue0
  t3 := Tryz.underlying3
  a3 := Tryz.isAgg3
  z3 := Tryz.sizeOf3
  v3 := Tryz.zeroValue3
  t4 := Tryz.underlying4
  a4 := Tryz.isAgg4
  z4 := Tryz.sizeOf4
  v4 := Tryz.zeroValue4
  t5 := Tryz.underlying5
  a5 := Tryz.isAgg5
  z5 := Tryz.sizeOf5
  v5 := Tryz.zeroValue5
  t9 := Tryz.underlying9
  a9 := Tryz.isAgg9
  z9 := Tryz.sizeOf9
  v9 := Tryz.zeroValue9
  t21 := Tryz.underlying21
  a21 := Tryz.isAgg21
  z21 := Tryz.sizeOf21
  v21 := Tryz.zeroValue21
  t46 := Tryz.underlying150
  a46 := Tryz.isAgg150
  z46 := Tryz.sizeOf150
  v46 := Tryz.zeroValue150
  t105 := Tryz.underlying117
  a105 := Tryz.isAgg117
  z105 := Tryz.sizeOf117
  v105 := Tryz.zeroValue117
  t116 := Tryz.underlying84
  a116 := Tryz.isAgg84
  z116 := Tryz.sizeOf84
  t117 := Tryz.underlying85
  a117 := Tryz.isAgg85
  z117 := Tryz.sizeOf85
  v117 := Tryz.zeroValue85
  t119 := Tryz.underlying165
  a119 := Tryz.isAgg165
  z119 := Tryz.sizeOf165
  t124 := Tryz.underlying88
  a124 := Tryz.isAgg88
  z124 := Tryz.sizeOf88
  v124 := Tryz.zeroValue88
  t138 := Tryz.underlying167
  a138 := Tryz.isAgg167
  z138 := Tryz.sizeOf167
  v138 := Tryz.zeroValue167
  t139 := Tryz.underlying168
  a139 := Tryz.isAgg168
  z139 := Tryz.sizeOf168
  v139 := Tryz.zeroValue168
  g3 := by kernel_rfl
  g4 := by kernel_rfl }
def Tryz.lays146_ren : Go.Shelf.Ren := ⟨fun | 146 => 21 | 221 => 42 | 268 => 69 | 138 => 70 | 143 => 71 | 195 => 86 | 197 => 73 | 218 => 87 | 219 => 88 | 260 => 89 | 217 => 101 | 225 => 102 | 224 => 103 | 267 => 104 | 266 => 109 | 314 => 110 | n => n, fun | 9 => 9 | 31 => 42 | 3 => 3 | 4 => 4 | 0 => 0 | 105 => 117 | 21 => 21 | 5 => 5 | 46 => 150 | 119 => 165 | 139 => 168 | 138 => 167 | 146 => 173 | 51 => 172 | n => n, fun | 1 => 1 | 3 => 2 | 4 => 3 | n => n⟩
theorem Tryz.lays146 : Go.Proofs.Lays.n146 Tryz.prog Tryz.lays146_ren := {
  mixed := by kernel_rfl
  f138 := Tryz.func70.trans (congrArg some (by kernel_rfl))
  f143 := Tryz.func71.trans (congrArg some (by kernel_rfl))
  f146 := Tryz.func21.trans (congrArg some (by kernel_rfl))
  f195 := Tryz.func86.trans (congrArg some (by kernel_rfl))
  f197 := Tryz.func73.trans (congrArg some (by kernel_rfl))
  f217 := Tryz.func101.trans (congrArg some (by kernel_rfl))
  f218 := Tryz.func87.trans (congrArg some (by kernel_rfl))
  f219 := Tryz.func88.trans (congrArg some (by kernel_rfl))
  f221 := Tryz.func42.trans (congrArg some (by kernel_rfl))
  f224 := Tryz.func103.trans (congrArg some (by kernel_rfl))
  f225 := Tryz.func102.trans (congrArg some (by kernel_rfl))
  f260 := Tryz.func89.trans (congrArg some (by kernel_rfl))
  f266 := Tryz.func109.trans (congrArg some (by kernel_rfl))
  f267 := Tryz.func104.trans (congrArg some (by kernel_rfl))
  f268 := Tryz.func69.trans (congrArg some (by kernel_rfl))
  f314 := Tryz.func110.trans (congrArg some (by kernel_rfl))
  t0 := Tryz.underlying0
  a0 := Tryz.isAgg0
  z0 := Tryz.sizeOf0
  v0 := Tryz.zeroValue0
  t3 := Tryz.underlying3
  a3 := Tryz.isAgg3
  z3 := Tryz.sizeOf3
  v3 := Tryz.zeroValue3
  t4 := Tryz.underlying4
  a4 := Tryz.isAgg4
  z4 := Tryz.sizeOf4
  v4 := Tryz.zeroValue4
  t5 := Tryz.underlying5
  a5 := Tryz.isAgg5
  z5 := Tryz.sizeOf5
  v5 := Tryz.zeroValue5
  t9 := Tryz.underlying9
  a9 := Tryz.isAgg9
  z9 := Tryz.sizeOf9
  v9 := Tryz.zeroValue9
  t21 := Tryz.underlying21
  a21 := Tryz.isAgg21
  z21 := Tryz.sizeOf21
  v21 := Tryz.zeroValue21
  t31 := Tryz.underlying42
  a31 := Tryz.isAgg42
  z31 := Tryz.sizeOf42
  v31 := Tryz.zeroValue42
  t46 := Tryz.underlying150
  a46 := Tryz.isAgg150
  z46 := Tryz.sizeOf150
  v46 := Tryz.zeroValue150
  t51 := Tryz.underlying172
  a51 := Tryz.isAgg172
  z51 := Tryz.sizeOf172
  v51 := Tryz.zeroValue172
  t105 := Tryz.underlying117
  a105 := Tryz.isAgg117
  z105 := Tryz.sizeOf117
  v105 := Tryz.zeroValue117
  t119 := Tryz.underlying165
  a119 := Tryz.isAgg165
  z119 := Tryz.sizeOf165
  t138 := Tryz.underlying167
  a138 := Tryz.isAgg167
  z138 := Tryz.sizeOf167
  v138 := Tryz.zeroValue167
  t139 := Tryz.underlying168
  a139 := Tryz.isAgg168
  z139 := Tryz.sizeOf168
  v139 := Tryz.zeroValue168
  t146 := Tryz.underlying173
  a146 := Tryz.isAgg173
  z146 := Tryz.sizeOf173
  v146 := Tryz.zeroValue173
  g1 := by kernel_rfl
  g3 := by kernel_rfl
  g4 := by kernel_rfl }

theorem trim_any (s : ByteArray) (hs : s.size ≤ 9223372036854775807) (w : World) {t : List UInt8} (H : Hid (Gl.trimL (bl s) = t)) : Calls Tryz.prog 22 #[.string s, .string ⟨#[32, 9, 13]⟩] w fun e w' => e = .returned (.string (bs t)) ∧ Below w.heap.size w w' := by
  rw [← H.out]
  exact Any.strings_Trim_laid Tryz.lays160 (by kernel_rfl) s ⟨#[32, 9, 13]⟩ w hs (by decide) (ascii_of_all (by decide))
theorem trimLeft_any (s : ByteArray) (w : World) {t : List UInt8} (H : Hid (Gl.lft (bl s) = t)) : Calls Tryz.prog 23 #[.string s, .string ⟨#[32, 9, 13]⟩] w fun e w' => e = .returned (.string (bs t)) ∧ Below w.heap.size w w' := by
  rw [← H.out]
  exact Any.strings_TrimLeft_laid Tryz.lays161 (by kernel_rfl) s ⟨#[32, 9, 13]⟩ w (by decide) (ascii_of_all (by decide))
theorem split_any (s : ByteArray) (hs : s.size ≤ 2000000) (w : World) (hmx : Maxl w) {ls : List (List UInt8)} (H : Hid (Gl.cutL 10 (bl s) = ls)) : Calls Tryz.prog 21 #[.string s, .string ⟨#[10]⟩] w fun e w' => e = .returned (.slice (some ⟨w.heap.size, 0, none⟩) ls.length ls.length) ∧ Blk w' w.heap.size 9 (sc ls).toArray ∧ Below w.heap.size w w' := by
  obtain ⟨m, hm⟩ := hmx
  have hc := Any.strings_Split Tryz.lays146 (by kernel_rfl) s ⟨#[10]⟩ m w (by omega) hm (by decide)
  have e1 : (Lib.splitB ⟨#[10]⟩ 0 (Lib.countB s ⟨#[10]⟩) s).map (fun x => x.data.toList) = ls := by
    rw [Lib.splitB_data, ← H.out]
    have e2 : Lib.countB s ⟨#[10]⟩ = (bl s).count 10 := Lib.count_one 10 _
    rw [e2]
    exact Gl.splitK_cut 10 _ (bl s) (Nat.le_refl _)
  have e2 : Lib.countB s ⟨#[10]⟩ + 1 = ls.length := by
    rw [← e1, List.length_map]
    exact (Lib.splitB_all ⟨#[10]⟩ (by decide) 0 _ s rfl).symm
  have e3 : (Lib.splitB ⟨#[10]⟩ 0 (Lib.countB s ⟨#[10]⟩) s).map Value.string = sc ls := by
    rw [← e1, sc, List.map_map]
    exact List.map_congr_left fun x _ => by rw [Function.comp]; exact congrArg Value.string (bs_bl x).symm
  rw [e2, e3] at hc
  refine hc.mono ?_
  rintro e w' ⟨rfl, rfl⟩
  exact ⟨rfl, Blk.new _ _ _, (Below.refl _ _).alloc (Nat.le_refl _) _⟩
set_option maxRecDepth 100000 in
theorem blank_any (c : UInt8) (w : World) {b : Bool} (H : Hid (Gl.bls.contains c = b)) : Calls Tryz.prog 39 #[.int .u8 (c.toNat : Int)] w fun e w' => e = .returned (.bool b) ∧ w = w' := by
  have hb := H.out
  rw [show Gl.bls.contains c = (c == 32 || c == 9 || c == 13) by rw [Bool.eq_iff_iff]; simp [or_assoc]] at hb
  have hc : c.toNat < 256 := c.toNat_lt
  have q : ∀ d : UInt8, ((c.toNat : Int) == (d.toNat : Int)) = (c == d) := fun d => by
    rw [Bool.eq_iff_iff, beq_iff_eq, beq_iff_eq]
    exact ⟨fun e => UInt8.toNat_inj.1 (by omega), fun e => by rw [e]⟩
  have q1 := q 32
  have q2 := q 9
  have q3 := q 13
  rw [show (((32 : UInt8).toNat : Nat) : Int) = 32 from rfl] at q1
  rw [show (((9 : UInt8).toNat : Nat) : Int) = 9 from rfl] at q2
  rw [show (((13 : UInt8).toNat : Nat) : Int) = 13 from rfl] at q3
  clear q H
  generalize (c == 32) = x1 at *
  generalize (c == 9) = x2 at *
  generalize (c == 13) = x3 at *
  have HB := Lib.hid hb
  clear hb
  cases x1 <;> cases x2 <;> cases x3 <;> (
    go_enter Tryz.func39, Tryz.ntmps39
    go_wp2_with fail
    go_ret
    exact ⟨by rw [← HB.out]; rfl, rfl⟩)
theorem slice_ij (s : ByteArray) (i j : Nat) (hij : i ≤ j) (hj : j ≤ s.size) : ∀ wx, (Instr.slice 9 (.string s) (some (.int .i64 (i : Int))) (some (.int .i64 (j : Int))) none).run Tryz.prog wx = .ok (.string (bs (((bl s).drop i).take (j - i)))) wx := by
  rw [← ext_bs]
  exact slice_lit s i j (i : Int) (j : Int) rfl rfl hij hj
theorem bl_at (s : ByteArray) (k : Nat) (h : k < s.size) : (bl s)[k]? = some s[k] := by
  have h2 : k < (bl s).length := by rw [bl_length]; exact h
  rw [List.getElem?_eq_getElem h2]
  rfl
set_option maxRecDepth 100000 in
set_option maxHeartbeats 2000000 in
theorem trimmed_any (s : ByteArray) (hs : s.size ≤ 2000000) (w : World) {t : List UInt8} (H : Hid (Gl.trimL (bl s) = t)) : Calls Tryz.prog 19 #[.string s] w fun e w' => e = .returned (.string (bs t)) ∧ w = w' := by
  go_enter Tryz.func19, Tryz.ntmps19
  go_wp2_with fail
  go_loopw [3] (fun t3 wr => ∃ i : Nat, i ≤ s.size ∧ t3 = .int .i64 (i : Int) ∧ Hid (∀ (x : Nat) b, x < i → (bl s)[x]? = some b → Gl.bls.contains b = true) ∧ w = wr) (fun t3 _ => s.size - (intOf t3).toNat)
  case atStart => exact ⟨0, by omega, rfl, fun x b h => by omega, by first | rfl | trivial⟩
  case round =>
    obtain ⟨i, hi, rfl, HL, rfl⟩ := hrel
    have j0 : (0 : Int) ≤ (i : Int) := by omega
    rcases Nat.lt_or_ge i s.size with hin | hin
    · have i0 : decide ((i : Int) < (s.size : Int)) = true := by rw [decide_eq_true_eq]; omega
      have i1 : (i : Int) < (s.size : Int) := by omega
      have hb : (s[i]).toNat < 256 := (s[i]).toNat_lt
      have e := bl_at s i hin
      cases hc : Gl.bls.contains s[i] with
      | true =>
        have HC := Lib.hid hc
        have HL2 : Hid (∀ (x : Nat) b, x < i + 1 → (bl s)[x]? = some b → Gl.bls.contains b = true) := fun x b hx hxb => by
          by_cases h : x = i
          · subst h
            rw [e] at hxb
            injection hxb with hxb
            rw [← hxb]
            exact HC.out
          · exact HL.out x b (by omega) hxb
        clear hc HL e
        go_wp2_with fail
        refine (blank_any _ _ HC).mono ?_
        rintro e w1 ⟨rfl, rfl⟩
        go_wp2_with fail
        go_roundw
        case rel => exact ⟨i + 1, by omega, by go_num, HL2, by first | rfl | trivial⟩
        case measure => simp [intOf]; omega
      | false =>
        have HC := Lib.hid hc
        have HE := Lib.hid e
        clear hc e
        go_wp2_with fail
        refine (blank_any _ _ HC).mono ?_
        rintro e w1 ⟨rfl, rfl⟩
        go_wp2_with fail
        go_loopw [4] (fun t4 wr => ∃ j : Nat, i < j ∧ j ≤ s.size ∧ t4 = .int .i64 (j : Int) ∧ Hid (∀ (x : Nat) b, j ≤ x → (bl s)[x]? = some b → Gl.bls.contains b = true) ∧ w = wr) (fun t4 _ => (intOf t4).toNat)
        case atStart => exact ⟨s.size, hin, by omega, rfl, Lib.hid (fun x b hx hxb => by rw [List.getElem?_eq_none (by rw [bl_length]; exact hx)] at hxb; cases hxb), by first | rfl | trivial⟩
        case round =>
          obtain ⟨j, hij, hj, rfl, HR, rfl⟩ := hrel
          obtain ⟨k, rfl⟩ : ∃ k, j = k + 1 := ⟨j - 1, by omega⟩
          have k0 : (0 : Int) ≤ (k : Int) := by omega
          have g0 : decide ((i : Int) < ((k + 1 : Nat) : Int)) = true := by rw [decide_eq_true_eq]; omega
          have g0' : decide ((i : Int) < (k : Int) + 1) = true := by rw [decide_eq_true_eq]; omega
          have k1 : (k : Int) < (s.size : Int) := by omega
          have k2 : k < s.size := by omega
          have k3 : ((k + 1 : Nat) : Int) - 1 = (k : Int) := by omega
          have k4 : (k : Int) + 1 - 1 = (k : Int) := by omega
          have hb2 : (s[k]).toNat < 256 := (s[k]).toNat_lt
          have e := bl_at s k k2
          cases hc : Gl.bls.contains s[k] with
          | true =>
            have HC2 := Lib.hid hc
            have hik : Hid (i < k) := by
              show i < k
              rcases Nat.lt_or_ge i k with h | h
              · exact h
              · exfalso
                obtain rfl : i = k := by omega
                rw [HC.out] at hc
                cases hc
            have HR2 : Hid (∀ (x : Nat) b, k ≤ x → (bl s)[x]? = some b → Gl.bls.contains b = true) := fun x b hx hxb => by
              by_cases h : x = k
              · subst h
                rw [e] at hxb
                injection hxb with hxb
                rw [← hxb]
                exact HC2.out
              · exact HR.out x b (by omega) hxb
            clear hc HR e
            go_wp2_with fail
            refine (blank_any _ _ HC2).mono ?_
            rintro e w1 ⟨rfl, rfl⟩
            go_wp2_with fail
            go_roundw
            case rel => exact ⟨k, hik.out, by omega, by go_num, HR2, by first | rfl | trivial⟩
            case measure => first | (simp [intOf]; done) | (simp [intOf]; omega)
          | false =>
            have HC2 := Lib.hid hc
            have hT : Hid (t = ((bl s).drop i).take (k + 1 - i)) := by
              show _ = _
              rw [← H.out]
              refine Gl.trim_at (bl s) i (k + 1) (by omega) (by rw [bl_length]; omega) HL.out (fun b hb => ?_) HR.out (.inr fun b hb => ?_)
              · rw [HE.out] at hb
                injection hb with hb
                rw [← hb]
                exact HC.out
              · rw [show k + 1 - 1 = k by omega, e] at hb
                injection hb with hb
                rw [← hb]
                exact HC2.out
            have hsl := slice_ij s i (k + 1) (by omega) (by omega)
            rw [← hT.out] at hsl
            have hsl2 : ∀ wx, (Instr.slice 9 (.string s) (some (.int .i64 (i : Int))) (some (.int .i64 ((k : Int) + 1))) none).run Tryz.prog wx = .ok (.string (bs t)) wx := hsl
            clear hc HR e
            go_wp2_with fail
            refine (blank_any _ _ HC2).mono ?_
            rintro e w1 ⟨rfl, rfl⟩
            go_wp2_with fail
            go_ret
            exact ⟨rfl, by first | rfl | trivial⟩
    · obtain rfl : i = s.size := by omega
      have i0 : decide ((s.size : Int) < (s.size : Int)) = false := by rw [decide_eq_false_iff_not]; omega
      have hT : Hid (t = ((bl s).drop s.size).take (s.size - s.size)) := by
        show _ = _
        rw [← H.out]
        refine Gl.trim_at (bl s) s.size s.size (Nat.le_refl _) (by rw [bl_length]; exact Nat.le_refl _) HL.out (fun b hb => ?_) (fun x b hx hb => ?_) (.inl rfl)
        · rw [List.getElem?_eq_none (by rw [bl_length]; exact Nat.le_refl _)] at hb; cases hb
        · rw [List.getElem?_eq_none (by rw [bl_length]; exact hx)] at hb; cases hb
      have hsl := slice_ij s s.size s.size (Nat.le_refl _) (Nat.le_refl _)
      rw [← hT.out] at hsl
      clear HL
      go_wp2_with fail
      go_loopw [4] (fun t4 wr => t4 = .int .i64 (s.size : Int) ∧ w = wr) (fun _ _ => 0)
      case atStart => exact ⟨rfl, by first | rfl | trivial⟩
      case round =>
        obtain ⟨rfl, rfl⟩ := hrel
        go_wp2_with fail
        go_ret
        exact ⟨rfl, by first | rfl | trivial⟩
end Go.Proofs.YtdjfakampjbgeaaGreatDoor
