/- Lines and blanks, plain: the pieces between bytes, what is trimmed. References to images, plain: the program's way and the document's say the same. Quotes and variables, plain: what a text reads as. Names, labels, modes and the words that open documents, plain: the program's way and the document's say the same. -/
import Derived.Test.YtnlkmljdcmfogaaGreatDoorOwn0
import Derived.Lib.SplitLaws
import Derived.Lib.SlTrimSet
namespace Go.Proofs.YtnlkmljdcmfogaaGreatDoor
open Go Go.RowKit
namespace Gl
/-- the pieces between bytes k, the empty ones too. -/
def cutL (k : UInt8) : List UInt8 → List (List UInt8)
  | [] => [[]]
  | c :: r => if c = k then [] :: cutL k r else (c :: (cutL k r).headD []) :: (cutL k r).tail
theorem cutL_ne (k : UInt8) (s : List UInt8) : cutL k s = (cutL k s).headD [] :: (cutL k s).tail := by
  cases s with
  | nil => rfl
  | cons c r => unfold cutL; split <;> rfl
theorem cutL_no (k : UInt8) : ∀ (a : List UInt8), (∀ c ∈ a, c ≠ k) → cutL k a = [a]
  | [], _ => rfl
  | c :: a, h => by
    have hc : ¬ c = k := h c (List.mem_cons_self ..)
    have ih := cutL_no k a (fun x hx => h x (List.mem_cons_of_mem _ hx))
    rw [cutL, if_neg hc, ih]
    rfl
theorem cutL_cut (k : UInt8) : ∀ (a r : List UInt8), (∀ c ∈ a, c ≠ k) → cutL k (a ++ k :: r) = a :: cutL k r
  | [], r, _ => by rw [List.nil_append, cutL, if_pos rfl]
  | c :: a, r, h => by
    have hc : ¬ c = k := h c (List.mem_cons_self ..)
    have ih := cutL_cut k a r (fun x hx => h x (List.mem_cons_of_mem _ hx))
    rw [List.cons_append, cutL, if_neg hc, ih]
    rfl
theorem cutL_length (k : UInt8) : ∀ s : List UInt8, (cutL k s).length ≤ s.length + 1
  | [] => by simp [cutL]
  | c :: r => by
    have ih := cutL_length k r
    rw [cutL]
    split
    · simp; omega
    · simp only [List.length_cons, List.length_tail]; omega
theorem cutL_piece (k : UInt8) : ∀ (s : List UInt8) (x : List UInt8), x ∈ cutL k s → x.length ≤ s.length
  | [], x, h => by simp [cutL] at h; simp [h]
  | c :: r, x, h => by
    have ih := cutL_piece k r
    rw [cutL_ne k r] at ih
    rw [cutL] at h
    split at h
    · rcases List.mem_cons.1 h with rfl | h
      · simp
      · have := cutL_piece k r x h; simp; omega
    · rcases List.mem_cons.1 h with rfl | h
      · have := ih _ (List.mem_cons_self ..); simp only [List.length_cons]; omega
      · have := ih x (List.mem_cons_of_mem _ h); simp; omega
theorem index_byte (k : UInt8) : ∀ (l : List UInt8), (Lib.index l [k] = -1 ∧ ∀ c ∈ l, c ≠ k) ∨ (∃ a r, l = a ++ k :: r ∧ (∀ c ∈ a, c ≠ k) ∧ Lib.index l [k] = (a.length : Int))
  | [] => .inl ⟨rfl, by simp⟩
  | b :: l => by
    by_cases h : b = k
    · subst h
      exact .inr ⟨[], l, rfl, by simp, by simp [Lib.index, List.isPrefixOf]⟩
    · have hp : List.isPrefixOf [k] (b :: l) = false := by
        simp only [List.isPrefixOf, Bool.and_eq_false_iff]
        exact .inl (by simpa using fun e => h e.symm)
      rcases index_byte k l with ⟨h1, h2⟩ | ⟨a, r, h1, h2, h3⟩
      · refine .inl ⟨by simp [Lib.index, hp, h1], fun x hx => ?_⟩
        rcases List.mem_cons.1 hx with rfl | hx
        · exact h
        · exact h2 x hx
      · refine .inr ⟨b :: a, r, by rw [h1]; rfl, fun x hx => ?_, ?_⟩
        · rcases List.mem_cons.1 hx with rfl | hx
          · exact h
          · exact h2 x hx
        · have hne : (Lib.index l [k] == -1) = false := by rw [h3]; simp
          rw [Lib.index, if_neg (by rw [hp]; simp), if_neg (by rw [hne]; simp), h3]
          simp
theorem splitK_cut (k : UInt8) : ∀ (n : Nat) (s : List UInt8), s.length ≤ n → Lib.splitK [k] 0 (s.count k) s = cutL k s
  | n, s, hn => by
    rcases index_byte k s with ⟨h1, h2⟩ | ⟨a, r, h1, h2, h3⟩
    · have hc : s.count k = 0 := List.count_eq_zero.2 fun h => h2 k h rfl
      rw [hc, cutL_no k s h2, Lib.splitK]
    · have hc : s.count k = r.count k + 1 := by
        rw [h1, List.count_append, List.count_cons_self, List.count_eq_zero.2 fun h => h2 k h rfl]
        omega
      have hr : r.length < s.length := by rw [h1, List.length_append, List.length_cons]; omega
      cases n with
      | zero => omega
      | succ n =>
        have ih := splitK_cut k n r (by omega)
        rw [hc, Lib.splitK, h3, if_neg (by rw [beq_iff_eq]; omega)]
        have e1 : s.take (((a.length : Int)).toNat + 0) = a := by rw [h1]; simp
        have e2 : s.drop (((a.length : Int)).toNat + [k].length) = r := by
          rw [h1, Int.toNat_natCast, List.length_singleton, List.drop_append]
          simp
        rw [e1, e2, ih, h1, cutL_cut k a r h2]
/-- spaces, tabs, returns. -/
abbrev bls : List UInt8 := [32, 9, 13]
def trimL (s : List UInt8) : List UInt8 := Lib.trimS s bls
def lft (s : List UInt8) : List UInt8 := Lib.trimLeftS s bls
theorem trim_at (s : List UInt8) (i j : Nat) (hij : i ≤ j) (hj : j ≤ s.length) (h1 : ∀ (x : Nat) b, x < i → s[x]? = some b → bls.contains b = true) (h2 : ∀ b, s[i]? = some b → bls.contains b = false)
    (h3 : ∀ (x : Nat) b, j ≤ x → s[x]? = some b → bls.contains b = true) (h4 : j = i ∨ ∀ b, s[j - 1]? = some b → bls.contains b = false) : trimL s = (s.drop i).take (j - i) := by
  unfold trimL Lib.trimS
  rcases Nat.lt_or_ge i j with hlt | hge
  · rw [Lib.trimRightS_take s bls j hj h3 (fun b _ hb => by
      rcases h4 with h4 | h4
      · omega
      · exact h4 b hb)]
    rw [Lib.trimLeftS_drop (s.take j) bls i (by rw [List.length_take]; omega) (fun x b hx hb => by
      rw [List.getElem?_take, if_pos (by omega)] at hb
      exact h1 x b hx hb) (fun b hb => by
      rw [List.getElem?_take, if_pos hlt] at hb
      exact h2 b hb)]
    rw [List.drop_take]
  · obtain rfl : i = j := by omega
    have hi : i = s.length := by
      rcases Nat.lt_or_ge i s.length with h | h
      · have e := List.getElem?_eq_getElem h
        have q := h3 i _ (Nat.le_refl _) e
        rw [h2 _ e] at q
        cases q
      · omega
    rw [Lib.trimRightS_take s bls 0 (by omega) (fun x b _ hb => h1 x b (by rw [hi]; exact (List.getElem?_eq_some_iff.1 hb).1) hb) (fun b h => by omega)]
    simp [Lib.trimLeftS_nil]
theorem trimL_len (s : List UInt8) : (trimL s).length ≤ s.length := by
  unfold trimL Lib.trimS Lib.trimLeftS Lib.trimRightS
  refine Nat.le_trans (List.dropWhile_sublist _).length_le ?_
  rw [List.length_reverse]
  exact Nat.le_trans (List.dropWhile_sublist _).length_le (by rw [List.length_reverse]; exact Nat.le_refl _)
theorem lft_len (s : List UInt8) : (lft s).length ≤ s.length := (List.dropWhile_sublist _).length_le
theorem rgt_id (s : List UInt8) (h : ∀ b, s.getLast? = some b → bls.contains b = false) : Lib.trimRightS s bls = s := by
  unfold Lib.trimRightS
  have : s.reverse.dropWhile (bls.contains ·) = s.reverse := by
    cases hr : s.reverse with
    | nil => rfl
    | cons b r =>
      have := h b (by rw [List.getLast?_eq_head?_reverse, hr]; rfl)
      rw [List.dropWhile_cons_of_neg (by rw [this]; simp)]
  rw [this, List.reverse_reverse]
theorem rgt_last (s : List UInt8) (b : UInt8) (h : (Lib.trimRightS s bls).getLast? = some b) : bls.contains b = false := by
  unfold Lib.trimRightS at h
  rw [List.getLast?_reverse] at h
  cases hd : s.reverse.dropWhile (bls.contains ·) with
  | nil => rw [hd] at h; cases h
  | cons c r =>
    rw [hd] at h
    injection h with h
    subst h
    have := List.head?_dropWhile_not (bls.contains ·) s.reverse
    rw [hd] at this
    simpa using this
theorem last_lft (s : List UInt8) (b : UInt8) (h : (lft s).getLast? = some b) : s.getLast? = some b := by
  obtain ⟨a, e⟩ : ∃ a, s = a ++ lft s := ⟨s.takeWhile (bls.contains ·), (List.takeWhile_append_dropWhile ..).symm⟩
  rw [e, List.getLast?_append, h]
  rfl
theorem trimL_last (s : List UInt8) (b : UInt8) (h : (trimL s).getLast? = some b) : bls.contains b = false := rgt_last s b (last_lft _ b h)
/-- behind a mark ahead: blanks at one end alone. -/
theorem trim_tail {s r : List UInt8} {c : UInt8} (h : trimL s = c :: r) : trimL r = lft r := by
  unfold trimL Lib.trimS
  rw [rgt_id r (fun b hb => trimL_last s b (by
    rw [h, List.getLast?_cons, hb]
    rfl))]
  rfl
end Gl
end Go.Proofs.YtnlkmljdcmfogaaGreatDoor
namespace Go.Proofs.YtnlkmljdcmfogaaGreatDoor
open Go Go.RowKit
namespace Ck
def small (c : UInt8) : Bool := decide (97 ≤ c.toNat) && decide (c.toNat ≤ 122)
def big (c : UInt8) : Bool := decide (65 ≤ c.toNat) && decide (c.toNat ≤ 90)
def digit (c : UInt8) : Bool := decide (48 ≤ c.toNat) && decide (c.toNat ≤ 57)
/-- check.of. -/
def ofL (s others : List UInt8) (caps : Bool) : Bool := s.all (fun c => small c || digit c || caps && big c || others.contains c) && !s.isEmpty
def tagP (t : List UInt8) : Bool := ofL t [95, 46, 45] true && t.head? != some 46 && t.head? != some 45
def pieceP (p : List UInt8) : Bool := ofL p [46, 95, 45] false && decide (Lib.trimS p [46, 95, 45] = p)
def latest : List UInt8 := [108, 97, 116, 101, 115, 116]
def scratch : List UInt8 := [115, 99, 114, 97, 116, 99, 104]
/-- the document's tag: the first byte is no dot and no dash. -/
def tagR (t : List UInt8) : Bool := match t with
  | [] => false
  | c :: r => (small c || big c || digit c || c == 95) && r.all (fun c => small c || big c || digit c || c == 95 || c == 46 || c == 45)
/-- the document's piece: small letters and digits, and . _ - between them. -/
def edge (c : UInt8) : Bool := small c || digit c
def pieceR (p : List UInt8) : Bool := p.all (fun c => edge c || c == 46 || c == 95 || c == 45) && p.head?.any edge && p.getLast?.any edge
/-- strataref18.Full's verdict. -/
def refR (s : List UInt8) : Bool := decide (s.length ≤ 96) && match Gl.cutL 58 s with
  | [a] => decide (a ≠ scratch) && decide (s.length + 7 ≤ 96) && (Gl.cutL 47 a).all pieceR
  | [a, t] => tagR t && decide (a ≠ scratch) && (Gl.cutL 47 a).all pieceR
  | _ => false
theorem small_big (c : UInt8) (h : small c = true) : c.toNat ≠ 46 ∧ c.toNat ≠ 45 ∧ c.toNat ≠ 95 := by
  simp only [small, Bool.and_eq_true, decide_eq_true_eq] at h; omega
theorem eq_nat (c : UInt8) (k : Nat) (hk : k < 256) : (c == UInt8.ofNat k) = decide (c.toNat = k) := by
  rw [Bool.eq_iff_iff, beq_iff_eq, decide_eq_true_eq]
  constructor
  · rintro rfl; simp; omega
  · intro h; apply UInt8.toNat_inj.1; rw [h]; simp; omega
theorem tag_same (t : List UInt8) : tagP t = tagR t := by
  cases t with
  | nil => rfl
  | cons c r =>
    have e : ∀ d : UInt8, (small d || digit d || true && big d || ([95, 46, 45] : List UInt8).contains d) = (small d || big d || digit d || d == 95 || d == 46 || d == 45) := fun d => by
      simp only [List.contains_cons, List.contains_nil, Bool.or_false, Bool.true_and]
      cases small d <;> cases digit d <;> cases big d <;> cases (d == 95) <;> cases (d == 46) <;> cases (d == 45) <;> rfl
    have h1 : (some c != some (46 : UInt8)) = !(c == 46) := by cases h : c == 46 <;> simp_all [bne]
    have h2 : (some c != some (45 : UInt8)) = !(c == 45) := by cases h : c == 45 <;> simp_all [bne]
    have d46 : c == 46 → (small c || big c || digit c || c == 95) = false := fun h => by rw [beq_iff_eq] at h; subst h; decide
    have d45 : c == 45 → (small c || big c || digit c || c == 95) = false := fun h => by rw [beq_iff_eq] at h; subst h; decide
    show (((c :: r).all _ && !(c :: r).isEmpty) && (c :: r).head? != some 46 && (c :: r).head? != some 45) = _
    simp only [List.all_cons, List.isEmpty_cons, List.head?_cons, h1, h2, e, tagR, Bool.not_false, Bool.and_true]
    generalize r.all (fun c => small c || big c || digit c || c == 95 || c == 46 || c == 45) = R
    cases h46 : (c == 46) with
    | true => rw [d46 h46]; simp
    | false =>
      cases h45 : (c == 45) with
      | true => rw [d45 h45]; simp
      | false => simp
theorem trim_id (p : List UInt8) (cs : List UInt8) : Lib.trimS p cs = p ↔ (∀ c, p.head? = some c → cs.contains c = false) ∧ (∀ c, p.getLast? = some c → cs.contains c = false) := by
  have hd : ∀ l : List UInt8, l.dropWhile (cs.contains ·) = l ↔ ∀ c, l.head? = some c → cs.contains c = false := fun l => by
    cases l with
    | nil => simp
    | cons c r =>
      rw [List.dropWhile_cons]
      cases h : cs.contains c with
      | true =>
        simp only [h, if_true, List.head?_cons, Option.some.injEq, forall_eq']
        constructor
        · intro e
          have := congrArg List.length e
          have := (List.dropWhile_sublist (l := r) (cs.contains ·)).length_le
          simp at *
          omega
        · intro e; cases e
      | false =>
        simp only [h, List.head?_cons, Option.some.injEq, forall_eq']
        simp
  have hr : Lib.trimRightS p cs = p ↔ ∀ c, p.getLast? = some c → cs.contains c = false := by
    unfold Lib.trimRightS
    rw [List.reverse_eq_iff, hd, List.head?_reverse]
  have l1 : (Lib.trimRightS p cs).length ≤ p.length := by
    unfold Lib.trimRightS
    rw [List.length_reverse]
    have := (List.dropWhile_sublist (l := p.reverse) (cs.contains ·)).length_le
    rwa [List.length_reverse] at this
  have l2 : (Lib.trimS p cs).length ≤ (Lib.trimRightS p cs).length := (List.dropWhile_sublist (cs.contains ·)).length_le
  constructor
  · intro h
    have hl : (Lib.trimRightS p cs).length = p.length := by rw [h] at l2; omega
    have h1 : Lib.trimRightS p cs = p := by
      unfold Lib.trimRightS at hl ⊢
      rw [List.reverse_eq_iff]
      rw [List.length_reverse] at hl
      exact (List.dropWhile_sublist (cs.contains ·)).eq_of_length (by rw [List.length_reverse]; exact hl)
    refine ⟨(hd p).1 ?_, hr.1 h1⟩
    have h2 := h
    unfold Lib.trimS Lib.trimLeftS at h2
    rwa [h1] at h2
  · rintro ⟨h1, h2⟩
    unfold Lib.trimS Lib.trimLeftS
    rw [hr.2 h2]
    exact (hd p).2 h1
theorem piece_same (p : List UInt8) : pieceP p = pieceR p := by
  have e : (fun c : UInt8 => small c || digit c || false && big c || ([46, 95, 45] : List UInt8).contains c) = fun c => edge c || c == 46 || c == 95 || c == 45 := by
    funext d
    simp only [List.contains_cons, List.contains_nil, Bool.or_false, Bool.false_and, edge]
    cases small d <;> cases digit d <;> cases (d == 95) <;> cases (d == 46) <;> cases (d == 45) <;> rfl
  have ed : ∀ d : UInt8, (edge d || d == 46 || d == 95 || d == 45) = true → (edge d = true ↔ ([46, 95, 45] : List UInt8).contains d = false) := fun d h => by
    have q1 : d == 46 → edge d = false := fun h => by rw [beq_iff_eq] at h; subst h; decide
    have q2 : d == 95 → edge d = false := fun h => by rw [beq_iff_eq] at h; subst h; decide
    have q3 : d == 45 → edge d = false := fun h => by rw [beq_iff_eq] at h; subst h; decide
    simp only [List.contains_cons, List.contains_nil, Bool.or_false]
    cases h1 : (d == 46) <;> cases h2 : (d == 95) <;> cases h3 : (d == 45) <;> simp_all
  unfold pieceP pieceR ofL
  rw [e]
  cases ha : p.all (fun c => edge c || c == 46 || c == 95 || c == 45) with
  | false => simp
  | true =>
    rw [List.all_eq_true] at ha
    cases p with
    | nil => rfl
    | cons c r =>
      have hl : (c :: r).getLast? = some ((c :: r).getLast (by simp)) := List.getLast?_eq_some_getLast (by simp)
      have m1 := ed c (ha c (by simp))
      have m2 := ed _ (ha ((c :: r).getLast (by simp)) (List.getLast_mem _))
      rw [hl]
      rw [Bool.eq_iff_iff]
      simp only [List.isEmpty_cons, Bool.not_false, Bool.true_and, decide_eq_true_eq, trim_id, List.head?_cons, Option.any_some, Bool.and_eq_true, hl, Option.some.injEq, forall_eq']
      rw [← m1, ← m2]
theorem cut_two (k : UInt8) (r : List UInt8) (h : ∃ c ∈ r, c = k) : ∃ a b l, Gl.cutL k r = a :: b :: l := by
  obtain ⟨c, hc, rfl⟩ := h
  induction r with
  | nil => cases hc
  | cons d r ih =>
    rw [Gl.cutL]
    split
    · rw [Gl.cutL_ne c r]; exact ⟨_, _, _, rfl⟩
    · rename_i hd
      rcases List.mem_cons.1 hc with h | h
      · exact absurd h.symm hd
      · obtain ⟨a, b, l, e⟩ := ih h
        rw [e]
        exact ⟨_, b, l, rfl⟩
/-- a text with a colon. -/
theorem ref_cut (a r : List UInt8) (ha : ∀ c ∈ a, c ≠ 58) : refR (a ++ 58 :: r) = (decide ((a ++ 58 :: r).length ≤ 96) && decide (a ≠ scratch) && tagP r && (Gl.cutL 47 a).all pieceP) := by
  have e : (Gl.cutL 47 a).all pieceP = (Gl.cutL 47 a).all pieceR := by congr 1; funext p; exact piece_same p
  rw [e, tag_same]
  unfold refR
  rw [Gl.cutL_cut 58 a r ha]
  by_cases h : ∃ c ∈ r, c = 58
  · obtain ⟨x, y, l, hx⟩ := cut_two 58 r h
    have ht : tagR r = false := by
      obtain ⟨c, hc, rfl⟩ := h
      cases r with
      | nil => cases hc
      | cons d r =>
        rcases List.mem_cons.1 hc with h | h
        · rw [← h]; simp [tagR, small, big, digit]
        · have : r.all (fun c => small c || big c || digit c || c == 95 || c == 46 || c == 45) = false := by
            rw [List.all_eq_false]
            exact ⟨58, h, by decide⟩
          simp only [tagR, this, Bool.and_false]
    rw [hx, ht]
    simp
  · have hr : ∀ c ∈ r, c ≠ 58 := fun c hc e => h ⟨c, hc, e⟩
    rw [Gl.cutL_no 58 r hr]
    show (decide ((a ++ 58 :: r).length ≤ 96) && (tagR r && decide (a ≠ scratch) && (Gl.cutL 47 a).all pieceR)) = _
    rw [Bool.and_comm (tagR r), Bool.and_assoc, Bool.and_assoc, Bool.and_assoc]
/-- a text without one. -/
theorem ref_no (s : List UInt8) (hs : ∀ c ∈ s, c ≠ 58) : refR s = (decide (s.length + 7 ≤ 96) && decide (s ≠ scratch) && (Gl.cutL 47 s).all pieceP) := by
  have e : (Gl.cutL 47 s).all pieceP = (Gl.cutL 47 s).all pieceR := by congr 1; funext p; exact piece_same p
  rw [e]
  unfold refR
  rw [Gl.cutL_no 58 s hs]
  show (decide (s.length ≤ 96) && (decide (s ≠ scratch) && decide (s.length + 7 ≤ 96) && (Gl.cutL 47 s).all pieceR)) = _
  by_cases h : s.length + 7 ≤ 96
  · have h2 : s.length ≤ 96 := by omega
    simp [h, h2]
  · simp [h]
theorem tag_latest : tagP latest = true := by decide
end Ck
end Go.Proofs.YtnlkmljdcmfogaaGreatDoor
namespace Go.Proofs.YtnlkmljdcmfogaaGreatDoor
open Go Go.RowKit
namespace Ex
inductive Kd
  | plain
  | braces
  | quoted
  | document
/-- a byte that stands as it is; a variable with what stands in its braces (op 0, 45 or 43). -/
inductive Tk
  | b (c : UInt8)
  | v (n : List UInt8) (op : UInt8) (l : List Tk)
/-- an error's number, or what was read and what stands behind. -/
abbrev R := Nat ⊕ (List Tk × List UInt8)
def letter (c : UInt8) : Bool := Ck.small c || Ck.big c || c == 95
/-- how long the name is with which a text begins. -/
def nmL : List UInt8 → Nat
  | [] => 0
  | c :: r => if letter c then 1 + (r.takeWhile fun d => letter d || Ck.digit d).length else 0
theorem nm_le : ∀ s : List UInt8, nmL s ≤ s.length
  | [] => Nat.le_refl _
  | c :: r => by
    have := (List.takeWhile_sublist (l := r) fun d => letter d || Ck.digit d).length_le
    rw [nmL, List.length_cons]
    split <;> omega
/-- does the escape take this byte? -/
def escs (k : Kd) (e d : UInt8) : Bool := match k with
  | .quoted => d == 34 || d == 36 || d == e
  | .document => d == 36 || d == e
  | _ => true
def stops (k : Kd) (c : UInt8) : Bool := match k with
  | .quoted => c == 34
  | .braces => c == 125
  | _ => false
def quotes : Kd → Bool
  | .plain => true
  | .braces => true
  | _ => false
def endR : Kd → R
  | .quoted => .inl 18
  | .braces => .inl 4
  | _ => .inr ([], [])
def adds (t : List Tk) : R → R
  | .inl z => .inl z
  | .inr (l, r) => .inr (t ++ l, r)
/-- behind a dollar. -/
inductive Vs
  | bad
  | flat (t : List Tk) (r : List UInt8)
  | deep (n : List UInt8) (op : UInt8) (r : List UInt8)
def braceL (r : List UInt8) : Vs :=
  if nmL r = 0 then .bad else match r.drop (nmL r) with
  | 125 :: r' => .flat [.v (r.take (nmL r)) 0 []] r'
  | 58 :: 45 :: r' => .deep (r.take (nmL r)) 45 r'
  | 58 :: 43 :: r' => .deep (r.take (nmL r)) 43 r'
  | _ => .bad
def vstL (r : List UInt8) : Vs :=
  if 0 < nmL r then .flat [.v (r.take (nmL r)) 0 []] (r.drop (nmL r)) else match r with
  | 123 :: r' => braceL r'
  | _ => .flat [.b 36] r
/-- one byte read; `go` reads on. -/
def step (e : UInt8) (go : Kd → List UInt8 → R) (k : Kd) (c : UInt8) (r : List UInt8) : R :=
  if c = e then (match r with
    | [] => adds [.b c] (go k [])
    | d :: r' => if escs k e d then adds [.b d] (go k r') else adds [.b c] (go k (d :: r')))
  else if c = 36 then (match vstL r with
    | .bad => .inl 4
    | .flat t r' => adds t (go k r')
    | .deep n op r' => match go .braces r' with
      | .inl z => .inl z
      | .inr (l, r2) => adds [.v n op l] (go k r2))
  else if stops k c then .inr ([], r)
  else if quotes k && c == 39 then (if r.contains 39 then adds ((r.takeWhile (· != 39)).map .b) (go k ((r.dropWhile (· != 39)).drop 1)) else .inl 18)
  else if quotes k && c == 34 then (match go .quoted r with
    | .inl z => .inl z
    | .inr (l, r2) => adds l (go k r2))
  else adds [.b c] (go k r)
def rd (e : UInt8) : Nat → Kd → List UInt8 → R
  | 0, _, _ => .inl 0
  | _ + 1, k, [] => endR k
  | f + 1, k, c :: r => step e (rd e f) k c r
theorem brace_len {r : List UInt8} : (∀ t r', braceL r = .flat t r' → r'.length ≤ r.length) ∧ (∀ n op r', braceL r = .deep n op r' → r'.length ≤ r.length) := by
  have hd : (r.drop (nmL r)).length ≤ r.length := by rw [List.length_drop]; omega
  unfold braceL
  constructor
  · intro t r' h
    split at h
    · cases h
    · split at h <;> first | (cases h; done) | (rename_i q; injection h with h1 h2; subst h2; rw [q] at hd; simp only [List.length_cons] at hd; omega)
  · intro n op r' h
    split at h
    · cases h
    · split at h <;> first | (cases h; done) | (rename_i q; injection h with h1 h2 h3; subst h3; rw [q] at hd; simp only [List.length_cons] at hd; omega)
theorem vst_len {r : List UInt8} : (∀ t r', vstL r = .flat t r' → r'.length ≤ r.length) ∧ (∀ n op r', vstL r = .deep n op r' → r'.length ≤ r.length) := by
  unfold vstL
  constructor
  · intro t r' h
    split at h
    · injection h with _ h; subst h; rw [List.length_drop]; omega
    · split at h
      · have := brace_len.1 t r' h; simp only [List.length_cons]; omega
      · injection h with _ h; subst h; exact Nat.le_refl _
  · intro n op r' h
    split at h
    · cases h
    · split at h
      · have := brace_len.2 n op r' h; simp only [List.length_cons]; omega
      · cases h
theorem adds_inr {t : List Tk} {x : R} {l : List Tk} {r : List UInt8} (h : adds t x = .inr (l, r)) : ∃ l', x = .inr (l', r) ∧ l = t ++ l' := by
  cases x with
  | inl z => cases h
  | inr p =>
    obtain ⟨l', r'⟩ := p
    injection h with h
    injection h with h1 h2
    exact ⟨l', by rw [h2], h1.symm⟩
theorem drop39 (r : List UInt8) : ((r.dropWhile (· != 39)).drop 1).length ≤ r.length := by
  have := (List.dropWhile_sublist (l := r) (· != (39 : UInt8))).length_le
  rw [List.length_drop]; omega
/-- what stands behind is no longer. -/
theorem rd_len {e : UInt8} : ∀ (f : Nat) (k : Kd) (s : List UInt8) (l : List Tk) (r : List UInt8), rd e f k s = .inr (l, r) → r.length ≤ s.length
  | 0, _, _, _, _, h => by rw [rd] at h; cases h
  | f + 1, k, [], l, r, h => by
    have h : endR k = .inr (l, r) := h
    cases k <;> first | (cases h; done) | (injection h with h; injection h with _ h; subst h; exact Nat.le_refl _)
  | f + 1, k, c :: s, l, r, h => by
    have h : step e (rd e f) k c s = .inr (l, r) := h
    unfold step at h
    rw [List.length_cons]
    split at h
    · split at h
      · obtain ⟨l', h, _⟩ := adds_inr h
        have := rd_len f k _ l' r h
        simp only [List.length_nil] at this ⊢; omega
      · split at h
        · obtain ⟨l', h, _⟩ := adds_inr h
          have := rd_len f k _ l' r h
          simp only [List.length_cons] at this ⊢; omega
        · obtain ⟨l', h, _⟩ := adds_inr h
          have := rd_len f k _ l' r h
          simp only [List.length_cons] at this ⊢; omega
    · split at h
      · cases hv : vstL s with
        | bad => rw [hv] at h; cases h
        | flat t r' =>
          rw [hv] at h
          obtain ⟨l', h, _⟩ := adds_inr h
          have := rd_len f k _ l' r h
          have := vst_len.1 t r' hv
          omega
        | deep n op r' =>
          rw [hv] at h
          simp only at h
          cases hb : rd e f .braces r' with
          | inl z => rw [hb] at h; cases h
          | inr p =>
            obtain ⟨l2, r2⟩ := p
            rw [hb] at h
            obtain ⟨l', h, _⟩ := adds_inr h
            have := rd_len f k _ l' r h
            have := rd_len f _ _ l2 r2 hb
            have := vst_len.2 n op r' hv
            omega
      · split at h
        · injection h with h; injection h with _ h; subst h; omega
        · split at h
          · split at h
            · obtain ⟨l', h, _⟩ := adds_inr h
              have := rd_len f k _ l' r h
              have := drop39 s
              omega
            · cases h
          · split at h
            · cases hb : rd e f .quoted s with
              | inl z => rw [hb] at h; cases h
              | inr p =>
                obtain ⟨l2, r2⟩ := p
                rw [hb] at h
                obtain ⟨l', h, _⟩ := adds_inr h
                have := rd_len f k _ l' r h
                have := rd_len f _ _ l2 r2 hb
                omega
            · obtain ⟨l', h, _⟩ := adds_inr h
              have := rd_len f k _ l' r h
              omega
/-- fuel beyond the length changes nothing. -/
theorem rd_fuel {e : UInt8} : ∀ (f g : Nat) (k : Kd) (s : List UInt8), s.length < f → s.length < g → rd e f k s = rd e g k s
  | 0, _, _, _, h, _ => absurd h (by omega)
  | _, 0, _, _, _, h => absurd h (by omega)
  | f + 1, g + 1, k, [], _, _ => rfl
  | f + 1, g + 1, k, c :: s, hf, hg => by
    rw [List.length_cons] at hf hg
    have ih : ∀ (k : Kd) (t : List UInt8), t.length ≤ s.length → rd e f k t = rd e g k t := fun k t ht => rd_fuel f g k t (by omega) (by omega)
    show step e (rd e f) k c s = step e (rd e g) k c s
    unfold step
    split
    · split
      · rw [ih k [] (by simp)]
      · rename_i d r'
        rw [ih k r' (by simp), ih k (d :: r') (Nat.le_refl _)]
    · split
      · cases hv : vstL s with
        | bad => rfl
        | flat t r' => simp only; rw [ih k r' (vst_len.1 t r' hv)]
        | deep n op r' =>
          have hr := vst_len.2 n op r' hv
          simp only
          rw [ih .braces r' hr]
          cases hb : rd e g .braces r' with
          | inl z => rfl
          | inr p =>
            obtain ⟨l2, r2⟩ := p
            have := rd_len g _ _ l2 r2 hb
            simp only
            rw [ih k r2 (by omega)]
      · split
        · rfl
        · split
          · rw [ih k _ (drop39 s)]
          · split
            · rw [ih .quoted s (Nat.le_refl _)]
              cases hb : rd e g .quoted s with
              | inl z => rfl
              | inr p =>
                obtain ⟨l2, r2⟩ := p
                have := rd_len g _ _ l2 r2 hb
                simp only
                rw [ih k r2 (by omega)]
            · rw [ih k s (Nat.le_refl _)]
/-- what a text of a kind reads as. -/
def readL (e : UInt8) (k : Kd) (s : List UInt8) : R := rd e (s.length + 1) k s
theorem read_fuel {e : UInt8} {k : Kd} {s : List UInt8} {f : Nat} (h : s.length < f) : rd e f k s = readL e k s := rd_fuel _ _ _ _ h (by omega)
end Ex
end Go.Proofs.YtnlkmljdcmfogaaGreatDoor
namespace Go.Proofs.YtnlkmljdcmfogaaGreatDoor
open Go Go.RowKit
namespace Ck
theorem of_all (s others : List UInt8) (caps : Bool) : ofL s others caps = true ↔ (∀ c ∈ s, (small c || digit c || caps && big c || others.contains c) = true) ∧ s ≠ [] := by
  unfold ofL
  rw [Bool.and_eq_true, List.all_eq_true]
  cases s <;> simp
theorem has1 (a c : UInt8) : ([a] : List UInt8).contains c = (c == a) := by rw [List.contains_cons, List.contains_nil, Bool.or_false]
/-- a variable's name. -/
def varP (s : List UInt8) : Bool := ofL s [95] true && !s.head?.any digit
def varR (s : List UInt8) : Bool := !s.isEmpty && decide (Ex.nmL s = s.length)
theorem take_all (p : UInt8 → Bool) : ∀ r : List UInt8, (r.takeWhile p).length = r.length ↔ ∀ c ∈ r, p c = true
  | [] => by simp
  | c :: r => by
    rw [List.takeWhile_cons]
    cases h : p c with
    | true => simp [h, take_all p r]
    | false => simp [h]
theorem var_same (s : List UInt8) : varP s = varR s := by
  cases s with
  | nil => rfl
  | cons c r =>
    have e : ∀ d : UInt8, (small d || digit d || true && big d || ([95] : List UInt8).contains d) = (Ex.letter d || digit d) := fun d => by
      rw [has1]
      unfold Ex.letter
      cases small d <;> cases digit d <;> cases big d <;> cases (d == 95) <;> rfl
    have hx : Ex.letter c = true → digit c = false := fun h => by
      cases hd : digit c with
      | false => rfl
      | true =>
        simp only [digit, Bool.and_eq_true, decide_eq_true_eq] at hd
        simp only [Ex.letter, small, big, Bool.or_eq_true, Bool.and_eq_true, decide_eq_true_eq, beq_iff_eq] at h
        rcases h with (h | h) | h
        · omega
        · omega
        · subst h; simp at hd
    have e1 : varP (c :: r) = ((Ex.letter c || digit c) && r.all (fun d => Ex.letter d || digit d) && !digit c) := by
      unfold varP ofL
      rw [show (fun d : UInt8 => small d || digit d || true && big d || ([95] : List UInt8).contains d) = fun d => Ex.letter d || digit d from funext e]
      simp [List.all_cons]
    have e2 : varR (c :: r) = (Ex.letter c && r.all (fun d => Ex.letter d || digit d)) := by
      show (true && decide (Ex.nmL (c :: r) = r.length + 1)) = _
      rw [Bool.true_and, Bool.eq_iff_iff, decide_eq_true_eq, Bool.and_eq_true, List.all_eq_true]
      show (if Ex.letter c then 1 + (r.takeWhile fun d => Ex.letter d || digit d).length else 0) = r.length + 1 ↔ _
      rw [← take_all]
      cases Ex.letter c with
      | true => simp; omega
      | false => simp
    rw [e1, e2]
    cases hl : Ex.letter c with
    | true => rw [hx hl]; simp
    | false => cases digit c <;> simp
/-- a label's key. -/
def labelR (s : List UInt8) : Bool := s.all (fun c => small c || big c || digit c || c == 46 || c == 45 || c == 95 || c == 47) && !s.isEmpty
theorem label_same (s : List UInt8) : ofL s [46, 45, 95, 47] true = labelR s := by
  unfold ofL labelR
  congr 2
  funext d
  simp only [List.contains_cons, List.contains_nil, Bool.or_false, Bool.true_and]
  cases small d <;> cases digit d <;> cases big d <;> cases (d == 95) <;> cases (d == 46) <;> cases (d == 45) <;> cases (d == 47) <;> rfl
/-- a stage's name. -/
def stageP (s : List UInt8) : Bool := ofL s [45, 95, 46] false && s.head?.any small && decide (s.length ≤ 96) && decide (s ≠ scratch)
def stageR (s : List UInt8) : Bool := (match s with
  | [] => false
  | c :: r => small c && r.all (fun c => small c || digit c || c == 45 || c == 95 || c == 46)) && decide (s.length ≤ 96) && decide (s ≠ scratch)
theorem stage_same (s : List UInt8) : stageP s = stageR s := by
  cases s with
  | nil => rfl
  | cons c r =>
    have e : ∀ d : UInt8, (small d || digit d || false && big d || ([45, 95, 46] : List UInt8).contains d) = (small d || digit d || d == 45 || d == 95 || d == 46) := fun d => by
      simp only [List.contains_cons, List.contains_nil, Bool.or_false, Bool.false_and]
      cases small d <;> cases digit d <;> cases (d == 95) <;> cases (d == 46) <;> cases (d == 45) <;> rfl
    show (((c :: r).all _ && !(c :: r).isEmpty) && (c :: r).head?.any small && _ && _) = _
    unfold stageR
    simp only [e, List.all_cons, List.isEmpty_cons, List.head?_cons, Option.any_some, Bool.not_false, Bool.and_true]
    cases h : small c <;> simp
theorem trim_nil (p cs : List UInt8) : Lib.trimS p cs = [] ↔ ∀ c ∈ p, cs.contains c = true := by
  have hd : ∀ l : List UInt8, l.dropWhile (cs.contains ·) = [] ↔ ∀ c ∈ l, cs.contains c = true := fun l => by
    induction l with
    | nil => simp
    | cons c r ih =>
      rw [List.dropWhile_cons]
      cases h : cs.contains c with
      | true => simp only [if_true, ih, List.mem_cons, forall_eq_or_imp, h, true_and]
      | false =>
        constructor
        · intro e; cases e
        · intro hq; have := hq c (by simp); rw [h] at this; cases this
  constructor
  · intro h
    have h1 := (hd _).1 h
    by_cases hn : Lib.trimRightS p cs = []
    · unfold Lib.trimRightS at hn
      rw [List.reverse_eq_nil_iff, hd] at hn
      exact fun c hc => hn c (List.mem_reverse.2 hc)
    · exfalso
      obtain ⟨c, hc⟩ : ∃ c, (Lib.trimRightS p cs).getLast? = some c := ⟨_, List.getLast?_eq_some_getLast hn⟩
      have hm : c ∈ Lib.trimRightS p cs := List.mem_of_getLast? hc
      have h2 := h1 c hm
      unfold Lib.trimRightS at hc
      rw [List.getLast?_reverse] at hc
      have h3 := List.head?_dropWhile_not (p := (cs.contains ·)) p.reverse
      rw [hc] at h3
      simp only at h3
      rw [h2] at h3
      cases h3
  · intro h
    unfold Lib.trimS Lib.trimLeftS Lib.trimRightS
    have : p.reverse.dropWhile (cs.contains ·) = [] := (hd _).2 fun c hc => h c (List.mem_reverse.1 hc)
    rw [this]
    rfl
/-- digits alone. -/
def digitsR (s : List UInt8) : Bool := s.all digit && !s.isEmpty
theorem digits_in (c : UInt8) : ([48, 49, 50, 51, 52, 53, 54, 55, 56, 57] : List UInt8).contains c = digit c := by
  have hn : ∀ k : UInt8, (c == k) = true ↔ c.toNat = k.toNat := fun k => by rw [beq_iff_eq, UInt8.toNat_inj]
  rw [Bool.eq_iff_iff]
  simp only [List.contains_cons, List.contains_nil, Bool.or_false, Bool.or_eq_true, hn, digit, Bool.and_eq_true, decide_eq_true_eq]
  simp only [UInt8.reduceToNat]
  omega
theorem digits_same (s : List UInt8) : (decide (Lib.trimS s [48, 49, 50, 51, 52, 53, 54, 55, 56, 57] = []) && !s.isEmpty) = digitsR s := by
  unfold digitsR
  congr 1
  rw [Bool.eq_iff_iff, decide_eq_true_eq, trim_nil, List.all_eq_true]
  simp only [digits_in]
/-- a mode. -/
def oct (c : UInt8) : Bool := decide (48 ≤ c.toNat) && decide (c.toNat ≤ 55)
def modeR (s : List UInt8) : Bool := s.all oct && decide (1 ≤ s.length) && decide (s.length ≤ 4)
theorem oct_in (c : UInt8) : ([48, 49, 50, 51, 52, 53, 54, 55] : List UInt8).contains c = oct c := by
  have hn : ∀ k : UInt8, (c == k) = true ↔ c.toNat = k.toNat := fun k => by rw [beq_iff_eq, UInt8.toNat_inj]
  rw [Bool.eq_iff_iff]
  simp only [List.contains_cons, List.contains_nil, Bool.or_false, Bool.or_eq_true, hn, oct, Bool.and_eq_true, decide_eq_true_eq]
  simp only [UInt8.reduceToNat]
  omega
theorem mode_same (s : List UInt8) : (!s.isEmpty && decide (s.length ≤ 4) && decide (Lib.trimS s [48, 49, 50, 51, 52, 53, 54, 55] = [])) = modeR s := by
  unfold modeR
  rw [Bool.eq_iff_iff]
  simp only [Bool.and_eq_true, decide_eq_true_eq, trim_nil, oct_in, List.all_eq_true, Bool.not_eq_true', List.isEmpty_eq_false_iff]
  constructor
  · rintro ⟨⟨h1, h2⟩, h3⟩
    exact ⟨⟨h3, List.length_pos_iff.2 h1⟩, h2⟩
  · rintro ⟨⟨h1, h2⟩, h3⟩
    exact ⟨⟨List.length_pos_iff.1 h2, h3⟩, h1⟩
end Ck
end Go.Proofs.YtnlkmljdcmfogaaGreatDoor
