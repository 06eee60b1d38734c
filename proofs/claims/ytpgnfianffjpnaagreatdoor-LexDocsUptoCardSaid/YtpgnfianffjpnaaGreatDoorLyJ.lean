/- A line, and the same line in two, plain. -/
import Derived.Test.YtpgnfianffjpnaaGreatDoorLyA
import Derived.Test.YtpgnfianffjpnaaGreatDoorLrC
namespace Go.Proofs.YtpgnfianffjpnaaGreatDoor
open Go Go.RowKit
namespace Lx
/-- the texts of P14.5. -/
structure Single (s : Bs) : Prop where
  len : s.length ≤ 60000
  head : ∃ c r, s = c :: r ∧ blank c = false ∧ c ≠ 35
  no10 : ∀ c ∈ s, c ≠ 10
  no13 : ∀ c ∈ s, c ≠ 13
  noDoc : ∀ i : Nat, s[i]? = some 60 → s[i + 1]? ≠ some 60
  last : (rgt s).getLast? ≠ some 92
section
variable {s : Bs}
theorem Single.ne (h : Single s) : s ≠ [] := by
  obtain ⟨c, r, rfl, _⟩ := h.head
  simp
theorem onL_of {x : Bs} (h : (rgt x).getLast? ≠ some 92) : onL 92 x = false := by
  unfold onL
  rw [beq_eq_false_iff_ne]
  exact h
theorem nothing_in {c : UInt8} {r : Bs} (h : blank c = false) (h2 : c ≠ 35) : nothingL (c :: r) = false := by
  unfold nothingL
  rw [lft_in r h]
  simpa using h2
theorem headN_in {c : UInt8} {r : Bs} (h : blank c = false) : headN (c :: r) = 0 := by
  unfold headN
  rw [lft_in r h]; omega
theorem empty_in {c : UInt8} {r : Bs} (h : blank c = false) : empty (c :: r) = false := by
  unfold empty
  rw [lft_in r h]; rfl
theorem dirs_in {c : UInt8} {r : Bs} {l : List Bs} (h : blank c = false) (h2 : c ≠ 35) : dirsL ((c :: r) :: l) = .inr (0, 92) := by
  rw [dirsL, dir_no (lft_in r h) h2]
theorem addL_ne {a : Acc} {x : Bs} {n k : Nat} (h : x ≠ []) : addL a x n k = (a.1 ++ x, a.2 ++ [⟨(a.1.length : Int), (n : Int), (k : Int) + 1⟩]) := by rw [addL, if_neg h]
/-- no word of such a text opens a document. -/
theorem isDoc_no (hs : ∀ i : Nat, s[i]? = some 60 → s[i + 1]? ≠ some 60) {w : Wd} (hw : WdIn s w) : isDoc w.raw = false := by
  obtain ⟨k, h1, h2, h3⟩ := hw
  cases hd : isDoc w.raw with
  | false => rfl
  | true =>
    exfalso
    obtain ⟨t, ht⟩ := List.isPrefixOf_iff_prefix.1 hd
    have e0 : w.raw[0]? = some 60 := by rw [← ht]; rfl
    have e1 : w.raw[1]? = some 60 := by rw [← ht]; rfl
    rw [h3, sl, List.getElem?_take] at e0 e1
    split at e1
    · rw [if_pos (by omega), List.getElem?_drop] at e0
      rw [List.getElem?_drop] at e1
      exact hs _ (by simpa using e0) (by simpa using e1)
    · cases e1
theorem docsW_no {L : List Bs} {ln : Ln} : ∀ (ws : List Wd) (j : Nat) (acc : List Dc), (∀ w ∈ ws, isDoc w.raw = false) → docsW L ln ws j acc = .inr (acc, j)
  | [], j, acc, _ => by rw [docsW]
  | w :: ws, j, acc, h => by
    rw [docsW, if_neg (by rw [h w (by simp)]; simp)]
    exact docsW_no ws j acc fun x hx => h x (by simp [hx])
/-- the quote without an end that such a text has, if it copies. -/
def badQ (s : Bs) : Bool := copL s && (match wordsL s 92 with
  | .inl _ => true
  | .inr _ => false)
theorem docs_single (hs : ∀ i : Nat, s[i]? = some 60 → s[i + 1]? ≠ some 60) (L : List Bs) (ln : Ln) (hl : ln.text = s) (j : Nat) : (badQ s = true ∧ ∃ z, docsL 92 L ln j = .inl z) ∨ (badQ s = false ∧ docsL 92 L ln j = .inr ([], j)) := by
  unfold docsL badQ
  rw [hl]
  cases copL s with
  | false => exact .inr ⟨rfl, rfl⟩
  | true =>
    rw [if_pos rfl, Bool.true_and]
    have hw := words_in s 92
    cases hq : wordsL s 92 with
    | inl q => exact .inl ⟨rfl, _, rfl⟩
    | inr ws =>
      rw [hq] at hw
      exact .inr ⟨rfl, docsW_no _ _ _ fun w hx => isDoc_no hs (hw w (List.mem_of_mem_tail hx))⟩
/-- the end: one line, then nothing. -/
theorem main_one {L : List Bs} {ln : Ln} {z : Err ⊕ List Ln} {e : UInt8} {j : Nat} (hj : L.length ≤ j) (hz : z = mainL e L (L.drop j) 0 j [ln]) : z = .inr [ln] := by
  rw [hz, main_end hj]
theorem single_lines (h : Single s) : (V s 0 = false ∨ badQ s = true) ∧ (∃ z, linesL s = .inl z) ∨ (V s 0 = true ∧ badQ s = false) ∧ ∃ ms, linesL s = .inr (92, [⟨1, s, ms, []⟩]) := by
  have hlen := h.len
  cases hw : wrongL s 0 0 1 0 with
  | some p =>
    obtain ⟨l, a⟩ := p
    refine .inl ⟨.inl ?_, _, lines_text (by omega) hw⟩
    cases hv : V s 0 with
    | false => rfl
    | true => rw [(wrong_V s 0 0 1 0).2 hv] at hw; cases hw
  | none =>
    have hV := (wrong_V s 0 0 1 0).1 hw
    obtain ⟨c, r, hs, hc, hc2⟩ := h.head
    have hf : fileL s = [s] := by
      rw [fileL_one s h.no10 h.ne, cr_id fun c hc => h.no13 c (List.mem_of_mem_getLast? hc)]
    have hd : dirsL (fileL s) = .inr (0, 92) := by rw [hf, hs]; exact dirs_in hc hc2
    have hm := lines_main (by omega) hw (by rw [hf]; simp) hd
    rw [hf] at hm
    have hn : nothingL s = false := by rw [hs]; exact nothing_in hc hc2
    have hh : headN s = 0 := by rw [hs]; exact headN_in hc
    have hj : joinL 92 s [] 0 = ((s, [⟨0, 1, 1⟩]), 1) := by
      rw [joinL, hh, List.drop_zero, onL_of h.last, if_neg (by simp), moreL, List.drop_zero, onL_of h.last, if_neg (by simp), addL_ne h.ne]
      rfl
    have he : empty s = false := by rw [hs]; exact empty_in hc
    rcases docs_single h.noDoc [s] ⟨((0 : Nat) : Int) + 1, s, [⟨0, 1, 1⟩], []⟩ rfl 1 with ⟨hb, z, hz⟩ | ⟨hb, hz⟩
    · refine .inl ⟨.inr hb, z, ?_⟩
      have := main_err (L := [s]) (i := 0) (acc := []) (by simp) hn hj he hz
      rw [hm, List.drop_zero]
      rw [List.drop_zero] at this
      rw [this]
    · refine .inr ⟨⟨hV, hb⟩, [⟨0, 1, 1⟩], ?_⟩
      have := main_line (L := [s]) (i := 0) (acc := []) (by simp) hn hj he hz
      rw [List.drop_zero, main_end (by simp)] at this
      rw [hm, List.drop_zero, this]
      rfl
theorem rgt_tail (x : Bs) {y : Bs} (h : ∃ c ∈ y, blank c = false) : rgt (x ++ y) = x ++ rgt y := by
  obtain ⟨b, hb, hbb⟩ := rgt_split y
  rcases List.eq_nil_or_concat (rgt y) with hn | ⟨z, c, hz⟩
  · exfalso
    obtain ⟨c, hc, hc2⟩ := h
    rw [hn, List.nil_append] at hb
    rw [hb] at hc
    have := hbb c hc
    rw [isB_blank, hc2] at this
    cases this
  · rw [List.concat_eq_append] at hz
    have hcl : isB c = false := Gl.rgt_last y c (by show (rgt y).getLast? = _; rw [hz]; simp)
    conv => lhs; rw [hb]
    rw [← List.append_assoc, rgt_app _ hbb, hz, ← List.append_assoc, rgt_snoc _ hcl]
theorem joined_lines (h : Single s) {ms : List Mk} (h1 : linesL s = .inr (92, [⟨1, s, ms, []⟩])) {k : Nat} (hk : k < s.length) {c : UInt8} (hc : s[k]? = some c) (hb : blank c = false) (hc2 : c ≠ 35) (hg : begins c = true) :
    ∃ ms2, linesL (s.take k ++ ([92, 10] ++ s.drop k)) = .inr (92, [⟨1, s, ms2, []⟩]) := by
  have hlen := h.len
  have hy : s.drop k = c :: s.drop (k + 1) := by
    rw [List.drop_eq_getElem_cons hk]
    rw [List.getElem?_eq_getElem hk] at hc
    injection hc with hc
    rw [hc]
  have hVb : V s 0 = true ∧ badQ s = false := by
    rcases single_lines h with ⟨_, z, hz⟩ | ⟨hv, _⟩
    · rw [h1] at hz; cases hz
    · exact hv
  have hparts : V (s.take k) 0 = true ∧ V (s.drop k) 0 = true := by
    refine V_part (by rw [List.take_append_drop]; exact hVb.1) fun d hd => ?_
    rw [hy] at hd
    injection hd with hd
    rw [← hd]; exact hg
  have hVT : V (s.take k ++ ([92, 10] ++ s.drop k)) 0 = true := V_join hparts.1 (V_join (V_ascii [92, 10] (by decide)) hparts.2)
  have hT : s.take k ++ ([92, 10] ++ s.drop k) = (s.take k ++ [92]) ++ 10 :: s.drop k := by simp
  have hno : ∀ d ∈ s.take k ++ [92], d ≠ 10 := fun d hd => by
    rcases List.mem_append.1 hd with hd | hd
    · exact h.no10 d (List.mem_of_mem_take hd)
    · rw [List.mem_singleton] at hd; subst hd; decide
  have hno2 : ∀ d ∈ s.drop k, d ≠ 10 := fun d hd => h.no10 d (List.mem_of_mem_drop hd)
  have hne2 : s.drop k ≠ [] := by rw [hy]; simp
  have hf : fileL (s.take k ++ ([92, 10] ++ s.drop k)) = [s.take k ++ [92], s.drop k] := by
    rw [hT, fileL_cut _ _ hno, fileL_one _ hno2 hne2, cr_no _ (by decide), cr_id fun d hd => h.no13 d (List.mem_of_mem_drop (List.mem_of_mem_getLast? hd))]
  have hlenT : (s.take k ++ ([92, 10] ++ s.drop k)).length = s.length + 2 := by
    simp; omega
  obtain ⟨X, hX⟩ : ∃ X, s.take k ++ [92] = X := ⟨_, rfl⟩
  obtain ⟨Y, hY⟩ : ∃ Y, s.drop k = Y := ⟨_, rfl⟩
  have hXin : ∃ d r, X = d :: r ∧ blank d = false ∧ d ≠ 35 := by
    rw [← hX]
    cases k with
    | zero => exact ⟨92, [], by simp, by decide, by decide⟩
    | succ k =>
      obtain ⟨d, r, hs, h5, h6⟩ := h.head
      exact ⟨d, r.take k ++ [92], by rw [hs]; simp, h5, h6⟩
  obtain ⟨d, r, hXe, hd1, hd2⟩ := hXin
  have hd : dirsL (fileL (s.take k ++ ([92, 10] ++ s.drop k))) = .inr (0, 92) := by rw [hf, hX, hXe]; exact dirs_in hd1 hd2
  have hm := lines_main (by rw [hlenT]; omega) ((wrong_V _ 0 0 1 0).2 hVT) (by rw [hf]; simp) hd
  rw [hf, hX, hY] at hm
  have hon : onL 92 X = true := by
    unfold onL
    rw [← hX, rgt_snoc _ (by decide)]
    simp
  have honY : onL 92 Y = false := by
    refine onL_of ?_
    have h7 := h.last
    have h8 : rgt s = s.take k ++ rgt Y := by
      have := rgt_tail (s.take k) (y := Y) ⟨c, by rw [← hY, hy]; simp, hb⟩
      rw [← hY, List.take_append_drop] at this
      rw [this, hY]
    have h9 : rgt Y ≠ [] := by
      intro e
      have hh : Gl.lft Y = c :: s.drop (k + 1) := by rw [← hY, hy, lft_in _ hb]
      have := (lft_head hh).rgt
      rw [e] at this
      simp at this
    rw [h8] at h7
    intro e
    rw [List.getLast?_append, e] at h7
    exact h7 rfl
  have hnX : nothingL X = false := by rw [hXe]; exact nothing_in hd1 hd2
  have hnY : nothingL Y = false := by rw [← hY, hy]; exact nothing_in hb hc2
  have hhX : headN X = 0 := by rw [hXe]; exact headN_in hd1
  have hYne : Y ≠ [] := by rw [← hY]; exact hne2
  have hrX : (rgt X).dropLast = s.take k := by rw [← hX, rgt_snoc _ (by decide)]; simp
  obtain ⟨a, ha⟩ : ∃ a, moreL 92 ([], []) X 1 0 = a := ⟨_, rfl⟩
  have ha1 : a.1 = s.take k := by
    rw [← ha, moreL, List.drop_zero, hon, if_pos rfl, hrX, addL]
    split
    · rename_i e; rw [e]
    · simp
  have hj : joinL 92 X [Y] 0 = ((s, (addL a Y 2 0).2), 2) := by
    rw [joinL, hhX, List.drop_zero, hon, if_pos rfl, goJ, hnY, if_neg (by simp), honY, if_neg (by simp), ha, moreL, List.drop_zero, honY, if_neg (by simp), addL_ne hYne, ha1, ← hY, List.take_append_drop]
  obtain ⟨c0, r0, hs0, hc0, _⟩ := h.head
  have he : empty s = false := by rw [hs0]; exact empty_in hc0
  rcases docs_single h.noDoc [X, Y] ⟨((0 : Nat) : Int) + 1, s, (addL a Y 2 0).2, []⟩ rfl 2 with ⟨hq, _⟩ | ⟨_, hz⟩
  · rw [hVb.2] at hq; cases hq
  · have := main_line (L := [X, Y]) (i := 0) (acc := []) (by simp) hnX hj he hz
    rw [List.drop_zero, main_end (by simp)] at this
    refine ⟨(addL a Y 2 0).2, ?_⟩
    rw [hY, hm, List.drop_zero, this]
    rfl
end
end Lx
end Go.Proofs.YtpgnfianffjpnaaGreatDoor
