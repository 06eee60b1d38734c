/- The numbers that are told are the API's; bounds of files that the laws make; plain. -/
import Derived.Test.YtdaejggcjjdhkaaGreatDoorMkF
import Derived.Test.YtdaejggcjjdhkaaGreatDoorCkSf
import Derived.Test.YtdaejggcjjdhkaaGreatDoorMkB
import Derived.Test.YtdaejggcjjdhkaaGreatDoorMkI
namespace Go.Proofs.YtdaejggcjjdhkaaGreatDoor
open Go Go.RowKit
namespace Ck
theorem word_le (e : UInt8) (s : List UInt8) : wordL e s ≤ 32 := by
  unfold wordL
  cases h : Ex.readL e .plain s with
  | inl z => rcases Ex.readL_err h with rfl | rfl <;> decide
  | inr _ => exact Nat.zero_le _
theorem doc_le (e : UInt8) (s : List UInt8) : docL e s ≤ 32 := by
  unfold docL
  cases h : Ex.readL e .document s with
  | inl z => rcases Ex.readL_err h with rfl | rfl <;> decide
  | inr _ => exact Nat.zero_le _
theorem fields_le (s : St) : fieldsL s ≤ 32 := by
  unfold fieldsL
  (repeat' split) <;> decide
theorem numbers_le (s : St) : numbersL s ≤ 32 := by
  unfold numbersL
  dsimp only
  (repeat' split) <;> decide
theorem pairs_le (op : Int) (e : UInt8) : ∀ l : List Pr, pairsL op e l ≤ 32
  | [] => by rw [pairsL]; decide
  | p :: r => by
    have ih := pairs_le op e r
    have h := word_le e p.val
    rw [pairsL]
    (repeat' split) <;> first | omega | decide
theorem words_le (op : Int) (e : UInt8) : ∀ (l : List (List UInt8)) (ds : List Lx.Dc) (z : Nat), wordsL op e l ds = .inl z → z ≤ 32
  | [], ds, z, h => by rw [wordsL] at h; cases h
  | w :: r, ds, z, h => by
    unfold wordsL at h
    split at h
    · split at h
      · injection h with h; subst h; exact word_le e w
      · exact words_le op e r ds z h
    · split at h
      · injection h with h; subst h; decide
      · split at h
        · split at h
          · exact words_le op e r _ z h
          · injection h with h; subst h; decide
        · injection h with h; subst h; decide
theorem docs_le (e : UInt8) : ∀ l : List Lx.Dc, docsL e l ≤ 32
  | [] => by rw [docsL]; decide
  | d :: r => by
    have ih := docs_le e r
    have h := doc_le e d.text
    rw [docsL]
    split <;> omega
theorem body_le (s : St) (e : UInt8) : bodyL s e ≤ 32 := by
  unfold bodyL
  split
  · rename_i z h; exact words_le _ _ _ _ _ h
  · decide
  · exact docs_le e s.docs
theorem step_le (s : St) (e : UInt8) : stepL s e ≤ 32 := by
  have h1 := fields_le s
  have h2 := numbers_le s
  have h3 := pairs_le s.op e s.pairs
  have h4 := body_le s e
  unfold stepL
  (repeat' split) <;> omega
theorem steps_ok (e : UInt8) : ∀ l : List St, OkN (stepsL e l)
  | [], n, x, h => by cases h
  | s :: r, n, x, h => by
    have := step_le s e
    rw [stepsL] at h
    split at h
    · injection h with h; injection h with h _; omega
    · exact steps_ok e r n x h
theorem args_ok (e : UInt8) : ∀ l : List St, OkN (argsL e l)
  | [], n, x, h => by cases h
  | s :: r, n, x, h => by
    have := step_le s e
    rw [argsL] at h
    split at h
    · injection h with h; injection h with h _; omega
    · split at h
      · injection h with h; injection h with h _; omega
      · exact args_ok e r n x h
theorem stage_le (e : UInt8) (names : List (List UInt8)) (s : Sg) : stageL e names s ≤ 32 := by
  have := word_le e s.base
  unfold stageL
  (repeat' split) <;> omega
theorem stages_ok (e : UInt8) : ∀ (l : List Sg) (names : List (List UInt8)), OkN (stagesL e names l)
  | [], _, n, x, h => by cases h
  | s :: r, names, n, x, h => by
    have := stage_le e names s
    rw [stagesL] at h
    split at h
    · injection h with h; injection h with h _; omega
    · split at h
      · rename_i y hy
        injection h with h
        subst h
        exact steps_ok e _ n x hy
      · exact stages_ok e r _ n x h
/-- the numbers that are told of files are the API's. -/
theorem file_ok (f : Fl) : OkN (fileL f) := fun n x h => by
  unfold fileL at h
  split at h
  · injection h with h; injection h with h _; omega
  · split at h
    · injection h with h; injection h with h _; omega
    · split at h
      · injection h with h; injection h with h _; omega
      · split at h
        · rename_i y hy
          injection h with h
          subst h
          exact args_ok _ _ n x hy
        · exact stages_ok _ _ _ n x h
theorem small_one {s : St} (h : s.Small) (e : UInt8) : (one s e).Small := ⟨(fun _ h => by cases h), fun g hg => by
  rw [one, List.mem_singleton] at hg
  subst hg
  exact ⟨(by show scratch.length ≤ 1050000; decide), Nat.zero_le _, fun t ht => by rw [List.mem_singleton] at ht; subst ht; exact h⟩, by simp [one, countL]⟩
theorem small_more {e : UInt8} {us : List St} {a : List Sg} {l : Sg} {s : St} (h : Fl.Small ⟨e, us, a ++ [l]⟩) (hs : s.Small) (hn : (a ++ [l]).length + countL ⟨e, us, a ++ [l]⟩ ≤ 1049000) : Fl.Small ⟨e, us, a ++ [more l s]⟩ := by
  obtain ⟨h1, h2, h3⟩ := h
  refine ⟨h1, fun g hg => ?_, ?_⟩
  · rcases List.mem_append.1 hg with hg | hg
    · exact h2 g (List.mem_append.2 (.inl hg))
    · rw [List.mem_singleton] at hg
      subst hg
      obtain ⟨q1, q2, q3⟩ := h2 l (List.mem_append.2 (.inr (List.mem_singleton.2 rfl)))
      refine ⟨q1, q2, fun t ht => ?_⟩
      rcases List.mem_append.1 ht with ht | ht
      · exact q3 t ht
      · rw [List.mem_singleton] at ht; subst ht; exact hs
  · have e1 : (more l s).steps.length = l.steps.length + 1 := by simp [more]
    simp only [countL, List.map_append, List.sum_append, List.map_cons, List.map_nil, List.sum_cons, List.sum_nil, List.length_append, List.length_singleton, e1] at hn ⊢
    omega
theorem right_esc {f : Fl} (h : fileL f = none) : (f.escape = 92 ∨ f.escape = 96) ∧ f.stages ≠ [] := by
  refine ⟨?_, fun q => ?_⟩
  · rcases Decidable.em (f.escape = 92) with e1 | e1
    · exact .inl e1
    · rcases Decidable.em (f.escape = 96) with e2 | e2
      · exact .inr e2
      · rw [file_esc ⟨e1, e2⟩] at h; cases h
  · rcases Decidable.em (f.escape ≠ 92 ∧ f.escape ≠ 96) with e1 | e1
    · rw [file_esc e1] at h; cases h
    · rw [file_none e1 q] at h; cases h
end Ck
section
variable {e : UInt8} {va vg : Value} {args : List SM} {A : List GM} {L : GM} {s : Ck.St}
theorem alone_fl : FM.fl ⟨e, va, args, vg, A ++ [L]⟩ = ⟨e, args.map SM.s, A.map GM.sg ++ [GM.sg L]⟩ := by simp [FM.fl]
theorem alone_small (h : (FM.fl ⟨e, va, args, vg, A ++ [L]⟩).Small) (hs : s.Small) (hn : (A ++ [L]).length + Ck.countL (FM.fl ⟨e, va, args, vg, A ++ [L]⟩) ≤ 1049000) : Ck.Fl.Small ⟨e, args.map SM.s, A.map GM.sg ++ [Ck.more (GM.sg L) s]⟩ := by
  rw [alone_fl] at h hn
  exact Ck.small_more h hs (by simpa using hn)
theorem alone_is (h : Ck.fileL (FM.fl ⟨e, va, args, vg, A ++ [L]⟩) = none) : Ck.fileL ⟨e, args.map SM.s, A.map GM.sg ++ [Ck.more (GM.sg L) s]⟩ = if 512 ≤ Ck.countL (FM.fl ⟨e, va, args, vg, A ++ [L]⟩) then some (5, 0) else if Ck.stepL s e ≠ 0 then some (Ck.stepL s e, s.line) else none := by
  rw [alone_fl] at h ⊢
  exact Ck.alone (f := ⟨e, args.map SM.s, A.map GM.sg ++ [GM.sg L]⟩) (a := A.map GM.sg) (l := GM.sg L) s rfl h
theorem ms_le : L.ms.length ≤ Ck.countL (FM.fl ⟨e, va, args, vg, A ++ [L]⟩) := by
  rw [count_fl]
  dsimp only
  rw [List.map_append, List.sum_append]
  simp only [List.map_cons, List.map_nil, List.sum_cons, List.sum_nil]
  omega
end
end Go.Proofs.YtdaejggcjjdhkaaGreatDoor
