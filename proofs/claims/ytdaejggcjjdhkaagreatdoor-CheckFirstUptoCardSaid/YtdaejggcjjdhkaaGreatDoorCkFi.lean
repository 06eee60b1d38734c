/- A file numbered anew, plain: what CheckFirst's walk uses. -/
import Derived.Test.YtdaejggcjjdhkaaGreatDoorMkB
import Derived.Test.YtdaejggcjjdhkaaGreatDoorCkSf
import Derived.Test.YtdaejggcjjdhkaaGreatDoorMkI
namespace Go.Proofs.YtdaejggcjjdhkaaGreatDoor
open Go Go.RowKit
namespace Ck
theorem numA_snoc : ∀ (l : List St) (n : Int) (s : St), numA n (l ++ [s]) = numA n l ++ [{ s with line := n + l.length + 1 }]
  | [], n, s => by simp [numA]
  | x :: r, n, s => by
    rw [List.cons_append, numA, numA_snoc r (n + 1) s, numA, List.cons_append]
    simp only [List.length_cons]
    rw [show n + 1 + (r.length : Int) + 1 = n + ((r.length + 1 : Nat) : Int) + 1 by omega]
/-- how many lines stages take. -/
def tot (l : List Sg) : Nat := (l.map fun g => g.steps.length + 1).sum
theorem tot_snoc (l : List Sg) (g : Sg) : tot (l ++ [g]) = tot l + (g.steps.length + 1) := by simp [tot]
theorem tot_cons (l : List Sg) (g : Sg) : tot (g :: l) = g.steps.length + 1 + tot l := by simp [tot]
theorem numG_snoc : ∀ (l : List Sg) (n : Int) (g : Sg), numG n (l ++ [g]) = numG n l ++ [⟨n + tot l + 1, g.base, g.name, numA (n + tot l + 1) g.steps⟩]
  | [], n, g => by simp [numG, tot]
  | x :: r, n, g => by
    have h : n + 1 + (x.steps.length : Int) + (tot r : Int) = n + (tot (x :: r) : Int) := by rw [tot_cons]; omega
    rw [List.cons_append, numG, numG_snoc r _ g, numG, List.cons_append, h]
theorem tot_eq (f : Fl) : tot f.stages + f.args.length = f.stages.length + countL f := by
  unfold tot countL
  have : ∀ l : List Sg, (l.map fun g => g.steps.length + 1).sum = l.length + (l.map (·.steps.length)).sum := fun l => by
    induction l with
    | nil => rfl
    | cons x r ih => simp only [List.map_cons, List.sum_cons, List.length_cons]; omega
  rw [this]
  omega
theorem numA_mem : ∀ {l : List St} {n : Int} {t : St}, t ∈ numA n l → (∃ s ∈ l, t = { s with line := t.line }) ∧ n < t.line ∧ t.line ≤ n + l.length
  | [], _, _, h => by cases h
  | x :: r, n, t, h => by
    rw [numA] at h
    rcases List.mem_cons.1 h with rfl | h
    · exact ⟨⟨x, by simp, rfl⟩, by show n < n + 1; omega, by show n + 1 ≤ _; rw [List.length_cons]; omega⟩
    · obtain ⟨⟨s, hs, e⟩, h1, h2⟩ := numA_mem h
      exact ⟨⟨s, by simp [hs], e⟩, by omega, by rw [List.length_cons]; omega⟩
theorem numG_mem : ∀ {l : List Sg} {n : Int} {t : Sg}, t ∈ numG n l → (∃ s ∈ l, t.base = s.base ∧ t.name = s.name ∧ ∃ m, t.steps = numA m s.steps) ∧ (n < t.line ∧ t.line ≤ n + tot l) ∧ ∀ x ∈ t.steps, n < x.line ∧ x.line ≤ n + tot l
  | [], _, _, h => by cases h
  | x :: r, n, t, h => by
    rw [numG] at h
    rcases List.mem_cons.1 h with rfl | h
    · refine ⟨⟨x, by simp, rfl, rfl, _, rfl⟩, ⟨by show n < n + 1; omega, by show n + 1 ≤ _; rw [tot_cons]; omega⟩, fun y hy => ?_⟩
      obtain ⟨_, h1, h2⟩ := numA_mem (show y ∈ numA (n + 1) x.steps from hy)
      rw [tot_cons]
      omega
    · obtain ⟨⟨s, hs, e⟩, h1, h2⟩ := numG_mem h
      rw [tot_cons]
      exact ⟨⟨s, by simp [hs], e⟩, by omega, fun y hy => by have := h2 y hy; omega⟩
theorem num_count (f : Fl) : countL (numbered f) = countL f := by
  show (numA 0 f.args).length + ((numG f.args.length f.stages).map (·.steps.length)).sum = _
  rw [numA_len, numG_sum]
  rfl
theorem small_line {s : St} (h : s.Small) (n : Int) : St.Small { s with line := n } := h
theorem small_numbered {f : Fl} (h : f.Small) : (numbered f).Small := by
  obtain ⟨h1, h2, h3⟩ := h
  refine ⟨fun t ht => ?_, fun g hg => ?_, ?_⟩
  · obtain ⟨⟨s, hs, e⟩, _⟩ := numA_mem ht
    rw [e]
    exact small_line (h1 s hs) _
  · obtain ⟨⟨s, hs, e1, e2, m, e3⟩, _⟩ := numG_mem hg
    obtain ⟨q1, q2, q3⟩ := h2 s hs
    refine ⟨by rw [e1]; exact q1, by rw [e2]; exact q2, fun t ht => ?_⟩
    rw [e3] at ht
    obtain ⟨⟨x, hx, e⟩, _⟩ := numA_mem ht
    rw [e]
    exact small_line (q3 x hx) _
  · rw [num_count]
    show (numG f.args.length f.stages).length + countL f ≤ 1050000
    rw [numG_len]
    exact h3
theorem small_upTo {f : Fl} (b : Int) (h : f.Small) (h0 : 1 ≤ f.stages.length) : (upTo b f).Small := by
  obtain ⟨h1, h2, h3⟩ := h
  have ha : (upSt b f.args).length ≤ f.args.length := (List.filter_sublist).length_le
  have hl : (upG b f.stages).length ≤ f.stages.length := by
    unfold upG; rw [List.length_map]; exact (List.filter_sublist).length_le
  have hs := up_sum b f.stages
  unfold countL at h3
  refine ⟨fun t ht => h1 t (List.mem_filter.1 ht).1, fun g hg => ?_, ?_⟩
  · unfold upTo at hg
    dsimp only at hg
    split at hg
    · rw [List.mem_singleton] at hg
      subst hg
      exact ⟨(by show scratch.length ≤ 1050000; decide), Nat.zero_le _, fun t ht => by cases ht⟩
    · unfold upG at hg
      obtain ⟨s, hs, rfl⟩ := List.mem_map.1 hg
      obtain ⟨q1, q2, q3⟩ := h2 s (List.mem_filter.1 hs).1
      exact ⟨q1, q2, fun t ht => q3 t (List.mem_filter.1 ht).1⟩
  · unfold upTo countL
    dsimp only
    split
    · simp only [List.length_cons, List.length_nil, List.map_cons, List.map_nil, List.sum_cons, List.sum_nil]
      omega
    · omega
/-- the line of what is wrong is one of the file's. -/
theorem num_line {f : Fl} (he : f.escape = 92 ∨ f.escape = 96) (h1 : f.stages ≠ []) (h2 : f.stages.length ≤ 32) (h3 : countL f ≤ 512) {k : Nat} {l : Int} (h : fileL (numbered f) = some (k, l)) : 1 ≤ l ∧ l ≤ ((f.args.length + tot f.stages : Nat) : Int) := by
  have he' : ¬ ((numbered f).escape ≠ 92 ∧ (numbered f).escape ≠ 96) := by rcases he with h | h <;> simp [numbered, h]
  have hst : (numbered f).stages ≠ [] := fun q => h1 (by
    have := numG_len f.stages f.args.length
    rw [show numG f.args.length f.stages = [] from q] at this
    exact List.eq_nil_of_length_eq_zero this.symm)
  rw [file_go he' hst (by
    rw [num_count]
    show ¬ (32 < (numG f.args.length f.stages).length ∨ 512 < countL f)
    rw [numG_len]; omega)] at h
  unfold restA at h
  split at h
  · rename_i y hy
    injection h with h
    subst h
    obtain ⟨s, hs, e⟩ := args_line hy
    obtain ⟨_, q1, q2⟩ := numA_mem (show s ∈ numA 0 f.args from hs)
    have e' : l = s.line := e
    omega
  · obtain ⟨s, hs, e⟩ := stages_line h
    obtain ⟨_, ⟨q1, q2⟩, q3⟩ := numG_mem (show s ∈ numG f.args.length f.stages from hs)
    rcases e with e | ⟨t, ht, e⟩
    · have e' : l = s.line := e
      omega
    · have e' : l = t.line := e
      have := q3 t ht
      omega
end Ck
theorem tot_take (l : List GM) (i : Nat) : Ck.tot ((l.take i).map GM.sg) ≤ Ck.tot (l.map GM.sg) := by
  have h : Ck.tot (l.map GM.sg) = Ck.tot ((l.take i).map GM.sg) + Ck.tot ((l.drop i).map GM.sg) := by
    unfold Ck.tot
    rw [← List.sum_append, ← List.map_append, ← List.map_append, List.take_append_drop]
  omega
end Go.Proofs.YtdaejggcjjdhkaaGreatDoor
