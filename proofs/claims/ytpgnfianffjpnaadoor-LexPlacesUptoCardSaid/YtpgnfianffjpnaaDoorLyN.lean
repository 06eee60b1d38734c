/- Bounds on the lines that linesL says, plain. -/
import Derived.Test.YtpgnfianffjpnaaDoorLyP
namespace Go.Proofs.YtpgnfianffjpnaaDoor
open Go Go.RowKit
namespace Lx
/-- what holds of each line that is made holds of all. -/
theorem main_all {e : UInt8} {L : List Bs} {P : Ln → Prop} (hP : ∀ (i : Nat) (hi : i < L.length) (t : Acc) (j : Nat) (ds : List Dc) (m : Nat), joinL e L[i] (L.drop (i + 1)) i = (t, j) → docsL e L ⟨(i : Int) + 1, t.1, t.2, []⟩ j = .inr (ds, m) → P ⟨(i : Int) + 1, t.1, t.2, ds⟩) :
    ∀ (m i : Nat) (acc ls : List Ln), L.length - i ≤ m → mainL e L (L.drop i) 0 i acc = .inr ls → (∀ l ∈ acc, P l) → ∀ l ∈ ls, P l := by
  intro m
  induction m with
  | zero =>
    intro i acc ls hm h ha
    rw [main_end (by omega)] at h
    injection h with h
    subst h
    exact ha
  | succ m ih =>
    intro i acc ls hm h ha
    rcases Nat.lt_or_ge i L.length with hi | hi
    · cases hn : nothingL L[i] with
      | true =>
        rw [main_nothing hi hn] at h
        exact ih (i + 1) acc ls (by omega) h ha
      | false =>
        obtain ⟨t, ht⟩ : ∃ t, joinL e L[i] (L.drop (i + 1)) i = t := ⟨_, rfl⟩
        obtain ⟨a, j⟩ := t
        have hle := (joinL_le (e := e) L[i] (L.drop (i + 1)) i).1
        rw [ht] at hle
        simp only at hle
        cases he : empty a.1 with
        | true =>
          rw [main_empty hi hn ht he] at h
          exact ih j acc ls (by omega) h ha
        | false =>
          cases hdd : docsL e L ⟨(i : Int) + 1, a.1, a.2, []⟩ j with
          | inl z => rw [main_err hi hn ht he hdd] at h; cases h
          | inr dm =>
            obtain ⟨ds, m2⟩ := dm
            have hm2 := (docsL_le hdd).1
            rw [main_line hi hn ht he hdd] at h
            refine ih m2 _ ls (by omega) h fun l hl => ?_
            rcases List.mem_append.1 hl with hl | hl
            · exact ha l hl
            · rw [List.mem_singleton] at hl
              subst hl
              exact hP i hi a j ds m2 ht hdd
    · rw [main_end hi] at h
      injection h with h
      subst h
      exact ha
theorem goJ_marks {e : UInt8} : ∀ (r : List Bs) (i : Nat) (a : Acc), (goJ e r i a).1.2.length ≤ a.2.length + r.length
  | [], i, a => by rw [goJ]; simp
  | x :: r, i, a => by
    rw [goJ, List.length_cons]
    have hm := (more_len e a x (i + 1) 0).2
    split
    · have := goJ_marks (e := e) r (i + 1) a; omega
    · split
      · have := goJ_marks (e := e) r (i + 1) (moreL e a x (i + 1) 0); omega
      · simp only; omega
theorem joinL_marks {e : UInt8} (x : Bs) (r : List Bs) (i : Nat) : (joinL e x r i).1.2.length ≤ 1 + r.length := by
  have hm := (more_len e ([], []) x (i + 1) (headN x)).2
  simp only [List.length_nil, Nat.zero_add] at hm
  rw [joinL]
  split
  · have := goJ_marks (e := e) r (i + 1) (moreL e ([], []) x (i + 1) (headN x)); omega
  · simp only; omega
def LnB (l : Ln) : Prop := 1 ≤ l.line ∧ l.line ≤ 1000000 ∧ l.text.length ≤ 1000000 ∧ l.marks.length ≤ 1000000
theorem lines_len {s : Bs} {e : UInt8} {ls : List Ln} (h : linesL s = .inr (e, ls)) : ∀ l ∈ ls, LnB l := by
  rcases Nat.lt_or_ge 65536 s.length with h1 | h1
  · rw [lines_many h1] at h; cases h
  · cases hw : wrongL s 0 0 1 0 with
    | some p => rw [lines_text (by omega) hw] at h; cases h
    | none =>
      rcases Nat.lt_or_ge 4096 (fileL s).length with hc | hc
      · rw [lines_count (by omega) hw hc] at h; cases h
      · cases hd : dirsL (fileL s) with
        | inl z => rw [lines_dirs (by omega) hw (by omega) hd] at h; cases h
        | inr ne =>
          obtain ⟨n, e2⟩ := ne
          rw [lines_main (by omega) hw (by omega) hd] at h
          cases hm : mainL e2 (fileL s) ((fileL s).drop n) 0 n [] with
          | inl z => rw [hm] at h; cases h
          | inr ls2 =>
            rw [hm] at h
            injection h with h
            injection h with _ h
            subst h
            refine main_all (fun i hi t j ds m ht _ => ?_) _ n [] ls2 (Nat.le_refl _) hm fun l hl => by cases hl
            have q1 := joinL_len (e := e2) (fileL s)[i] ((fileL s).drop (i + 1)) i
            have q2 := joinL_marks (e := e2) (fileL s)[i] ((fileL s).drop (i + 1)) i
            have q3 := tot_file s
            have q4 := tot_drop (fileL s) i
            rw [List.drop_eq_getElem_cons hi, tot_cons] at q4
            rw [ht] at q1 q2
            rw [List.length_drop] at q2
            simp only at q1 q2
            exact ⟨by show (1 : Int) ≤ (i : Int) + 1; omega, by show (i : Int) + 1 ≤ _; omega, by show t.1.length ≤ _; omega, by show t.2.length ≤ _; omega⟩
end Lx
end Go.Proofs.YtpgnfianffjpnaaDoor
