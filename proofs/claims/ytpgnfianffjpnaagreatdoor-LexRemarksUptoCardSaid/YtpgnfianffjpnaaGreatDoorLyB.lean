/- Bounds on what linesL says, plain. -/
import Derived.Test.YtpgnfianffjpnaaGreatDoorLyF
namespace Go.Proofs.YtpgnfianffjpnaaGreatDoor
open Go Go.RowKit
namespace Lx
theorem bareLen (tabs : Bool) (x : Bs) : (bare tabs x).length ≤ x.length := by
  unfold bare
  split
  · exact trimL_le x [9]
  · exact Nat.le_refl _
theorem body_len (name : Bs) (tabs : Bool) : ∀ (r : List Bs) (acc : Bs) (k : Nat) (t : Bs) (m : Nat), bodyL name tabs r acc k = some (t, m) → t.length ≤ acc.length + tot r + r.length
  | [], acc, k, t, m, h => by rw [bodyL] at h; cases h
  | x :: r, acc, k, t, m, h => by
    rw [tot_cons, List.length_cons]
    rw [bodyL] at h
    split at h
    · injection h with h
      injection h with h _
      rw [← h]; omega
    · have := body_len name tabs r _ _ t m h
      have hb := bareLen tabs x
      rw [List.length_append, List.length_append, List.length_singleton] at this
      omega
def DcB (L : List Bs) (d : Dc) : Prop := 1 ≤ d.line ∧ d.line ≤ (L.length : Int) + 1 ∧ d.text.length ≤ tot L + L.length
theorem docsW_b {L : List Bs} {ln : Ln} : ∀ (ws : List Wd) (j : Nat) (acc ds : List Dc) (m : Nat), docsW L ln ws j acc = .inr (ds, m) → (∀ d ∈ acc, DcB L d) → j ≤ L.length → acc.length ≤ j → (∀ d ∈ ds, DcB L d) ∧ ds.length ≤ m
  | [], j, acc, ds, m, h, ha, _, hl => by
    rw [docsW] at h
    injection h with h
    injection h with h1 h2
    subst h1 h2
    exact ⟨ha, hl⟩
  | w :: ws, j, acc, ds, m, h, ha, hj, hl => by
    rw [docsW] at h
    split at h
    · split at h
      · cases hb : bodyL (openName w.raw) (openTabs w.raw) (L.drop j) [] j with
        | none => rw [hb] at h; cases h
        | some tk =>
          obtain ⟨t, k⟩ := tk
          rw [hb] at h
          have h1 := bodyL_le _ _ _ _ _ hb
          have h2 := body_len _ _ _ _ _ _ _ hb
          have h3 := tot_drop L j
          rw [List.length_drop] at h1 h2
          rw [List.length_nil] at h2
          refine docsW_b ws k _ ds m h (fun d hd => ?_) (by omega) (by rw [List.length_append, List.length_singleton]; omega)
          rcases List.mem_append.1 hd with hd | hd
          · exact ha d hd
          · rw [List.mem_singleton] at hd
            subst hd
            exact ⟨by show (1 : Int) ≤ (j : Int) + 1; omega, by show (j : Int) + 1 ≤ _; omega, by show t.length ≤ _; omega⟩
      · cases h
    · exact docsW_b ws j acc ds m h ha hj hl
theorem docsL_b {e : UInt8} {L : List Bs} {ln : Ln} {j m : Nat} {ds : List Dc} (h : docsL e L ln j = .inr (ds, m)) (hj : j ≤ L.length) : (∀ d ∈ ds, DcB L d) ∧ ds.length ≤ m := by
  rw [docsL] at h
  split at h
  · split at h
    · cases h
    · exact docsW_b _ _ _ _ _ h (fun d hd => by cases hd) hj (by simp)
  · injection h with h
    injection h with h1 h2
    subst h1 h2
    exact ⟨fun d hd => (by cases hd), by simp⟩
theorem main_b {e : UInt8} {L : List Bs} : ∀ (m i : Nat) (acc ls : List Ln), L.length - i ≤ m → i ≤ L.length → mainL e L (L.drop i) 0 i acc = .inr ls → acc.length ≤ i → (∀ l ∈ acc, (∀ d ∈ l.docs, DcB L d) ∧ l.docs.length ≤ L.length) → ls.length ≤ L.length ∧ ∀ l ∈ ls, (∀ d ∈ l.docs, DcB L d) ∧ l.docs.length ≤ L.length := by
  intro m
  induction m with
  | zero =>
    intro i acc ls hm hi h hl ha
    rw [main_end (by omega)] at h
    injection h with h
    subst h
    exact ⟨by omega, ha⟩
  | succ m ih =>
    intro i acc ls hm hiL h hl ha
    rcases Nat.lt_or_ge i L.length with hi | hi
    · cases hn : nothingL L[i] with
      | true =>
        rw [main_nothing hi hn] at h
        exact ih (i + 1) acc ls (by omega) hi h (by omega) ha
      | false =>
        obtain ⟨t, ht⟩ : ∃ t, joinL e L[i] (L.drop (i + 1)) i = t := ⟨_, rfl⟩
        obtain ⟨a, j⟩ := t
        have hle := joinL_le (e := e) L[i] (L.drop (i + 1)) i
        rw [ht, List.length_drop] at hle
        simp only at hle
        cases he : empty a.1 with
        | true =>
          rw [main_empty hi hn ht he] at h
          exact ih j acc ls (by omega) (by omega) h (by omega) ha
        | false =>
          cases hdd : docsL e L ⟨(i : Int) + 1, a.1, a.2, []⟩ j with
          | inl z => rw [main_err hi hn ht he hdd] at h; cases h
          | inr dm =>
            obtain ⟨ds, m2⟩ := dm
            have hm2 := docsL_le hdd
            have hm3 := hm2.2 (by omega)
            have hb := docsL_b hdd (by omega)
            rw [main_line hi hn ht he hdd] at h
            refine ih m2 _ ls (by omega) hm3 h (by rw [List.length_append, List.length_singleton]; omega) fun l hl => ?_
            rcases List.mem_append.1 hl with hl | hl
            · exact ha l hl
            · rw [List.mem_singleton] at hl
              subst hl
              exact ⟨hb.1, by show ds.length ≤ _; omega⟩
    · rw [main_end hi] at h
      injection h with h
      subst h
      exact ⟨by omega, ha⟩
end Lx
theorem lines_bound {s : List UInt8} {e : UInt8} {ls : List Lx.Ln} (h : Lx.linesL s = .inr (e, ls)) : ls.length ≤ 1000000 ∧ ∀ l ∈ ls, DcIn l ∧ l.docs.length ≤ 1000000 := by
  obtain ⟨_, h1, h2, n, hd, hm⟩ := Lx.lines_ok h
  have hn : n ≤ (Lx.fileL s).length := by
    rcases Lx.dirs_is hd with ⟨rfl, _⟩ | ⟨rfl, x, r, p, hx, _⟩
    · omega
    · rw [hx]; simp
  have htot := Lx.tot_file s
  have := Lx.main_b _ n [] ls (Nat.le_refl _) hn hm (by simp) (fun l hl => by cases hl)
  refine ⟨by omega, fun l hl => ⟨fun d hd => ?_, by have := (this.2 l hl).2; omega⟩⟩
  obtain ⟨q1, q2, q3⟩ := (this.2 l hl).1 d hd
  exact ⟨q1, by omega, by omega⟩
end Go.Proofs.YtpgnfianffjpnaaGreatDoor
