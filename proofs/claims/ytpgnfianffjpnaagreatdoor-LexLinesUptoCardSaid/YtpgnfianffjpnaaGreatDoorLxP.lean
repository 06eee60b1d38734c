/- A directive, by the first =, plain. -/
import Derived.Test.YtpgnfianffjpnaaGreatDoorLxB
import Derived.Lib.IndexMore
namespace Go.Proofs.YtpgnfianffjpnaaGreatDoor
open Go Go.RowKit
namespace Lx
abbrev isB (c : UInt8) : Bool := Gl.bls.contains c
theorem lft_app {a : Bs} (x : Bs) (h : ∀ c ∈ a, isB c = true) : Gl.lft (a ++ x) = Gl.lft x := by
  unfold Gl.lft Lib.trimLeftS
  exact List.dropWhile_append_of_pos h
theorem lft_cons {c : UInt8} (x : Bs) (h : isB c = false) : Gl.lft (c :: x) = c :: x := by
  unfold Gl.lft Lib.trimLeftS
  rw [List.dropWhile_cons_of_neg]
  rw [show Gl.bls.contains c = false from h]; simp
theorem rgt_app (x : Bs) {b : Bs} (h : ∀ c ∈ b, isB c = true) : rgt (x ++ b) = rgt x := by
  unfold rgt Lib.trimRightS
  rw [List.reverse_append, List.dropWhile_append_of_pos (fun c hc => h c (List.mem_reverse.1 hc))]
theorem rgt_snoc (x : Bs) {c : UInt8} (h : isB c = false) : rgt (x ++ [c]) = x ++ [c] := by
  unfold rgt Lib.trimRightS
  rw [List.reverse_append, List.reverse_singleton, List.singleton_append, List.dropWhile_cons_of_neg (by rw [show Gl.bls.contains c = false from h]; simp)]
  simp
theorem lft_split (a : Bs) : ∃ b, a = b ++ Gl.lft a ∧ ∀ c ∈ b, isB c = true :=
  ⟨a.takeWhile (Gl.bls.contains ·), (List.takeWhile_append_dropWhile ..).symm, fun c hc => List.all_eq_true.1 (List.all_takeWhile (p := (Gl.bls.contains ·))) c hc⟩
theorem rgt_split (a : Bs) : ∃ b, a = rgt a ++ b ∧ ∀ c ∈ b, isB c = true := by
  refine ⟨(a.reverse.takeWhile (Gl.bls.contains ·)).reverse, ?_, fun c hc => List.all_eq_true.1 (List.all_takeWhile (p := (Gl.bls.contains ·))) c (List.mem_reverse.1 hc)⟩
  unfold rgt Lib.trimRightS
  rw [← List.reverse_append, List.takeWhile_append_dropWhile, List.reverse_reverse]
theorem trim_split (a : Bs) : ∃ b d, a = b ++ (Gl.trimL a ++ d) ∧ (∀ c ∈ b, isB c = true) ∧ ∀ c ∈ d, isB c = true := by
  obtain ⟨d, h1, h2⟩ := rgt_split a
  obtain ⟨b, h3, h4⟩ := lft_split (rgt a)
  refine ⟨b, d, ?_, h4, h2⟩
  rw [← List.append_assoc, show Gl.trimL a = Gl.lft (rgt a) from rfl, ← h3]
  exact h1
/-- what stands between blanks, its ends no blanks. -/
theorem trim_mid {b w d : Bs} (hb : ∀ c ∈ b, isB c = true) (hd : ∀ c ∈ d, isB c = true) (hw : ∀ c ∈ w, isB c = false) : Gl.trimL (b ++ (w ++ d)) = w := by
  rw [show Gl.trimL (b ++ (w ++ d)) = Gl.lft (rgt (b ++ (w ++ d))) from rfl, ← List.append_assoc, rgt_app _ hd]
  rcases List.eq_nil_or_concat w with rfl | ⟨x, c, rfl⟩
  · rw [List.append_nil, show rgt b = rgt ([] ++ b) by rw [List.nil_append], rgt_app _ hb]; rfl
  · rw [List.concat_eq_append, ← List.append_assoc, rgt_snoc _ (hw c (by simp)), List.append_assoc, lft_app _ hb]
    cases x with
    | nil => exact lft_cons [] (hw c (by simp))
    | cons y x => exact lft_cons _ (hw y (by simp))
theorem esc_all {w : Bs} (h : sameL w escW = true) : ∀ c ∈ w, isB c = false ∧ c ≠ 61 := by
  intro c hc
  have h1 : w.map low = escW := by simpa [sameL] using h
  have h2 : low c ∈ escW := by rw [← h1]; exact List.mem_map_of_mem hc
  have key : ∀ d : UInt8, low d = d → d ∉ escW → c ≠ d := fun d e1 e2 e => e2 (by rw [← e1, ← e]; exact h2)
  refine ⟨?_, key 61 (by decide) (by decide)⟩
  have k1 := key 32 (by decide) (by decide)
  have k2 := key 9 (by decide) (by decide)
  have k3 := key 13 (by decide) (by decide)
  unfold isB
  simp [k1, k2, k3]
theorem esc_len {w : Bs} (h : sameL w escW = true) : w.length = 6 := by
  have h1 : w.map low = escW := by simpa [sameL] using h
  have := congrArg List.length h1
  simpa using this
theorem cut61 (r : Bs) : ((∀ c ∈ r, c ≠ 61) ∧ Lib.cut r [61] = (r, [], false)) ∨ ∃ a v, r = a ++ 61 :: v ∧ (∀ c ∈ a, c ≠ 61) ∧ Lib.cut r [61] = (a, v, true) := by
  rcases Gl.index_byte 61 r with ⟨h1, h2⟩ | ⟨a, v, h1, h2, h3⟩
  · refine .inl ⟨h2, ?_⟩
    rw [Lib.cut, h1, if_neg (by omega)]
  · refine .inr ⟨a, v, h1, h2, ?_⟩
    rw [Lib.cut, h3, if_pos (by omega)]
    rw [h1]
    simp
theorem split_uniq {a a' v v' : Bs} (h : a ++ 61 :: v = a' ++ 61 :: v') (ha : ∀ c ∈ a, c ≠ 61) (ha' : ∀ c ∈ a', c ≠ 61) : a = a' ∧ v = v' := by
  induction a generalizing a' with
  | nil =>
    cases a' with
    | nil => injection h with _ h; exact ⟨rfl, h⟩
    | cons x a' =>
      injection h with h1 _
      exact absurd h1.symm (ha' x (by simp))
  | cons y a ih =>
    cases a' with
    | nil =>
      injection h with h1 _
      exact absurd h1 (ha y (by simp))
    | cons x a' =>
      injection h with h1 h2
      obtain ⟨e1, e2⟩ := ih h2 (fun c hc => ha c (by simp [hc])) (fun c hc => ha' c (by simp [hc]))
      exact ⟨by rw [h1, e1], e2⟩
theorem blank_no {b : Bs} (h : ∀ c ∈ b, isB c = true) : ∀ c ∈ b, c ≠ 61 := fun c hc e => by
  have := h c hc
  rw [e] at this
  exact absurd this (by decide)
theorem dir_hit {line r a v : Bs} (hl : Gl.lft line = 35 :: r) (hr : r = a ++ 61 :: v) (ha : ∀ c ∈ a, c ≠ 61) : dirP line = if sameL (Gl.trimL a) escW then some (line.length - v.length) else none := by
  rw [dirP, hl]
  simp only [if_true]
  by_cases hs : sameL (Gl.trimL a) escW = true
  · rw [if_pos hs]
    obtain ⟨b, d, h1, h2, h3⟩ := trim_split a
    have hw := esc_all hs
    have h6 := esc_len hs
    generalize Gl.trimL a = w at *
    have e : Gl.lft r = w ++ (d ++ 61 :: v) := by
      rw [hr, h1, List.append_assoc, lft_app _ h2, List.append_assoc]
      cases w with
      | nil => simp at h6
      | cons c w => exact lft_cons _ (hw c (by simp)).1
    have e1 : (Gl.lft r).take 6 = w := by rw [e, ← h6, List.take_left]
    have e2 : (Gl.lft r).drop 6 = d ++ 61 :: v := by rw [e, ← h6, List.drop_left]
    rw [e1, if_pos hs, e2, lft_app _ h3, lft_cons v (by decide)]
    simp
  · rw [if_neg hs]
    split
    · rename_i hs2
      split
      · rfl
      · rename_i c x hx
        split
        · rename_i hc
          subst hc
          exfalso
          apply hs
          obtain ⟨b, h1, h2⟩ := lft_split r
          obtain ⟨d, h3, h4⟩ := lft_split ((Gl.lft r).drop 6)
          rw [hx] at h3
          have hw := esc_all hs2
          have e : r = (b ++ ((Gl.lft r).take 6 ++ d)) ++ 61 :: x := by
            rw [List.append_assoc, List.append_assoc, ← h3, List.take_append_drop]
            exact h1
          have hq := split_uniq (hr.symm.trans e) ha (fun c hc => by
            rcases List.mem_append.1 hc with hc | hc
            · exact blank_no h2 c hc
            · rcases List.mem_append.1 hc with hc | hc
              · exact (hw c hc).2
              · exact blank_no h4 c hc)
          rw [hq.1, trim_mid h2 h4 (fun c hc => (hw c hc).1)]
          exact hs2
        · rfl
    · rfl
theorem dir_miss {line r : Bs} (hl : Gl.lft line = 35 :: r) (hr : ∀ c ∈ r, c ≠ 61) : dirP line = none := by
  rw [dirP, hl]
  simp only [if_true]
  split
  · split
    · rfl
    · rename_i c x hx
      split
      · rename_i hc
        subst hc
        obtain ⟨b, h1, _⟩ := lft_split r
        obtain ⟨d, h3, _⟩ := lft_split ((Gl.lft r).drop 6)
        rw [hx] at h3
        exfalso
        refine hr 61 ?_ rfl
        rw [h1, ← List.take_append_drop 6 (Gl.lft r), h3]
        simp
      · rfl
  · rfl
theorem dir_no {line r : Bs} {c : UInt8} (hl : Gl.lft line = c :: r) (hc : c ≠ 35) : dirP line = none := by
  rw [dirP, hl]
  simp only [if_neg hc]
theorem dir_nil {line : Bs} (hl : Gl.lft line = []) : dirP line = none := by rw [dirP, hl]
theorem lft_le (l : Bs) : (Gl.lft l).length ≤ l.length := (List.dropWhile_sublist _).length_le
theorem dir_value {line r a v : Bs} (hl : Gl.lft line = 35 :: r) (hr : r = a ++ 61 :: v) : line.drop (line.length - v.length) = v := by
  obtain ⟨b, h, _⟩ := lft_split line
  rw [hl, hr] at h
  have e : line = (b ++ 35 :: a ++ [61]) ++ v := by rw [h]; simp
  have hlen : line.length - v.length = (b ++ 35 :: a ++ [61]).length := by
    have := congrArg List.length e
    rw [List.length_append] at this
    omega
  rw [hlen]
  conv => lhs; rw [e]
  rw [List.drop_left]
theorem dir_le {line : Bs} {p : Nat} (h : dirP line = some p) : 0 < p ∧ p ≤ line.length := by
  cases hl : Gl.lft line with
  | nil => rw [dir_nil hl] at h; cases h
  | cons c r =>
    by_cases hc : c = 35
    · subst hc
      rcases cut61 r with ⟨h1, _⟩ | ⟨a, v, h1, h2, _⟩
      · rw [dir_miss hl h1] at h; cases h
      · rw [dir_hit hl h1 h2] at h
        split at h
        · injection h with h
          have h3 := lft_le line
          rw [hl, h1] at h3
          simp at h3
          omega
        · cases h
    · rw [dir_no hl hc] at h; cases h
end Lx
end Go.Proofs.YtpgnfianffjpnaaGreatDoor
