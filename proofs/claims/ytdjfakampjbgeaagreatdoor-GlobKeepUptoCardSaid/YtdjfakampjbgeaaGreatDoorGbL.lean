/- What is read of a pattern is no longer than it, plain. -/
import Derived.Test.YtdjfakampjbgeaaGreatDoorMA
namespace Go.Proofs.YtdjfakampjbgeaaGreatDoor.Gl
theorem oneL_len {l r : List UInt8} {c : UInt8} (h : oneL l = some (c, r)) : r.length < l.length := by
  cases l with
  | nil => cases h
  | cons x l =>
    by_cases hx : x = 92
    · cases l with
      | nil => simp [oneL, hx] at h
      | cons y l =>
        simp only [oneL, hx, if_true, Option.some.injEq, Prod.mk.injEq] at h
        obtain ⟨_, rfl⟩ := h
        simp only [List.length_cons]
        omega
    · simp only [oneL, hx, if_false, Option.some.injEq, Prod.mk.injEq] at h
      obtain ⟨_, rfl⟩ := h
      simp
theorem setL_len : ∀ (n : Nat) (f : Bool) (l fs ts : List UInt8) (x : List UInt8 × List UInt8) (r : List UInt8), setL n f l fs ts = some (x, r) → x.1.length ≤ fs.length + l.length ∧ r.length < l.length
  | 0, _, _, _, _, _, _, h => by cases h
  | n + 1, f, l, fs, ts, x, r, h => by
    match l with
    | [] => rw [setL] at h; cases h
    | y :: r0 =>
      rw [setL] at h
      split at h
      · cases h; simp
      · cases ho : oneL (y :: r0) with
        | none => rw [ho] at h; cases h
        | some p =>
          obtain ⟨c, r1⟩ := p
          have hl := oneL_len ho
          rw [ho] at h
          simp only [List.length_cons] at hl ⊢
          match r1 with
          | [] =>
            have := setL_len n false _ _ _ _ _ h
            simp only [List.length_append, List.length_cons, List.length_nil] at this
            omega
          | [z] =>
            have := setL_len n false _ _ _ _ _ h
            simp only [List.length_append, List.length_cons, List.length_nil] at this hl ⊢
            omega
          | z :: z2 :: r2 =>
            simp only at h
            split at h
            · cases ho2 : oneL (z2 :: r2) with
              | none => rw [ho2] at h; cases h
              | some p2 =>
                obtain ⟨d, r3⟩ := p2
                have hl2 := oneL_len ho2
                rw [ho2] at h
                simp only at h
                split at h
                · cases h
                · have := setL_len n false _ _ _ _ _ h
                  simp only [List.length_append, List.length_cons, List.length_nil] at this hl hl2 ⊢
                  omega
            · have := setL_len n false _ _ _ _ _ h
              simp only [List.length_append, List.length_cons, List.length_nil] at this hl ⊢
              omega
theorem setOpen_len {r r' : List UInt8} {m : Mk} (h : setOpen r = some (m, r')) : m.fr.length ≤ r.length ∧ r'.length ≤ r.length := by
  unfold setOpen at h
  simp only [Option.map_eq_some_iff] at h
  obtain ⟨x, h1, h2⟩ := h
  obtain ⟨x1, x2⟩ := x
  have hx := setL_len _ _ _ _ _ _ _ h1
  cases h2
  have ht : (if r.head? = some 33 || r.head? = some 94 then r.tail else r).length ≤ r.length := by split <;> simp
  simp only [List.length_nil, Nat.zero_add] at hx
  exact ⟨by show x1.1.length ≤ _; omega, by show x2.length ≤ _; omega⟩
theorem pieceA_len (B : Nat) (hB : 1 ≤ B) : ∀ (n : Nat) (out : List Mk) (l : List UInt8) (ms : List Mk), pieceA n out l = some ms → l.length ≤ B → (∀ m ∈ out, m.fr.length ≤ B) → (∀ m ∈ ms, m.fr.length ≤ B) ∧ ms.length ≤ out.length + l.length
  | 0, _, _, _, h, _, _ => by cases h
  | n + 1, out, [], ms, h, _, ho => by
    rw [pieceA] at h
    cases h
    exact ⟨ho, by simp⟩
  | n + 1, out, c :: r, ms, h, hl, ho => by
    simp only [List.length_cons] at hl
    have step : ∀ (m : Mk) (r' : List UInt8), pieceA n (out ++ [m]) r' = some ms → m.fr.length ≤ B → r'.length ≤ r.length → (∀ m ∈ ms, m.fr.length ≤ B) ∧ ms.length ≤ out.length + (r.length + 1) := fun m r' h hm hr => by
      have := pieceA_len B hB n (out ++ [m]) r' ms h (by omega) (fun x hx => by
        rcases List.mem_append.1 hx with hx | hx
        · exact ho x hx
        · rw [List.mem_singleton.1 hx]; exact hm)
      refine ⟨this.1, ?_⟩
      have h2 := this.2
      simp at h2
      omega
    rw [pieceA] at h
    split at h
    · exact step _ _ h (by simp) (Nat.le_refl _)
    · split at h
      · exact step _ _ h (by simp) (Nat.le_refl _)
      · split at h
        · cases hs : setOpen r with
          | none => rw [hs] at h; cases h
          | some p =>
            obtain ⟨m, r'⟩ := p
            rw [hs] at h
            have := setOpen_len hs
            exact step _ _ h (by omega) this.2
        · cases hs : oneL (c :: r) with
          | none => rw [hs] at h; cases h
          | some p =>
            obtain ⟨d, r'⟩ := p
            rw [hs] at h
            have := oneL_len hs
            exact step _ _ h (by show 1 ≤ B; exact hB) (by simp at this; omega)
theorem pieceL_len {p : List UInt8} {ms : List Mk} (h : pieceL p = some ms) : (∀ m ∈ ms, m.fr.length ≤ p.length + 1) ∧ ms.length ≤ p.length := by
  have := pieceA_len (p.length + 1) (by omega) _ _ _ _ h (by omega) (by simp)
  exact ⟨this.1, by simpa using this.2⟩
theorem readA_len (B : Nat) : ∀ (l : List (List UInt8)) (out ps : List Pc), readA l out = some ps → (∀ x ∈ l, x.length ≤ B) → (∀ p ∈ out, p.marks.length ≤ B ∧ ∀ m ∈ p.marks, m.fr.length ≤ B + 1) → (∀ p ∈ ps, p.marks.length ≤ B ∧ ∀ m ∈ p.marks, m.fr.length ≤ B + 1) ∧ ps.length = out.length + l.length
  | [], out, ps, h, _, ho => by
    rw [readA] at h
    cases h
    exact ⟨ho, by simp⟩
  | x :: l, out, ps, h, hl, ho => by
    have hx := hl x (List.mem_cons_self ..)
    have step : ∀ q : Pc, readA l (out ++ [q]) = some ps → (q.marks.length ≤ B ∧ ∀ m ∈ q.marks, m.fr.length ≤ B + 1) → (∀ p ∈ ps, p.marks.length ≤ B ∧ ∀ m ∈ p.marks, m.fr.length ≤ B + 1) ∧ ps.length = out.length + (x :: l).length := fun q h hq => by
      have := readA_len B l (out ++ [q]) ps h (fun y hy => hl y (List.mem_cons_of_mem _ hy)) (fun p hp => by
        rcases List.mem_append.1 hp with hp | hp
        · exact ho p hp
        · rw [List.mem_singleton.1 hp]; exact hq)
      refine ⟨this.1, ?_⟩
      have h2 := this.2
      simp at h2
      simp
      omega
    rw [readA] at h
    split at h
    · exact step _ h ⟨by simp, by simp⟩
    · cases hp : pieceL x with
      | none => rw [hp] at h; cases h
      | some ms =>
        rw [hp] at h
        have := pieceL_len hp
        exact step _ h ⟨by show ms.length ≤ B; omega, fun m hm => by have := this.1 m hm; omega⟩
theorem readL_len {p : List UInt8} {ps : List Pc} (h : readL p = some ps) : (∀ q ∈ ps, q.marks.length ≤ p.length ∧ ∀ m ∈ q.marks, m.fr.length ≤ p.length + 1) ∧ ps.length = (namesL p).length := by
  rw [readL] at h
  split at h
  · cases h
  · have := readA_len p.length _ _ _ h (fun x hx => namesL_piece hx) (by simp)
    exact ⟨this.1, by simpa using this.2⟩
end Go.Proofs.YtdjfakampjbgeaaGreatDoor.Gl
