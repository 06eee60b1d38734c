/- The plain part of desk.Words: what quoted words are, and that they are found. No program stands here. -/
namespace Go.Proofs.YtkbigejknkamiaaDoor.Dk
/-- a byte's value as a digit of base 16; 16: it is none. -/
def hexv (c : UInt8) : Nat :=
  if 48 ≤ c.toNat ∧ c.toNat ≤ 57 then c.toNat - 48 else if 97 ≤ c.toNat ∧ c.toNat ≤ 102 then c.toNat - 87 else if 65 ≤ c.toNat ∧ c.toNat ≤ 70 then c.toNat - 55 else 16
def isBl (c : UInt8) : Bool := c.toNat == 32 || c.toNat == 9 || c.toNat == 13
/-- desk.unquote behind its first byte: what was gathered, the place. -/
def unq : List UInt8 → List UInt8 → Nat → Option (List UInt8 × Nat)
  | [], _, _ => none
  | c :: r, acc, n =>
    if c.toNat = 34 then some (acc, n + 1) else if c.toNat = 10 then none
    else if c.toNat = 92 then
      match r with
      | [] => none
      | e :: r1 =>
        if e.toNat = 34 ∨ e.toNat = 92 then unq r1 (acc ++ [e]) (n + 2)
        else if e.toNat = 110 then unq r1 (acc ++ [10]) (n + 2)
        else if e.toNat = 120 then
          match r1 with
          | h1 :: h2 :: r2 => if hexv h1 < 16 ∧ hexv h2 < 16 then unq r2 (acc ++ [UInt8.ofNat (hexv h1 * 16 + hexv h2)]) (n + 4) else none
          | _ => none
        else none
    else unq r (acc ++ [c]) (n + 1)
def wordsF : Nat → List UInt8 → List (List UInt8) → Option (List (List UInt8))
  | 0, _, acc => some acc
  | _ + 1, [], acc => some acc
  | n + 1, c :: r, acc =>
    if isBl c then wordsF n r acc else if c.toNat = 35 then some acc
    else if c.toNat = 34 then
      match unq r [] 1 with
      | none => none
      | some (w, k) =>
        match (c :: r).drop k with
        | [] => wordsF n [] (acc ++ [w])
        | d :: r' => if isBl d then wordsF n (d :: r') (acc ++ [w]) else none
    else wordsF n ((c :: r).dropWhile (!isBl ·)) (acc ++ [(c :: r).takeWhile (!isBl ·)])
def words (s : List UInt8) : Option (List (List UInt8)) := wordsF s.length s []
theorem unq_cons (c : UInt8) (r acc : List UInt8) (n : Nat) : unq (c :: r) acc n =
    if c.toNat = 34 then some (acc, n + 1) else if c.toNat = 10 then none
    else if c.toNat = 92 then
      match r with
      | [] => none
      | e :: r1 =>
        if e.toNat = 34 ∨ e.toNat = 92 then unq r1 (acc ++ [e]) (n + 2)
        else if e.toNat = 110 then unq r1 (acc ++ [10]) (n + 2)
        else if e.toNat = 120 then
          match r1 with
          | h1 :: h2 :: r2 => if hexv h1 < 16 ∧ hexv h2 < 16 then unq r2 (acc ++ [UInt8.ofNat (hexv h1 * 16 + hexv h2)]) (n + 4) else none
          | _ => none
        else none
    else unq r (acc ++ [c]) (n + 1) := by
  conv => lhs; rw [unq.eq_def]
theorem unq_bounds : ∀ (m : Nat) (s acc : List UInt8) (n : Nat) (w : List UInt8) (k : Nat), s.length ≤ m → unq s acc n = some (w, k) → n < k ∧ k ≤ n + s.length
  | 0, [], _, _, _, _, _, h => by simp [unq] at h
  | m + 1, [], _, _, _, _, _, h => by simp [unq] at h
  | m + 1, c :: r, acc, n, w, k, hm, h => by
    simp only [List.length_cons] at hm
    rw [unq_cons] at h
    split at h
    · simp at h; simp; omega
    split at h
    · cases h
    split at h
    · match r, h with
      | e :: r1, h =>
        simp only [List.length_cons] at hm
        dsimp only at h
        split at h
        · have := unq_bounds m r1 _ _ w k (by omega) h; simp; omega
        split at h
        · have := unq_bounds m r1 _ _ w k (by omega) h; simp; omega
        split at h
        · match r1, h with
          | h1 :: h2 :: r2, h =>
            simp only [List.length_cons] at hm
            dsimp only at h
            split at h
            · have := unq_bounds m r2 _ _ w k (by omega) h; simp; omega
            · cases h
        · cases h
    · have := unq_bounds m r _ _ w k (by omega) h; simp; omega
/-- stratalaw32.hex -/
def hexd (n : Nat) : UInt8 := if n < 10 then UInt8.ofNat (48 + n) else UInt8.ofNat (97 + n - 10)
def quo (c : UInt8) : List UInt8 :=
  if c.toNat = 34 ∨ c.toNat = 92 then [92, c] else if c.toNat = 10 then [92, 110] else if c.toNat < 32 ∨ 126 < c.toNat then [92, 120, hexd (c.toNat / 16), hexd (c.toNat % 16)] else [c]
def quote (s : List UInt8) : List UInt8 := 34 :: (s.flatMap quo ++ [34])
theorem hexv_hexd (n : Nat) (h : n < 16) : hexv (hexd n) = n := by
  have : ∀ m : Fin 16, hexv (hexd m.val) = m.val := by decide
  exact this ⟨n, h⟩
theorem unq_quo (c : UInt8) (t acc : List UInt8) (n : Nat) : unq (quo c ++ t) acc n = unq t (acc ++ [c]) (n + (quo c).length) := by
  have hlt := c.toNat_lt
  unfold quo
  split
  · rename_i h
    rw [List.cons_append, List.cons_append, List.nil_append, unq_cons, if_neg (by decide), if_neg (by decide), if_pos (by decide)]
    simp [h]
  split
  · rename_i h1 h
    have hc : c = 10 := UInt8.toNat_inj.1 h
    subst hc
    rw [List.cons_append, List.cons_append, List.nil_append, unq_cons, if_neg (by decide), if_neg (by decide), if_pos (by decide)]
    rfl
  split
  · rename_i h1 h2 h
    have e1 := hexv_hexd (c.toNat / 16) (by omega)
    have e2 := hexv_hexd (c.toNat % 16) (by omega)
    have hk : c.toNat / 16 < 16 ∧ c.toNat % 16 < 16 := by omega
    have hs : c.toNat / 16 * 16 + c.toNat % 16 = c.toNat := by omega
    generalize hexd (c.toNat / 16) = a at *
    generalize hexd (c.toNat % 16) = b at *
    rw [List.cons_append, unq_cons, if_neg (by decide), if_neg (by decide), if_pos (by decide)]
    simp only [List.cons_append, List.nil_append]
    rw [if_neg (by decide), if_neg (by decide), if_pos (by decide), e1, e2, if_pos hk, hs, UInt8.ofNat_toNat]
    rfl
  · rename_i h1 h2 h3
    rw [List.cons_append, List.nil_append, unq_cons, if_neg (by omega), if_neg (by omega), if_neg (by omega)]
    rfl
theorem unq_quote (s t acc : List UInt8) (n : Nat) : unq (s.flatMap quo ++ 34 :: t) acc n = some (acc ++ s, n + (s.flatMap quo).length + 1) := by
  induction s generalizing acc n with
  | nil => rw [List.flatMap_nil, List.nil_append, unq_cons, if_pos (by decide)]; simp
  | cons c s ih =>
    rw [List.flatMap_cons, List.append_assoc, unq_quo, ih]
    simp [Nat.add_assoc]
/-- a line of quoted words: to each word its blanks. -/
def piece (k : Nat) (w : List UInt8) : List UInt8 := 32 :: (List.replicate k 9 ++ quote w)
theorem wordsF_blanks (k m n : Nat) (t : List UInt8) (acc : List (List UInt8)) (h : k ≤ n) (hm : n - k = m) : wordsF n (List.replicate k 9 ++ t) acc = wordsF m t acc := by
  induction k generalizing n with
  | zero => simp at hm; simp [hm]
  | succ k ih =>
    obtain ⟨n, rfl⟩ : ∃ n', n = n' + 1 := ⟨n - 1, by omega⟩
    rw [List.replicate_succ, List.cons_append, wordsF]
    simp [isBl]
    exact ih n (by omega) (by omega)
theorem wordsF_pieces (k : Nat) (ws : List (List UInt8)) : ∀ (n : Nat) (acc : List (List UInt8)), (ws.flatMap (piece k)).length ≤ n → wordsF n (ws.flatMap (piece k)) acc = some (acc ++ ws) := by
  induction ws with
  | nil => intro n acc _; cases n <;> simp [wordsF]
  | cons w ws ih =>
    intro n acc hn
    rw [List.flatMap_cons] at hn ⊢
    simp only [piece, quote, List.length_append, List.length_cons, List.length_replicate, List.length_nil] at hn
    obtain ⟨n, rfl⟩ : ∃ n', n = n' + 1 := ⟨n - 1, by omega⟩
    rw [piece, List.cons_append, wordsF]
    rw [if_pos (by decide), List.append_assoc, wordsF_blanks k (n - k) n _ _ (by omega) rfl]
    obtain ⟨m, hm⟩ : ∃ m, n - k = m + 1 := ⟨n - k - 1, by omega⟩
    rw [hm, quote, List.cons_append, wordsF]
    rw [if_neg (by decide), if_neg (by decide), if_pos (by decide)]
    rw [show (w.flatMap quo ++ [34] ++ List.flatMap (piece k) ws) = w.flatMap quo ++ 34 :: List.flatMap (piece k) ws by simp]
    rw [unq_quote]
    simp only [List.nil_append]
    have hd : (34 :: (w.flatMap quo ++ 34 :: ws.flatMap (piece k))).drop (1 + (w.flatMap quo).length + 1) = ws.flatMap (piece k) := by
      rw [show 1 + (w.flatMap quo).length + 1 = (34 :: (w.flatMap quo ++ [34])).length by simp; omega]
      rw [show (34 :: (w.flatMap quo ++ 34 :: ws.flatMap (piece k))) = (34 :: (w.flatMap quo ++ [34])) ++ ws.flatMap (piece k) by simp]
      exact List.drop_left
    rw [hd]
    have hih := ih m (acc ++ [w]) (by omega)
    cases hws : ws.flatMap (piece k) with
    | nil =>
      rw [hws] at hih
      simp only []
      rw [hih]; simp
    | cons d r =>
      rw [hws] at hih
      have hbl : isBl d = true := by
        cases ws with
        | nil => simp at hws
        | cons w' ws' =>
          rw [List.flatMap_cons, piece, List.cons_append] at hws
          injection hws with h1 _
          subst h1; decide
      simp only [hbl, if_true]
      rw [hih]; simp
theorem words_pieces (k : Nat) (ws : List (List UInt8)) : words (ws.flatMap (piece k)) = some ws := by
  unfold words; rw [wordsF_pieces k ws _ _ (Nat.le_refl _)]; simp
theorem words_one : words [97, 32, 34, 34, 9, 98, 35, 99] = some [[97], [], [98, 35, 99]] := by decide
end Go.Proofs.YtkbigejknkamiaaDoor.Dk
