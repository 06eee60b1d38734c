/- A remark or an empty line more changes nothing but numbers: plain. -/
import Derived.Test.YtpgnfianffjpnaaGreatDoorLyA
namespace Go.Proofs.YtpgnfianffjpnaaGreatDoor
open Go Go.RowKit
namespace Lx
def dk (d : Dc) : Bs × Bool × Bs := (d.name, d.raw, d.text)
def lk (l : Ln) : Bs × List (Bs × Bool × Bs) := (l.text, l.docs.map dk)
/-- is line p (from 0 on) one of a document's? -/
def inDoc (p : Nat) (d : Dc) : Prop := d.line - 1 ≤ (p : Int) ∧ (p : Int) ≤ d.line - 1 + (d.text.count 10 : Int)
section
variable {e : UInt8}
theorem add_text (a b : Acc) (x : Bs) (n m k : Nat) (h : a.1 = b.1) : (addL a x n k).1 = (addL b x m k).1 := by
  unfold addL
  split
  · exact h
  · simp only; rw [h]
theorem more_text (a b : Acc) (x : Bs) (n m k : Nat) (h : a.1 = b.1) : (moreL e a x n k).1 = (moreL e b x m k).1 := by
  unfold moreL
  split <;> exact add_text _ _ _ _ _ _ h
theorem goJ_shift : ∀ (r : List Bs) (i j : Nat) (a b : Acc), a.1 = b.1 → (goJ e r i a).1.1 = (goJ e r j b).1.1 ∧ (goJ e r j b).2 + i = (goJ e r i a).2 + j
  | [], i, j, a, b, h => by rw [goJ, goJ]; exact ⟨h, by simp only; omega⟩
  | x :: r, i, j, a, b, h => by
    rw [goJ, goJ]
    split
    · have := goJ_shift r (i + 1) (j + 1) a b h
      exact ⟨this.1, by omega⟩
    · have hm := more_text (e := e) a b x (i + 1) (j + 1) 0 h
      split
      · have := goJ_shift r (i + 1) (j + 1) _ _ hm
        exact ⟨this.1, by omega⟩
      · exact ⟨hm, by simp only; omega⟩
theorem join_shift (x : Bs) (r : List Bs) (i j : Nat) : (joinL e x r i).1.1 = (joinL e x r j).1.1 ∧ (joinL e x r j).2 + i = (joinL e x r i).2 + j := by
  have hm := more_text (e := e) ([], []) ([], []) x (i + 1) (j + 1) (headN x) rfl
  rw [joinL, joinL]
  split
  · have := goJ_shift (e := e) r (i + 1) (j + 1) _ _ hm
    exact ⟨this.1, by omega⟩
  · exact ⟨hm, by simp only; omega⟩
/-- a line put in among those that a line goes on with. -/
theorem goJ_ins {mo : Bs} (hmo : nothingL mo = true) (B : List Bs) : ∀ (A : List Bs) (i : Nat) (a : Acc),
    ((goJ e (A ++ B) i a).2 ≤ i + A.length ∧ goJ e (A ++ mo :: B) i a = goJ e (A ++ B) i a) ∨ (i + A.length ≤ (goJ e (A ++ B) i a).2 ∧ (goJ e (A ++ mo :: B) i a).1.1 = (goJ e (A ++ B) i a).1.1 ∧ (goJ e (A ++ mo :: B) i a).2 = (goJ e (A ++ B) i a).2 + 1)
  | [], i, a => by
    right
    have h := goJ_shift (e := e) B i (i + 1) a a rfl
    have hle := (goJ_le (e := e) B i a).1
    rw [List.nil_append, List.nil_append, goJ, if_pos hmo]
    exact ⟨by simpa using hle, h.1.symm, by omega⟩
  | x :: A, i, a => by
    rw [List.cons_append, List.cons_append, goJ, goJ, List.length_cons]
    split
    · have := goJ_ins hmo B A (i + 1) a
      rw [show i + 1 + A.length = i + (A.length + 1) by omega] at this
      exact this
    · split
      · have := goJ_ins hmo B A (i + 1) (moreL e a x (i + 1) 0)
        rw [show i + 1 + A.length = i + (A.length + 1) by omega] at this
        exact this
      · exact .inl ⟨by simp only; omega, rfl⟩
theorem join_ins {mo : Bs} (hmo : nothingL mo = true) (A B : List Bs) (x : Bs) (i : Nat) :
    ((joinL e x (A ++ B) i).2 ≤ i + 1 + A.length ∧ joinL e x (A ++ mo :: B) i = joinL e x (A ++ B) i) ∨ (i + 1 + A.length ≤ (joinL e x (A ++ B) i).2 ∧ (joinL e x (A ++ mo :: B) i).1.1 = (joinL e x (A ++ B) i).1.1 ∧ (joinL e x (A ++ mo :: B) i).2 = (joinL e x (A ++ B) i).2 + 1) := by
  rw [joinL, joinL]
  split
  · exact goJ_ins hmo B A (i + 1) _
  · exact .inl ⟨by simp only; omega, rfl⟩
theorem body_shift (name : Bs) (tabs : Bool) : ∀ (r : List Bs) (acc : Bs) (k : Nat) (t : Bs) (m : Nat), bodyL name tabs r acc k = some (t, m) → bodyL name tabs r acc (k + 1) = some (t, m + 1)
  | [], acc, k, t, m, h => by rw [bodyL] at h; cases h
  | x :: r, acc, k, t, m, h => by
    rw [bodyL] at h ⊢
    split at h
    · rename_i hx
      rw [if_pos hx]
      injection h with h
      injection h with h1 h2
      rw [h1, ← h2]
    · rename_i hx
      rw [if_neg hx]
      exact body_shift name tabs r _ _ t m h
theorem body_local (name : Bs) (tabs : Bool) (B C : List Bs) : ∀ (A : List Bs) (acc : Bs) (k : Nat) (t : Bs) (m : Nat), bodyL name tabs (A ++ B) acc k = some (t, m) → m ≤ k + A.length → bodyL name tabs (A ++ C) acc k = some (t, m)
  | [], acc, k, t, m, h, hm => by
    have := (bodyL_le _ _ _ _ _ h).1
    simp at hm
    omega
  | x :: A, acc, k, t, m, h, hm => by
    rw [List.cons_append, bodyL] at h ⊢
    rw [List.length_cons] at hm
    split at h
    · rename_i hx
      rw [if_pos hx]
      exact h
    · rename_i hx
      rw [if_neg hx]
      exact body_local name tabs B C A _ _ t m h (by omega)
theorem bare_no10 {tabs : Bool} {x : Bs} (h : ∀ c ∈ x, c ≠ 10) : (bare tabs x).count 10 = 0 := by
  rw [List.count_eq_zero]
  intro hc
  unfold bare at hc
  split at hc
  · exact h 10 ((List.dropWhile_sublist _).subset hc) rfl
  · exact h 10 hc rfl
theorem body_count (name : Bs) (tabs : Bool) : ∀ (r : List Bs) (acc : Bs) (k : Nat) (t : Bs) (m : Nat), (∀ x ∈ r, ∀ c ∈ x, c ≠ 10) → bodyL name tabs r acc k = some (t, m) → t.count 10 + k + 1 = m + acc.count 10
  | [], acc, k, t, m, _, h => by rw [bodyL] at h; cases h
  | x :: r, acc, k, t, m, hr, h => by
    rw [bodyL] at h
    split at h
    · injection h with h
      injection h with h1 h2
      rw [← h1, ← h2]
      omega
    · have := body_count name tabs r _ _ t m (fun y hy => hr y (by simp [hy])) h
      rw [List.count_append, List.count_append, bare_no10 (hr x (by simp)), show List.count (10 : UInt8) [10] = 1 from rfl] at this
      omega
section
variable {L L' : List Bs} {ln ln' : Ln}
theorem docsW_shift {p : Nat} (hs : ∀ j, p ≤ j → L'.drop (j + 1) = L.drop j) : ∀ (ws : List Wd) (j : Nat) (acc acc' ds : List Dc) (m : Nat), p ≤ j → acc.map dk = acc'.map dk → docsW L ln ws j acc = .inr (ds, m) → ∃ ds', docsW L' ln' ws (j + 1) acc' = .inr (ds', m + 1) ∧ ds.map dk = ds'.map dk
  | [], j, acc, acc', ds, m, _, ha, h => by
    rw [docsW] at h ⊢
    injection h with h
    injection h with h1 h2
    subst h1 h2
    exact ⟨acc', rfl, ha⟩
  | w :: ws, j, acc, acc', ds, m, hp, ha, h => by
    rw [docsW] at h ⊢
    split at h
    · rename_i hd
      rw [if_pos hd]
      split at h
      · rename_i hn
        rw [if_pos hn, hs j hp]
        cases hb : bodyL (openName w.raw) (openTabs w.raw) (L.drop j) [] j with
        | none => rw [hb] at h; cases h
        | some tk =>
          obtain ⟨t, k⟩ := tk
          rw [hb] at h
          have hk := (bodyL_le _ _ _ _ _ hb).1
          rw [body_shift _ _ _ _ _ _ _ hb]
          exact docsW_shift hs ws k _ _ ds m (by omega) (by rw [List.map_append, List.map_append, ha]; rfl) h
      · cases h
    · rename_i hd
      rw [if_neg hd]
      exact docsW_shift hs ws j acc acc' ds m hp ha h
theorem docsW_pre : ∀ (ws : List Wd) (j : Nat) (acc ds : List Dc) (m : Nat), docsW L ln ws j acc = .inr (ds, m) → ∃ t, ds = acc ++ t
  | [], j, acc, ds, m, h => by
    rw [docsW] at h
    injection h with h
    injection h with h1 _
    exact ⟨[], by rw [← h1, List.append_nil]⟩
  | w :: ws, j, acc, ds, m, h => by
    rw [docsW] at h
    split at h
    · split at h
      · split at h
        · cases h
        · obtain ⟨t, ht⟩ := docsW_pre ws _ _ _ _ h
          exact ⟨_, by rw [ht, List.append_assoc]⟩
      · cases h
    · exact docsW_pre ws _ _ _ _ h
theorem docsW_local {A B C : List Bs} (h10 : ∀ x ∈ A ++ B, ∀ c ∈ x, c ≠ 10) : ∀ (ws : List Wd) (j : Nat) (acc acc' ds : List Dc) (m : Nat), j ≤ A.length → acc.map dk = acc'.map dk → docsW (A ++ B) ln ws j acc = .inr (ds, m) → (∀ d ∈ ds, ¬ inDoc A.length d) →
    m ≤ A.length ∧ ∃ ds', docsW (A ++ C) ln' ws j acc' = .inr (ds', m) ∧ ds.map dk = ds'.map dk
  | [], j, acc, acc', ds, m, hj, ha, h, _ => by
    rw [docsW] at h ⊢
    injection h with h
    injection h with h1 h2
    subst h1 h2
    exact ⟨hj, acc', rfl, ha⟩
  | w :: ws, j, acc, acc', ds, m, hj, ha, h, hw => by
    rw [docsW] at h ⊢
    split at h
    · rename_i hd
      rw [if_pos hd]
      split at h
      · rename_i hn
        rw [if_pos hn]
        cases hb : bodyL (openName w.raw) (openTabs w.raw) ((A ++ B).drop j) [] j with
        | none => rw [hb] at h; cases h
        | some tk =>
          obtain ⟨t, k⟩ := tk
          rw [hb] at h
          simp only at h
          obtain ⟨q, hq⟩ := docsW_pre _ _ _ _ _ h
          have hk := (bodyL_le _ _ _ _ _ hb).1
          have hc := body_count _ _ _ _ _ _ _ (fun x hx => h10 x (List.mem_of_mem_drop hx)) hb
          have hkA : k ≤ A.length := by
            have := hw ⟨openName w.raw, openRaw w.raw, (j : Int) + 1, t⟩ (by rw [hq]; simp)
            unfold inDoc at this
            simp only at this
            rw [List.count_nil] at hc
            omega
          have hb2 : bodyL (openName w.raw) (openTabs w.raw) ((A ++ C).drop j) [] j = some (t, k) := by
            rw [List.drop_append_of_le_length hj] at hb ⊢
            exact body_local _ _ _ _ _ _ _ _ _ hb (by rw [List.length_drop]; omega)
          rw [hb2]
          exact docsW_local h10 ws k _ _ ds m hkA (by rw [List.map_append, List.map_append, ha]) h hw
      · cases h
    · rename_i hd
      rw [if_neg hd]
      exact docsW_local h10 ws j acc acc' ds m hj ha h hw
theorem docs_shift {p j m : Nat} {ds : List Dc} (hs : ∀ j, p ≤ j → L'.drop (j + 1) = L.drop j) (hp : p ≤ j) (ht : ln'.text = ln.text) (h : docsL e L ln j = .inr (ds, m)) : ∃ ds', docsL e L' ln' (j + 1) = .inr (ds', m + 1) ∧ ds.map dk = ds'.map dk := by
  rw [docsL] at h ⊢
  rw [ht]
  split at h
  · rename_i hc
    rw [if_pos hc]
    split at h
    · cases h
    · exact docsW_shift hs _ j [] [] ds m hp rfl h
  · rename_i hc
    rw [if_neg hc]
    injection h with h
    injection h with h1 h2
    subst h1 h2
    exact ⟨[], rfl, rfl⟩
theorem docs_local {A B C : List Bs} {j m : Nat} {ds : List Dc} (h10 : ∀ x ∈ A ++ B, ∀ c ∈ x, c ≠ 10) (hj : j ≤ A.length) (ht : ln'.text = ln.text) (h : docsL e (A ++ B) ln j = .inr (ds, m)) (hw : ∀ d ∈ ds, ¬ inDoc A.length d) :
    m ≤ A.length ∧ ∃ ds', docsL e (A ++ C) ln' j = .inr (ds', m) ∧ ds.map dk = ds'.map dk := by
  rw [docsL] at h ⊢
  rw [ht]
  split at h
  · rename_i hc
    rw [if_pos hc]
    split at h
    · cases h
    · exact docsW_local h10 _ j [] [] ds m hj rfl h hw
  · rename_i hc
    rw [if_neg hc]
    injection h with h
    injection h with h1 h2
    subst h1 h2
    exact ⟨hj, [], rfl, rfl⟩
end
theorem main_pre {L : List Bs} : ∀ (r : List Bs) (k i : Nat) (acc ls : List Ln), mainL e L r k i acc = .inr ls → ∃ t, ls = acc ++ t
  | [], k, i, acc, ls, h => by
    rw [mainL] at h
    injection h with h
    exact ⟨[], by rw [← h, List.append_nil]⟩
  | _ :: r, k + 1, i, acc, ls, h => by rw [mainL] at h; exact main_pre r _ _ _ _ h
  | x :: r, 0, i, acc, ls, h => by
    rw [mainL] at h
    split at h
    · exact main_pre r _ _ _ _ h
    · split at h
      · exact main_pre r _ _ _ _ h
      · split at h
        · cases h
        · obtain ⟨t, ht⟩ := main_pre r _ _ _ _ h
          exact ⟨_, by rw [ht, List.append_assoc]⟩
section
variable {L L' : List Bs} {p : Nat}
/-- behind the line that is put in: all numbers one more. -/
theorem main_shift (hs : ∀ j, p ≤ j → L'.drop (j + 1) = L.drop j) (hl : L'.length = L.length + 1) : ∀ (m i : Nat) (acc acc' ls : List Ln), L.length - i ≤ m → p ≤ i → acc.map lk = acc'.map lk → mainL e L (L.drop i) 0 i acc = .inr ls → ∃ ls', mainL e L' (L'.drop (i + 1)) 0 (i + 1) acc' = .inr ls' ∧ ls.map lk = ls'.map lk := by
  intro m
  induction m with
  | zero =>
    intro i acc acc' ls hm _ ha h
    rw [main_end (by omega)] at h
    injection h with h
    subst h
    exact ⟨acc', main_end (by omega), ha⟩
  | succ m ih =>
    intro i acc acc' ls hm hp ha h
    rcases Nat.lt_or_ge i L.length with hi | hi
    · have hi' : i + 1 < L'.length := by omega
      have hd := hs i hp
      rw [List.drop_eq_getElem_cons hi, List.drop_eq_getElem_cons hi'] at hd
      injection hd with hx hr
      cases hn : nothingL L[i] with
      | true =>
        rw [main_nothing hi hn] at h
        rw [main_nothing hi' (by rw [hx]; exact hn)]
        exact ih (i + 1) acc acc' ls (by omega) (by omega) ha h
      | false =>
        obtain ⟨t, ht⟩ : ∃ t, joinL e L[i] (L.drop (i + 1)) i = t := ⟨_, rfl⟩
        obtain ⟨t', ht'⟩ : ∃ t, joinL e L[i] (L.drop (i + 1)) (i + 1) = t := ⟨_, rfl⟩
        have hsh := join_shift (e := e) L[i] (L.drop (i + 1)) i (i + 1)
        have hle := (joinL_le (e := e) L[i] (L.drop (i + 1)) i).1
        rw [ht, ht'] at hsh
        rw [ht] at hle
        obtain ⟨a, j⟩ := t
        obtain ⟨a', j'⟩ := t'
        simp only at hsh hle
        obtain ⟨h1, h2⟩ := hsh
        obtain rfl : j' = j + 1 := by omega
        have hj' : joinL e L'[i + 1] (L'.drop (i + 1 + 1)) (i + 1) = (a', j + 1) := by rw [hx, hr]; exact ht'
        have hn' : nothingL L'[i + 1] = false := by rw [hx]; exact hn
        cases he : empty a.1 with
        | true =>
          rw [main_empty hi hn ht he] at h
          rw [main_empty hi' hn' hj' (by rw [← h1]; exact he)]
          exact ih j acc acc' ls (by omega) (by omega) ha h
        | false =>
          cases hdd : docsL e L ⟨(i : Int) + 1, a.1, a.2, []⟩ j with
          | inl z => rw [main_err hi hn ht he hdd] at h; cases h
          | inr dm =>
            obtain ⟨ds, m2⟩ := dm
            have hm2 := (docsL_le hdd).1
            obtain ⟨ds', hd2, hds⟩ := docs_shift (ln' := ⟨((i + 1 : Nat) : Int) + 1, a'.1, a'.2, []⟩) hs (by omega) h1.symm hdd
            rw [main_line hi hn ht he hdd] at h
            rw [main_line hi' hn' hj' (by rw [← h1]; exact he) hd2]
            refine ih m2 _ _ ls (by omega) (by omega) ?_ h
            rw [List.map_append, List.map_append, ha]
            simp only [List.map_cons, List.map_nil, lk]
            rw [h1, hds]
    · rw [main_end hi] at h
      injection h with h
      subst h
      exact ⟨acc', main_end (by omega), ha⟩
end
/-- a line of nothing put in, ahead of no line of a document. -/
theorem main_ins {mo : Bs} (hmo : nothingL mo = true) {A B : List Bs} (h10 : ∀ x ∈ A ++ B, ∀ c ∈ x, c ≠ 10) : ∀ (m i : Nat) (acc acc' ls : List Ln), A.length - i ≤ m → i ≤ A.length → acc.map lk = acc'.map lk → mainL e (A ++ B) ((A ++ B).drop i) 0 i acc = .inr ls → (∀ l ∈ ls, ∀ d ∈ l.docs, ¬ inDoc A.length d) →
    ∃ ls', mainL e (A ++ mo :: B) ((A ++ mo :: B).drop i) 0 i acc' = .inr ls' ∧ ls.map lk = ls'.map lk := by
  have hs : ∀ j, A.length ≤ j → (A ++ mo :: B).drop (j + 1) = (A ++ B).drop j := fun j hj => by
    rw [List.drop_append, List.drop_append, List.drop_eq_nil_of_le (by omega : A.length ≤ j + 1), List.drop_eq_nil_of_le hj, List.nil_append, List.nil_append, show j + 1 - A.length = (j - A.length) + 1 by omega, List.drop_succ_cons]
  have hl : (A ++ mo :: B).length = (A ++ B).length + 1 := by simp; omega
  intro m
  induction m with
  | zero =>
    intro i acc acc' ls hm hi ha h _
    obtain rfl : i = A.length := by omega
    rw [main_nothing (L := A ++ mo :: B) (i := A.length) (by simp) (by simpa using hmo)]
    exact main_shift hs hl _ A.length acc acc' ls (Nat.le_refl _) (Nat.le_refl _) ha h
  | succ m ih =>
    intro i acc acc' ls hm hi ha h hw
    rcases Nat.lt_or_ge i A.length with hlt | hge
    · have hiL : i < (A ++ B).length := by rw [List.length_append]; omega
      have hiL' : i < (A ++ mo :: B).length := by rw [List.length_append]; omega
      have hx : (A ++ mo :: B)[i] = (A ++ B)[i] := by rw [List.getElem_append_left hlt, List.getElem_append_left hlt]
      have hr : (A ++ B).drop (i + 1) = A.drop (i + 1) ++ B := List.drop_append_of_le_length (by omega)
      have hr' : (A ++ mo :: B).drop (i + 1) = A.drop (i + 1) ++ mo :: B := List.drop_append_of_le_length (by omega)
      cases hn : nothingL (A ++ B)[i] with
      | true =>
        rw [main_nothing hiL hn] at h
        rw [main_nothing hiL' (by rw [hx]; exact hn)]
        exact ih (i + 1) acc acc' ls (by omega) (by omega) ha h hw
      | false =>
        have hins := join_ins (e := e) hmo (A.drop (i + 1)) B (A ++ B)[i] i
        rw [← hr, ← hr'] at hins
        have hlen : i + 1 + (A.drop (i + 1)).length = A.length := by rw [List.length_drop]; omega
        rw [hlen] at hins
        obtain ⟨t, ht⟩ : ∃ t, joinL e (A ++ B)[i] ((A ++ B).drop (i + 1)) i = t := ⟨_, rfl⟩
        obtain ⟨t', ht'⟩ : ∃ t, joinL e (A ++ B)[i] ((A ++ mo :: B).drop (i + 1)) i = t := ⟨_, rfl⟩
        have hle := (joinL_le (e := e) (A ++ B)[i] ((A ++ B).drop (i + 1)) i).1
        rw [ht, ht'] at hins
        rw [ht] at hle
        have hn' : nothingL (A ++ mo :: B)[i] = false := by rw [hx]; exact hn
        have hj' : joinL e (A ++ mo :: B)[i] ((A ++ mo :: B).drop (i + 1)) i = t' := by rw [hx]; exact ht'
        obtain ⟨a, j⟩ := t
        obtain ⟨a', j'⟩ := t'
        simp only at hins hle
        rcases hins with ⟨h1, h2⟩ | ⟨h1, h2, h3⟩
        · injection h2 with h2 h3
          subst h2 h3
          cases he : empty a'.1 with
          | true =>
            rw [main_empty hiL hn ht he] at h
            rw [main_empty hiL' hn' hj' he]
            exact ih j' acc acc' ls (by omega) h1 ha h hw
          | false =>
            cases hdd : docsL e (A ++ B) ⟨(i : Int) + 1, a'.1, a'.2, []⟩ j' with
            | inl z => rw [main_err hiL hn ht he hdd] at h; cases h
            | inr dm =>
              obtain ⟨ds, m2⟩ := dm
              have hm2 := (docsL_le hdd).1
              rw [main_line hiL hn ht he hdd] at h
              obtain ⟨q, hq⟩ := main_pre _ _ _ _ _ h
              obtain ⟨hm2A, ds', hd2, hds⟩ := docs_local (C := mo :: B) (ln' := ⟨(i : Int) + 1, a'.1, a'.2, []⟩) h10 h1 rfl hdd (fun d hd => hw ⟨(i : Int) + 1, a'.1, a'.2, ds⟩ (by rw [hq]; simp) d hd)
              rw [main_line hiL' hn' hj' he hd2]
              refine ih m2 _ _ ls (by omega) hm2A ?_ h hw
              rw [List.map_append, List.map_append, ha]
              simp only [List.map_cons, List.map_nil, lk]
              rw [hds]
        · subst h3
          cases he : empty a.1 with
          | true =>
            rw [main_empty hiL hn ht he] at h
            rw [main_empty hiL' hn' hj' (by rw [h2]; exact he)]
            exact main_shift hs hl _ j acc acc' ls (Nat.le_refl _) h1 ha h
          | false =>
            cases hdd : docsL e (A ++ B) ⟨(i : Int) + 1, a.1, a.2, []⟩ j with
            | inl z => rw [main_err hiL hn ht he hdd] at h; cases h
            | inr dm =>
              obtain ⟨ds, m2⟩ := dm
              have hm2 := (docsL_le hdd).1
              rw [main_line hiL hn ht he hdd] at h
              obtain ⟨ds', hd2, hds⟩ := docs_shift (ln' := ⟨(i : Int) + 1, a'.1, a'.2, []⟩) hs h1 h2 hdd
              rw [main_line hiL' hn' hj' (by rw [h2]; exact he) hd2]
              refine main_shift hs hl _ m2 _ _ ls (Nat.le_refl _) (by omega) ?_ h
              rw [List.map_append, List.map_append, ha]
              simp only [List.map_cons, List.map_nil, lk]
              rw [h2, hds]
    · obtain rfl : i = A.length := by omega
      rw [main_nothing (L := A ++ mo :: B) (i := A.length) (by simp) (by simpa using hmo)]
      exact main_shift hs hl _ A.length acc acc' ls (Nat.le_refl _) (Nat.le_refl _) ha h
end
/-- what a file's directives are, line by line. -/
theorem dirs_is {L : List Bs} {n : Nat} {e : UInt8} (h : dirsL L = .inr (n, e)) : (n = 0 ∧ e = 92 ∧ ∀ x, L[0]? = some x → dirP x = none) ∨ (n = 1 ∧ ∃ x r p, L = x :: r ∧ dirP x = some p ∧ dirV x p = [e] ∧ (e = 92 ∨ e = 96) ∧ ∀ y, r[0]? = some y → dirP y = none) := by
  cases L with
  | nil =>
    rw [dirsL] at h
    injection h with h
    injection h with h1 h2
    exact .inl ⟨h1.symm, h2.symm, fun x hx => by simp at hx⟩
  | cons x r =>
    rw [dirsL] at h
    cases hp : dirP x with
    | none =>
      rw [hp] at h
      injection h with h
      injection h with h1 h2
      exact .inl ⟨h1.symm, h2.symm, fun y hy => by
        simp at hy
        rw [← hy]; exact hp⟩
    | some p =>
      rw [hp] at h
      simp only at h
      split at h
      · rename_i c hv
        split at h
        · rename_i hc
          cases r with
          | nil =>
            injection h with h
            injection h with h1 h2
            subst h2
            exact .inr ⟨h1.symm, x, [], p, rfl, hp, hv, hc, fun y hy => by simp at hy⟩
          | cons y r =>
            simp only at h
            split at h
            · cases h
            · rename_i hy
              injection h with h
              injection h with h1 h2
              subst h2
              refine .inr ⟨h1.symm, x, y :: r, p, rfl, hp, hv, hc, fun z hz => ?_⟩
              simp at hz
              subst hz
              simpa using hy
        · cases h
      · cases h
theorem dirs_ins {A B : List Bs} {mo : Bs} {n : Nat} {e : UInt8} (hmo : dirP mo = none) (h : dirsL (A ++ B) = .inr (n, e)) (hn : n ≤ A.length) : dirsL (A ++ mo :: B) = .inr (n, e) := by
  rcases dirs_is h with ⟨rfl, rfl, h0⟩ | ⟨rfl, x, r, p, hx, hp, hv, hc, hr⟩
  · cases A with
    | nil => rw [List.nil_append, dirsL, hmo]
    | cons a A => rw [List.cons_append, dirsL, h0 a (by simp)]
  · cases A with
    | nil => simp at hn
    | cons a A =>
      rw [List.cons_append] at hx
      injection hx with h1 h2
      subst h1
      rw [List.cons_append, dirsL, hp]
      simp only
      rw [hv]
      simp only
      rw [if_pos hc]
      cases A with
      | nil => rw [List.nil_append]; simp only; rw [hmo]; simp
      | cons b A =>
        rw [List.cons_append]
        simp only
        have := hr b (by rw [← h2]; simp)
        rw [this]
        simp
theorem tot_app (a b : List Bs) : tot (a ++ b) = tot a + tot b := by simp [tot]
theorem fileOf_len : ∀ l : List Bs, (fileOf l).length = tot l + l.length
  | [] => rfl
  | x :: l => by rw [fileOf_cons, List.length_append, List.length_cons, fileOf_len l, tot_cons, List.length_cons]; omega
/-- what linesL says where it takes a file. -/
theorem lines_ok {s : Bs} {e : UInt8} {ls : List Ln} (h : linesL s = .inr (e, ls)) : V s 0 = true ∧ s.length ≤ 65536 ∧ (fileL s).length ≤ 4096 ∧ ∃ n, dirsL (fileL s) = .inr (n, e) ∧ mainL e (fileL s) ((fileL s).drop n) 0 n [] = .inr ls := by
  rcases Nat.lt_or_ge 65536 s.length with h1 | h1
  · rw [lines_many h1] at h; cases h
  · cases hw : wrongL s 0 0 1 0 with
    | some p => rw [lines_text (by omega) hw] at h; cases h
    | none =>
      rcases Nat.lt_or_ge 4096 (fileL s).length with hc | hc
      · rw [lines_count (by omega) hw hc] at h; cases h
      · cases hd : dirsL (fileL s) with
        | inl z => rw [lines_dirs (by omega) hw (by omega) hd] at h; cases h
        | inr ne =>
          obtain ⟨n, e2⟩ := ne
          rw [lines_main (by omega) hw (by omega) hd] at h
          cases hm : mainL e2 (fileL s) ((fileL s).drop n) 0 n [] with
          | inl z => rw [hm] at h; cases h
          | inr ls2 =>
            rw [hm] at h
            injection h with h
            injection h with h3 h4
            subst h3 h4
            exact ⟨(wrong_V s 0 0 1 0).1 hw, h1, hc, n, rfl, hm⟩
theorem remark_lines {s : Bs} {e : UInt8} {ls : List Ln} (h : linesL s = .inr (e, ls)) (hlen : s.length ≤ 60000) (hcnt : (fileL s).length ≤ 4000) {mo : Bs} (hmo : nothingL mo = true) (hmd : dirP mo = none) (hm10 : ∀ c ∈ mo, c ≠ 10) (hmcr : cr mo = mo) (hmV : V mo 0 = true) (hml : mo.length ≤ 10)
    {A B : List Bs} (hAB : fileL s = A ++ B) (hn : ∀ n, dirsL (fileL s) = .inr (n, e) → n ≤ A.length) (hw : ∀ l ∈ ls, ∀ d ∈ l.docs, ¬ inDoc A.length d) :
    ∃ ls', linesL (fileOf (A ++ mo :: B)) = .inr (e, ls') ∧ ls.map lk = ls'.map lk := by
  obtain ⟨hV, _, _, n, hd, hm⟩ := lines_ok h
  have hnA := hn n hd
  have h10 : ∀ x ∈ A ++ B, ∀ c ∈ x, c ≠ 10 := fun x hx => fileL_no10 (by rw [hAB]; exact hx)
  have hcr : ∀ x ∈ A ++ B, cr x = x := fun x hx => fileL_cr (by rw [hAB]; exact hx)
  have hVx : ∀ x ∈ A ++ B, V x 0 = true := fun x hx => V_file hV x (by rw [hAB]; exact hx)
  have hmem : ∀ {P : Bs → Prop}, (∀ x ∈ A ++ B, P x) → P mo → ∀ x ∈ A ++ mo :: B, P x := fun {P} h1 h2 x hx => by
    rcases List.mem_append.1 hx with hx | hx
    · exact h1 x (by simp [hx])
    · rcases List.mem_cons.1 hx with rfl | hx
      · exact h2
      · exact h1 x (by simp [hx])
  have hf : fileL (fileOf (A ++ mo :: B)) = A ++ mo :: B := by
    rw [file_fileOf _ (hmem h10 hm10)]
    conv => rhs; rw [← List.map_id (A ++ mo :: B)]
    exact List.map_congr_left (hmem hcr hmcr)
  have htot := tot_file s
  have hlen2 := congrArg List.length hAB
  rw [hAB, tot_app] at htot
  rw [List.length_append] at hlen2
  have hlen3 : (fileOf (A ++ mo :: B)).length ≤ 65536 := by
    rw [fileOf_len, tot_app, tot_cons, List.length_append, List.length_cons]
    omega
  have hw0 : wrongL (fileOf (A ++ mo :: B)) 0 0 1 0 = none := (wrong_V _ 0 0 1 0).2 (V_fileOf _ (hmem hVx hmV))
  rw [hAB] at hd hm
  have hd2 := dirs_ins hmd hd hnA
  obtain ⟨ls', hm2, hal⟩ := main_ins (e := e) hmo h10 _ n [] [] ls (Nat.le_refl _) hnA rfl hm hw
  refine ⟨ls', ?_, hal⟩
  rw [lines_main (by omega) hw0 (by rw [hf, List.length_append, List.length_cons]; omega) (by rw [hf]; exact hd2), hf, hm2]
end Lx
end Go.Proofs.YtpgnfianffjpnaaGreatDoor
