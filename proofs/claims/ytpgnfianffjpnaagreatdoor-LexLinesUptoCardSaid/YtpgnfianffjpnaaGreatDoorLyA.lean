/- Texts of characters, plain: cut at a character's beginning and put together again; lines. -/
import Derived.Test.YtpgnfianffjpnaaGreatDoorLxX
import Derived.Test.YtpgnfianffjpnaaGreatDoorLrH
namespace Go.Proofs.YtpgnfianffjpnaaGreatDoor
open Go Go.RowKit
namespace Lx
/-- a text of characters, k bytes of one still to come. -/
def V : Bs → Nat → Bool
  | [], _ => true
  | _ :: r, k + 1 => V r k
  | c :: r, 0 => match charLen (c :: r) with
    | 0 => false
    | n + 1 => V r n
theorem wrong_V : ∀ (l : Bs) (k i line f : Nat), wrongL l k i line f = none ↔ V l k = true
  | [], k, i, line, f => by rw [wrongL, V]; simp
  | _ :: r, k + 1, i, line, f => by rw [wrongL, V]; exact wrong_V r k _ _ _
  | c :: r, 0, i, line, f => by
    rw [wrongL, V]
    cases charLen (c :: r) with
    | zero => simp
    | succ n => exact wrong_V r n _ _ _
theorem V_skip : ∀ (k : Nat) (l : Bs), V l k = V (l.drop k) 0
  | 0, l => by rw [List.drop_zero]
  | k + 1, [] => by rw [List.drop_nil, V, V]
  | k + 1, c :: r => by rw [V, List.drop_succ_cons, V_skip k r]
theorem charN_move {n n' b0 b1 b2 b3 c1 c2 c3 m : Nat} (h : charN n b0 b1 b2 b3 = m + 1) (hn : m + 1 ≤ n') (h1 : 1 ≤ m → b1 = c1) (h2 : 2 ≤ m → b2 = c2) (h3 : 3 ≤ m → b3 = c3) : charN n' b0 c1 c2 c3 = m + 1 := by
  unfold charN at h ⊢
  split at h
  · rename_i g0; rw [if_pos g0]; exact h
  · rename_i g0
    rw [if_neg g0]
    split at h
    · rename_i g1
      rw [if_pos g1]
      split at h
      · rename_i g2
        obtain rfl : m = 1 := by omega
        obtain rfl := h1 (by omega)
        rw [if_pos ⟨by omega, g2.2⟩]
      · cases h
    · rename_i g1
      rw [if_neg g1]
      split at h
      · rename_i g2
        rw [if_pos g2]
        generalize (if b0 = 224 then 160 else 128) = lo at h ⊢
        generalize (if b0 = 237 then 159 else 191) = hi at h ⊢
        split at h
        · rename_i g3
          obtain rfl : m = 2 := by omega
          obtain rfl := h1 (by omega)
          obtain rfl := h2 (by omega)
          rw [if_pos ⟨by omega, g3.2⟩]
        · cases h
      · rename_i g2
        rw [if_neg g2]
        split at h
        · rename_i g3
          rw [if_pos g3]
          generalize (if b0 = 240 then 144 else 128) = lo at h ⊢
          generalize (if b0 = 244 then 143 else 191) = hi at h ⊢
          split at h
          · rename_i g4
            obtain rfl : m = 3 := by omega
            obtain rfl := h1 (by omega)
            obtain rfl := h2 (by omega)
            obtain rfl := h3 (by omega)
            rw [if_pos ⟨by omega, g4.2⟩]
          · cases h
        · cases h
theorem charN_cont {n b0 b1 b2 b3 m : Nat} (h : charN n b0 b1 b2 b3 = m + 1) : m ≤ 3 ∧ (1 ≤ m → 128 ≤ b1 ∧ b1 ≤ 191) ∧ (2 ≤ m → 128 ≤ b2 ∧ b2 ≤ 191) ∧ (3 ≤ m → 128 ≤ b3 ∧ b3 ≤ 191) := by
  unfold charN at h
  repeat' split at h
  all_goals omega
def begins (b : UInt8) : Bool := b.toNat < 128 || 192 ≤ b.toNat
theorem charLen_len {l : Bs} {n : Nat} (h : charLen l = n + 1) (hl : l ≠ []) : n + 1 ≤ l.length := by
  have h1 : 1 ≤ l.length := by cases l with
    | nil => exact absurd rfl hl
    | cons a l => simp
  have := charN_le l.length (l.getD 0 0).toNat (l.getD 1 0).toNat (l.getD 2 0).toNat (l.getD 3 0).toNat h1
  unfold charLen at h
  omega
/-- what stands behind a character does not change it. -/
theorem charLen_app {a b : Bs} {n : Nat} (h : charLen a = n + 1) (ha : a ≠ []) : charLen (a ++ b) = n + 1 := by
  have hl := charLen_len h ha
  have g : ∀ i, i < a.length → (a ++ b).getD i 0 = a.getD i 0 := fun i hi => by simp [List.getD, List.getElem?_append_left hi]
  unfold charLen at h ⊢
  rw [g 0 (by omega)]
  exact charN_move h (by rw [List.length_append]; omega) (fun hm => by rw [g 1 (by omega)]) (fun hm => by rw [g 2 (by omega)]) (fun hm => by rw [g 3 (by omega)])
theorem charLen_cut {a b : Bs} {n : Nat} (h : charLen (a ++ b) = n + 1) (ha : a ≠ []) (hb : ∀ c, b.head? = some c → begins c = true) : charLen a = n + 1 := by
  have h1 : 1 ≤ a.length := by cases a with
    | nil => exact absurd rfl ha
    | cons x a => simp
  have g : ∀ i, i < a.length → (a ++ b).getD i 0 = a.getD i 0 := fun i hi => by simp [List.getD, List.getElem?_append_left hi]
  have hlen := charLen_len h (by simp [ha])
  have hc := charN_cont (show charN _ _ _ _ _ = n + 1 from h)
  have hn : n + 1 ≤ a.length := by
    rcases Nat.lt_or_ge n a.length with h2 | h2
    · exact h2
    · exfalso
      cases b with
      | nil => rw [List.append_nil] at hlen; omega
      | cons c b =>
        have e := hb c rfl
        have e2 : (a ++ c :: b).getD a.length 0 = c := by simp [List.getD]
        unfold begins at e
        have e3 : c.toNat < 128 ∨ 192 ≤ c.toNat := by simpa using e
        have hla : a.length = 1 ∨ a.length = 2 ∨ a.length = 3 := by omega
        rcases hla with q | q | q <;> rw [q] at e2
        · have := hc.2.1 (by omega); rw [e2] at this; omega
        · have := hc.2.2.1 (by omega); rw [e2] at this; omega
        · have := hc.2.2.2 (by omega); rw [e2] at this; omega
  unfold charLen at h ⊢
  rw [g 0 (by omega)] at h
  exact charN_move h hn (fun hm => by rw [g 1 (by omega)]) (fun hm => by rw [g 2 (by omega)]) (fun hm => by rw [g 3 (by omega)])
theorem V_cons {c : UInt8} {r : Bs} : V (c :: r) 0 = true ↔ ∃ n, charLen (c :: r) = n + 1 ∧ V (r.drop n) 0 = true := by
  rw [V]
  cases h : charLen (c :: r) with
  | zero => simp
  | succ n => simp only [Nat.add_right_cancel_iff]; rw [V_skip]; simp
theorem V_app (b : Bs) (hb : V b 0 = true) : ∀ (m : Nat) (a : Bs), a.length ≤ m → V a 0 = true → V (a ++ b) 0 = true
  | _, [], _, _ => by rw [List.nil_append]; exact hb
  | 0, c :: a, hm, _ => by simp at hm
  | m + 1, c :: a, hm, h => by
    obtain ⟨n, h1, h2⟩ := V_cons.1 h
    have hl := charLen_len h1 (by simp)
    rw [List.length_cons] at hl hm
    rw [List.cons_append]
    refine V_cons.2 ⟨n, ?_, ?_⟩
    · rw [← List.cons_append]; exact charLen_app h1 (by simp)
    · rw [List.drop_append_of_le_length (by omega)]
      exact V_app b hb m _ (by rw [List.length_drop]; omega) h2
theorem V_cut (b : Bs) (hb : ∀ c, b.head? = some c → begins c = true) : ∀ (m : Nat) (a : Bs), a.length ≤ m → V (a ++ b) 0 = true → V a 0 = true ∧ V b 0 = true
  | _, [], _, h => ⟨by rw [V], by simpa using h⟩
  | 0, c :: a, hm, _ => by simp at hm
  | m + 1, c :: a, hm, h => by
    rw [List.cons_append] at h
    obtain ⟨n, h1, h2⟩ := V_cons.1 h
    rw [← List.cons_append] at h1
    have h3 := charLen_cut h1 (by simp) hb
    have hl := charLen_len h3 (by simp)
    rw [List.length_cons] at hl hm
    rw [List.drop_append_of_le_length (by omega)] at h2
    obtain ⟨q1, q2⟩ := V_cut b hb m _ (by rw [List.length_drop]; omega) h2
    exact ⟨V_cons.2 ⟨n, h3, q1⟩, q2⟩
theorem V_join {a b : Bs} (ha : V a 0 = true) (hb : V b 0 = true) : V (a ++ b) 0 = true := V_app b hb a.length a (Nat.le_refl _) ha
theorem V_part {a b : Bs} (h : V (a ++ b) 0 = true) (hb : ∀ c, b.head? = some c → begins c = true) : V a 0 = true ∧ V b 0 = true := V_cut b hb a.length a (Nat.le_refl _) h
theorem charLen_low {c : UInt8} {r : Bs} (h : c.toNat < 128) : charLen (c :: r) = 1 := by
  unfold charLen charN
  rw [if_pos]
  exact h
theorem V_low {c : UInt8} {r : Bs} (h : c.toNat < 128) : V (c :: r) 0 = V r 0 := by
  rw [V, charLen_low h]
theorem V_ascii : ∀ (a : Bs), (∀ c ∈ a, c.toNat < 128) → V a 0 = true
  | [], _ => by rw [V]
  | c :: a, h => by rw [V_low (h c (by simp))]; exact V_ascii a fun x hx => h x (by simp [hx])
theorem begins_low {c : UInt8} (h : c.toNat < 128) : begins c = true := by unfold begins; simp [h]
/-- the trailing returns. -/
theorem cr_split (x : Bs) : ∃ b, x = cr x ++ b ∧ ∀ c ∈ b, c = 13 := by
  refine ⟨(x.reverse.takeWhile ([13].contains ·)).reverse, ?_, fun c hc => ?_⟩
  · unfold cr Lib.trimRightS
    rw [← List.reverse_append, List.takeWhile_append_dropWhile, List.reverse_reverse]
  · have := List.all_eq_true.1 (List.all_takeWhile (p := ([13].contains ·))) c (List.mem_reverse.1 hc)
    simpa using this
theorem cr_app (x : Bs) {b : Bs} (h : ∀ c ∈ b, c = 13) : cr (x ++ b) = cr x := by
  unfold cr Lib.trimRightS
  rw [List.reverse_append, List.dropWhile_append_of_pos (fun c hc => by have := h c (List.mem_reverse.1 hc); simp [this])]
theorem cr_cr (x : Bs) : cr (cr x) = cr x := by
  obtain ⟨b, hb, hbb⟩ := cr_split x
  have := cr_app (cr x) hbb
  rw [← hb] at this
  exact this.symm
theorem cr_id {x : Bs} (h : ∀ c, x.getLast? = some c → c ≠ 13) : cr x = x := by
  rcases List.eq_nil_or_concat x with rfl | ⟨y, c, rfl⟩
  · rfl
  · rw [List.concat_eq_append] at h ⊢
    exact cr_no y (h c (by simp))
theorem V_cr {x : Bs} (h : V x 0 = true) : V (cr x) 0 = true := by
  obtain ⟨b, hb, hbb⟩ := cr_split x
  rw [hb] at h
  exact (V_part h fun c hc => by
    have := hbb c (List.mem_of_mem_head? hc)
    subst this
    rfl).1
theorem V_cutL : ∀ (m : Nat) (s : Bs), s.length ≤ m → V s 0 = true → ∀ x ∈ Gl.cutL 10 s, V x 0 = true := by
  intro m
  induction m with
  | zero =>
    intro s hs _ x hx
    have : s = [] := List.eq_nil_of_length_eq_zero (by omega)
    subst this
    simp [Gl.cutL] at hx
    subst hx
    rw [V]
  | succ m ih =>
    intro s hs h x hx
    rcases Gl.index_byte 10 s with ⟨_, h2⟩ | ⟨a, r, h1, h2, _⟩
    · rw [Gl.cutL_no 10 s h2, List.mem_singleton] at hx
      rw [hx]; exact h
    · rw [h1, Gl.cutL_cut 10 a r h2] at hx
      rw [h1] at h
      obtain ⟨q1, q2⟩ := V_part h fun c hc => by injection hc with hc; subst hc; rfl
      rw [V_low (by decide)] at q2
      rcases List.mem_cons.1 hx with rfl | hx
      · exact q1
      · have hl := congrArg List.length h1
        rw [List.length_append, List.length_cons] at hl
        exact ih r (by omega) q2 x hx
theorem V_file {s : Bs} (h : V s 0 = true) : ∀ x ∈ fileL s, V x 0 = true := fun x hx => by
  obtain ⟨y, hy, rfl⟩ := List.mem_map.1 hx
  exact V_cr (V_cutL s.length s (Nat.le_refl _) h y (dropE_sub hy))
/-- lines, each with a byte 0A behind it. -/
def fileOf (l : List Bs) : Bs := l.flatMap fun x => x ++ [10]
theorem fileOf_cons (x : Bs) (l : List Bs) : fileOf (x :: l) = x ++ 10 :: fileOf l := by simp [fileOf]
theorem V_fileOf : ∀ (l : List Bs), (∀ x ∈ l, V x 0 = true) → V (fileOf l) 0 = true
  | [], _ => by rw [show fileOf [] = [] from rfl, V]
  | x :: l, h => by
    rw [fileOf_cons]
    refine V_join (h x (by simp)) ?_
    rw [V_low (by decide)]
    exact V_fileOf l fun y hy => h y (by simp [hy])
theorem file_fileOf : ∀ (l : List Bs), (∀ x ∈ l, ∀ c ∈ x, c ≠ 10) → fileL (fileOf l) = l.map cr
  | [], _ => rfl
  | x :: l, h => by rw [fileOf_cons, fileL_cut x _ (h x (by simp)), file_fileOf l fun y hy => h y (by simp [hy]), List.map_cons]
theorem cutL_no10 (k : UInt8) : ∀ (s x : Bs), x ∈ Gl.cutL k s → ∀ c ∈ x, c ≠ k
  | [], x, h, c, hc => by simp [Gl.cutL] at h; rw [h] at hc; cases hc
  | d :: r, x, h, c, hc => by
    have ih := cutL_no10 k r
    rw [Gl.cutL] at h
    rw [Gl.cutL_ne k r] at ih
    split at h
    · rcases List.mem_cons.1 h with rfl | h
      · cases hc
      · rw [Gl.cutL_ne k r] at h; exact ih x h c hc
    · rename_i hd
      rcases List.mem_cons.1 h with rfl | h
      · rcases List.mem_cons.1 hc with rfl | hc
        · exact hd
        · exact ih _ (List.mem_cons_self ..) c hc
      · exact ih x (List.mem_cons_of_mem _ h) c hc
theorem fileL_no10 {s x : Bs} (h : x ∈ fileL s) : ∀ c ∈ x, c ≠ 10 := by
  obtain ⟨y, hy, rfl⟩ := List.mem_map.1 h
  intro c hc
  obtain ⟨b, hb, _⟩ := cr_split y
  exact cutL_no10 10 s y (dropE_sub hy) c (by rw [hb]; simp [hc])
theorem fileL_cr {s x : Bs} (h : x ∈ fileL s) : cr x = x := by
  obtain ⟨y, hy, rfl⟩ := List.mem_map.1 h
  exact cr_cr y
end Lx
end Go.Proofs.YtpgnfianffjpnaaGreatDoor
