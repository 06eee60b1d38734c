/- Paths, plain: their pieces, names, the last slash, the whiteout. -/
import Derived.Test.YtfhfahlocpmdkaaDoorUsXa
namespace Go.Proofs.YtfhfahlocpmdkaaDoor.Us

/-- put ahead of the first piece. -/
def attach (a : List UInt8) : List (List UInt8) → List (List UInt8)
  | [] => [a]
  | p :: q => (a ++ p) :: q
/-- the pieces between the slashes, the empty ones too. -/
def pieces : List UInt8 → List (List UInt8)
  | [] => [[]]
  | c :: r => if c.toNat = 47 then [] :: pieces r else attach [c] (pieces r)
theorem pieces_ne : ∀ l : List UInt8, pieces l ≠ []
  | [] => by simp [pieces]
  | c :: r => by
    rw [pieces]
    split
    · simp
    · cases h : pieces r <;> simp [attach]
theorem attach_attach (a b : List UInt8) (l : List (List UInt8)) : attach a (attach b l) = attach (a ++ b) l := by
  cases l <;> simp [attach]
theorem attach_nil {l : List (List UInt8)} (h : l ≠ []) : attach [] l = l := by
  cases l with
  | nil => exact absurd rfl h
  | cons p q => rfl
def wh : List UInt8 := [46, 119, 104, 46]
def begins (s head : List UInt8) : Bool := s.take head.length == head
def nameBad (l : List UInt8) : Bool := l == [] || (decide (96 < l.length) || (l == [46] || (l == [46, 46] || (begins l wh || l.any fun c => c.toNat == 0 || c.toNat == 47))))
/-- the place of the last slash, the places counted from i on. -/
def lastAt : List UInt8 → Nat → Option Nat → Option Nat
  | [], _, o => o
  | c :: r, i, o => lastAt r (i + 1) (if c.toNat = 47 then some i else o)
def parent (p : List UInt8) : List UInt8 := match lastAt p 0 none with
  | none => []
  | some k => p.take k
def last (p : List UInt8) : List UInt8 := match lastAt p 0 none with
  | none => p
  | some k => p.drop (k + 1)
def join (d n : List UInt8) : List UInt8 := if d = [] then n else d ++ 47 :: n
def white (p : List UInt8) : List UInt8 := join (parent p) (wh ++ last p)
def checkN (p : List UInt8) : Nat :=
  if p = [] then 15 else if (pieces p).any nameBad then 8 else if 32 < (pieces p).length ∨ 255 < p.length then 9 else match split (white p) with
    | none => 9
    | some _ => 0
theorem lastAt_none : ∀ (l : List UInt8) (i : Nat), (∀ c ∈ l, c.toNat ≠ 47) → ∀ o, lastAt l i o = o
  | [], _, _, _ => rfl
  | c :: r, i, h, o => by
    rw [lastAt, if_neg (h c (List.mem_cons_self ..)), lastAt_none r (i + 1) fun d hd => h d (List.mem_cons_of_mem _ hd)]
/-- a text has no slash, or parts at its last one. -/
theorem lastAt_spec : ∀ (l : List UInt8) (i : Nat) (o : Option Nat), ((∀ c ∈ l, c.toNat ≠ 47) ∧ lastAt l i o = o) ∨ (∃ a b, l = a ++ 47 :: b ∧ (∀ c ∈ b, c.toNat ≠ 47) ∧ lastAt l i o = some (i + a.length))
  | [], _, _ => .inl ⟨by simp, rfl⟩
  | c :: r, i, o => by
    rw [lastAt]
    rcases lastAt_spec r (i + 1) (if c.toNat = 47 then some i else o) with ⟨h1, h2⟩ | ⟨a, b, h1, h2, h3⟩
    · by_cases hc : c.toNat = 47
      · refine .inr ⟨[], r, ?_, h1, by rw [h2, if_pos hc]; rfl⟩
        have : c = 47 := UInt8.toNat_inj.1 hc
        rw [this]; rfl
      · refine .inl ⟨fun d hd => ?_, by rw [h2, if_neg hc]⟩
        rw [List.mem_cons] at hd
        rcases hd with rfl | hd
        · exact hc
        · exact h1 d hd
    · refine .inr ⟨c :: a, b, by rw [h1]; rfl, h2, ?_⟩
      rw [h3, List.length_cons]
      congr 1
      omega
theorem parts (p : List UInt8) : ((∀ c ∈ p, c.toNat ≠ 47) ∧ parent p = [] ∧ last p = p) ∨ (∃ d l, p = d ++ 47 :: l ∧ (∀ c ∈ l, c.toNat ≠ 47) ∧ parent p = d ∧ last p = l) := by
  rcases lastAt_spec p 0 none with ⟨h1, h2⟩ | ⟨a, b, h1, h2, h3⟩
  · exact .inl ⟨h1, by rw [parent, h2], by rw [last, h2]⟩
  · refine .inr ⟨a, b, h1, h2, ?_, ?_⟩
    · rw [parent, h3, h1]; simp
    · rw [last, h3, h1]; simp
/-- no piece is bad: no byte 0. -/
theorem pieces_no0 : ∀ (p : List UInt8), (∀ l ∈ pieces p, ∀ c ∈ l, c.toNat ≠ 0) → ∀ c ∈ p, c.toNat ≠ 0
  | [], _, c, hc => by simp at hc
  | d :: r, h, c, hc => by
    rw [pieces] at h
    by_cases hd : d.toNat = 47
    · rw [if_pos hd] at h
      rw [List.mem_cons] at hc
      rcases hc with rfl | hc
      · omega
      · exact pieces_no0 r (fun l hl => h l (List.mem_cons_of_mem _ hl)) c hc
    · rw [if_neg hd] at h
      cases hp : pieces r with
      | nil => exact absurd hp (pieces_ne r)
      | cons a q =>
        rw [hp] at h
        simp only [attach, List.mem_cons, List.singleton_append] at h
        rw [List.mem_cons] at hc
        rcases hc with rfl | hc
        · exact h _ (.inl rfl) _ (List.mem_cons_self ..)
        · refine pieces_no0 r (fun l hl => ?_) c hc
          rw [hp, List.mem_cons] at hl
          rcases hl with rfl | hl
          · exact fun e he => h _ (.inl rfl) e (List.mem_cons_of_mem _ he)
          · exact h l (.inr hl)
theorem pieces_slash (r : List UInt8) {c : UInt8} (hc : c.toNat = 47) : [] ∈ pieces (c :: r) := by
  rw [pieces, if_pos hc]; exact List.mem_cons_self ..
theorem has0_iff (l : List UInt8) : has0 l = false ↔ ∀ c ∈ l, c.toNat ≠ 0 := by
  rw [has0, List.any_eq_false]
  simp
theorem nameBad_false {l : List UInt8} (h : nameBad l = false) : l ≠ [] ∧ ∀ c ∈ l, c.toNat ≠ 0 := by
  simp only [nameBad, Bool.or_eq_false_iff, List.any_eq_false, beq_eq_false_iff_ne] at h
  refine ⟨h.1, fun c hc h0 => ?_⟩
  have := h.2.2.2.2.2 c hc
  simp [h0] at this
/-- a slash in the window: the path is cut, at a place no later. -/
theorem slash_le : ∀ (l : List UInt8) (i k : Nat) (c : UInt8), l[k]? = some c → c.toNat = 47 → ∃ j, slash l i = some j ∧ i ≤ j ∧ j ≤ i + k
  | [], _, k, _, h, _ => by simp at h
  | d :: r, i, k, c, h, hc => by
    rw [slash]
    by_cases hd : d.toNat = 47
    · exact ⟨i, by rw [if_pos hd], by omega, by omega⟩
    · rw [if_neg hd]
      cases k with
      | zero =>
        simp at h
        subst h
        exact absurd hc hd
      | succ k =>
        obtain ⟨j, h1, h2, h3⟩ := slash_le r (i + 1) k c (by simpa using h) hc
        exact ⟨j, h1, by omega, by omega⟩
theorem split_of {p : List UInt8} {k : Nat} {c : UInt8} (hl : 100 < p.length) (hk : p[k]? = some c) (hc : c.toNat = 47) (h1 : p.length - 101 ≤ k) (h2 : k + 1 < p.length) (h3 : k ≤ 155) (h0 : ∀ d, p[0]? = some d → d.toNat ≠ 47) : ∃ q, split p = some q := by
  have hw : ((p.drop (p.length - 101)).take 100)[k - (p.length - 101)]? = some c := by
    rw [List.getElem?_take_of_lt (by omega), List.getElem?_drop, show p.length - 101 + (k - (p.length - 101)) = k by omega]
    exact hk
  obtain ⟨j, e, g1, g2⟩ := slash_le _ (p.length - 101) _ c hw hc
  obtain ⟨a, b, e1, e2, _⟩ := slash_spec _ _ _ e
  have hj : p[j]? = some 47 := by
    have q : ((p.drop (p.length - 101)).take 100)[a.length]? = some 47 := by rw [e1]; simp
    have hlen := congrArg List.length e1
    simp at hlen
    rw [List.getElem?_take_of_lt (by omega), List.getElem?_drop, ← e2] at q
    exact q
  have hj1 : 1 ≤ j := by
    rcases Nat.eq_zero_or_pos j with h | h
    · rw [h] at hj
      exact absurd rfl (h0 47 hj)
    · exact h
  rw [split, if_neg (by omega), e]
  exact ⟨_, if_pos ⟨hj1, by omega⟩⟩
theorem split_at {p pre name : List UInt8} (h : split p = some (pre, name)) (hp : 100 < p.length) : p[pre.length]? = some 47 ∧ p.length - 101 ≤ pre.length ∧ pre.length ≤ 155 := by
  obtain ⟨l1, l2, l3, _⟩ := split_long h hp
  obtain ⟨m1, m2, _⟩ := split_spec h
  have hlen := congrArg List.length l3
  simp at hlen
  exact ⟨by rw [l3]; simp, by omega, m2⟩
theorem pieces_tail : ∀ d : List UInt8, ∃ a q, pieces (d ++ [47]) = a :: q ∧ [] ∈ q
  | [] => ⟨[], [[]], rfl, List.mem_cons_self ..⟩
  | c :: d => by
    obtain ⟨a, q, h1, h2⟩ := pieces_tail d
    rw [List.cons_append, pieces, h1]
    by_cases hc : c.toNat = 47
    · rw [if_pos hc]; exact ⟨_, _, rfl, List.mem_cons_of_mem _ h2⟩
    · rw [if_neg hc]; exact ⟨_, _, rfl, h2⟩
/-- what a path that is taken is good for. -/
theorem check_good {p : List UInt8} (h : checkN p = 0) : has0 p = false ∧ (∃ q, split p = some q) ∧ has0 (white p) = false ∧ (∃ q, split (white p) = some q) := by
  rw [checkN] at h
  split at h
  · cases h
  rename_i hne
  split at h
  · cases h
  rename_i hbad
  split at h
  · cases h
  split at h
  · cases h
  rename_i q hq
  have hb : ∀ l ∈ pieces p, nameBad l = false := by
    intro l hl
    rcases hx : nameBad l with _ | _
    · rfl
    · exact absurd (List.any_eq_true.2 ⟨l, hl, hx⟩) hbad
  have hp0 : ∀ c ∈ p, c.toNat ≠ 0 := pieces_no0 p fun l hl => (nameBad_false (hb l hl)).2
  have hfirst : ∀ d, p[0]? = some d → d.toNat ≠ 47 := by
    intro d hd h47
    cases p with
    | nil => simp at hd
    | cons c r =>
      simp at hd
      subst hd
      exact (nameBad_false (hb [] (pieces_slash r h47))).1 rfl
  have hwh : ∀ c ∈ wh, c.toNat ≠ 0 := by decide
  have hwh47 : ∀ c ∈ wh, c.toNat ≠ 47 := by decide
  rcases parts p with ⟨h1, h2, h3⟩ | ⟨d, l, h1, h2, h3, h4⟩
  · have hw : white p = wh ++ p := by rw [white, h2, h3, join, if_pos rfl]
    refine ⟨(has0_iff p).2 hp0, ?_, ?_, ⟨q, hq⟩⟩
    · rcases Nat.lt_or_ge 100 p.length with g | g
      · exfalso
        rw [hw] at hq
        obtain ⟨q1, q2⟩ := q
        have := (split_at hq (by simp; omega)).1
        have hm := List.mem_of_getElem? this
        rw [List.mem_append] at hm
        rcases hm with hm | hm
        · exact hwh47 47 hm rfl
        · exact h1 47 hm rfl
      · exact ⟨_, by rw [split, if_pos g]⟩
    · rw [hw, has0_iff]
      intro c hc
      rw [List.mem_append] at hc
      rcases hc with hc | hc
      · exact hwh c hc
      · exact hp0 c hc
  · have hd : d ≠ [] := by
      rintro rfl
      exact hfirst 47 (by rw [h1]; rfl) rfl
    have hw : white p = d ++ 47 :: (wh ++ l) := by rw [white, h3, h4, join, if_neg hd]
    refine ⟨(has0_iff p).2 hp0, ?_, ?_, ⟨q, hq⟩⟩
    · rcases Nat.lt_or_ge 100 p.length with g | g
      · have hpl := congrArg List.length h1
        have hwl := congrArg List.length hw
        simp [wh] at hpl hwl
        obtain ⟨q1, q2⟩ := q
        obtain ⟨k1, k2, k3⟩ := split_at hq (by omega)
        have hl : l ≠ [] := by
          rintro rfl
          obtain ⟨a, z, z1, z2⟩ := pieces_tail d
          exact (nameBad_false (hb [] (by rw [h1, z1]; exact List.mem_cons_of_mem _ z2))).1 rfl
        have hll : 0 < l.length := by cases l with
          | nil => exact absurd rfl hl
          | cons => simp
        have hkd : q1.length ≤ d.length := by
          rcases Nat.lt_or_ge d.length q1.length with g2 | g2
          · exfalso
            rw [hw, List.getElem?_append_right (by omega)] at k1
            have hm := List.mem_of_getElem? (l := wh ++ l) (i := q1.length - d.length - 1) (a := 47) (by
              rw [← k1, show q1.length - d.length = (q1.length - d.length - 1) + 1 by omega, List.getElem?_cons_succ]
              simp)
            rw [List.mem_append] at hm
            rcases hm with hm | hm
            · exact hwh47 47 hm rfl
            · exact h2 47 hm rfl
          · exact g2
        have hpk : p[q1.length]? = some 47 := by
          rcases Nat.lt_or_ge q1.length d.length with g2 | g2
          · rw [hw, List.getElem?_append_left g2] at k1
            rw [h1, List.getElem?_append_left g2]
            exact k1
          · have : q1.length = d.length := by omega
            rw [this, h1]; simp
        exact split_of g hpk rfl (by omega) (by omega) k3 hfirst
      · exact ⟨_, by rw [split, if_pos g]⟩
    · rw [hw, has0_iff]
      intro c hc
      simp only [List.mem_append, List.mem_cons] at hc
      rcases hc with hc | rfl | hc | hc
      · exact hp0 c (by rw [h1]; exact List.mem_append.2 (.inl hc))
      · decide
      · exact hwh c hc
      · exact hp0 c (by rw [h1]; exact List.mem_append.2 (.inr (List.mem_cons_of_mem _ hc)))
end Go.Proofs.YtfhfahlocpmdkaaDoor.Us
