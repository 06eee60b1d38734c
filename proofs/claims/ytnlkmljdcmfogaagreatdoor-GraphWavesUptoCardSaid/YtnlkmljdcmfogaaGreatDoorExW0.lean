/- expand's read: its loop's relation; a step more. -/
import Derived.Test.YtnlkmljdcmfogaaGreatDoorExT20
import Derived.Test.YtnlkmljdcmfogaaGreatDoorExV
namespace Go.Proofs.YtnlkmljdcmfogaaGreatDoor
open Go Go.RowKit
theorem chunk_self (s : List UInt8) (p : Nat) : chunk s p p = [] := by unfold chunk; rw [Nat.sub_self, List.take_zero]
theorem chunk_snoc {s : List UInt8} {q p : Nat} {c : UInt8} (hq : q ≤ p) (hc : s[p]? = some c) : chunk s q (p + 1) = chunk s q p ++ [c] := by
  unfold chunk
  rw [show p + 1 - q = (p - q) + 1 by omega, List.take_add_one, List.getElem?_drop, show q + (p - q) = p by omega, hc]
  rfl
theorem drop_at {s : List UInt8} {p : Nat} {c : UInt8} (hc : s[p]? = some c) : s.drop p = c :: s.drop (p + 1) := by
  obtain ⟨h, e⟩ := List.getElem?_eq_some_iff.1 hc
  rw [List.drop_eq_getElem_cons h, e]
namespace Ex
section
variable {s : List UInt8} {e c d : UInt8} {k : Kd} {p q : Nat} {ts : List Tk} {X : R}
theorem go_byte (hq : q ≤ p) (hc : s[p]? = some c) (hR : readL e k (s.drop p) = adds [.b c] (readL e k (s.drop (p + 1)))) (H : adds (ts ++ (chunk s q p).map .b) (readL e k (s.drop p)) = X) : adds (ts ++ (chunk s q (p + 1)).map .b) (readL e k (s.drop (p + 1))) = X := by
  rw [← H, hR, adds_adds, chunk_snoc hq hc, List.map_append, List.append_assoc]
  rfl
theorem go_esc (hd : s[p + 1]? = some d) (hR : readL e k (s.drop p) = adds [.b d] (readL e k (s.drop (p + 2)))) (H : adds (ts ++ (chunk s q p).map .b) (readL e k (s.drop p)) = X) : adds (ts ++ (chunk s q p).map .b ++ (chunk s (p + 1) (p + 2)).map .b) (readL e k (s.drop (p + 2))) = X := by
  rw [← H, hR, adds_adds, show p + 2 = (p + 1) + 1 from rfl, chunk_snoc (Nat.le_refl _) hd, chunk_self]
  rfl
theorem go_tok {t : List Tk} {p' : Nat} (hR : readL e k (s.drop p) = adds t (readL e k (s.drop p'))) (H : adds (ts ++ (chunk s q p).map .b) (readL e k (s.drop p)) = X) : adds (ts ++ (chunk s q p).map .b ++ t ++ (chunk s p' p').map .b) (readL e k (s.drop p')) = X := by
  rw [← H, hR, adds_adds, chunk_self, List.map_nil, List.append_nil]
theorem go_bad {z : Nat} (hR : readL e k (s.drop p) = .inl z) (H : adds (ts ++ (chunk s q p).map .b) (readL e k (s.drop p)) = X) : X = .inl z := by
  rw [← H, hR]; rfl
theorem go_fin {r : List UInt8} (hR : readL e k (s.drop p) = .inr ([], r)) (H : adds (ts ++ (chunk s q p).map .b) (readL e k (s.drop p)) = X) : X = .inr (ts ++ (chunk s q p).map .b, r) := by
  rw [← H, hR]
  show Sum.inr (ts ++ (chunk s q p).map .b ++ [], r) = _
  rw [List.append_nil]
theorem vR_suf {r r' : List UInt8} {t : List Tk} (h : vR e r = .inr (t, r')) : r' <:+ r := by
  unfold vR at h
  cases hv : vstL r with
  | bad => rw [hv] at h; cases h
  | flat t2 r2 =>
    rw [hv] at h
    injection h with h
    injection h with h1 h2
    subst h2
    exact vst_suf.1 _ _ hv
  | deep n op r2 =>
    rw [hv] at h
    simp only at h
    cases hb : readL e .braces r2 with
    | inl z => rw [hb] at h; cases h
    | inr pr =>
      obtain ⟨l, r3⟩ := pr
      rw [hb] at h
      injection h with h
      injection h with h1 h2
      subst h2
      exact (readL_suf hb).trans (vst_suf.2 _ _ _ hv)
theorem vR_err {r : List UInt8} {z : Nat} (h : vR e r = .inl z) : z = 4 ∨ z = 18 := by
  unfold vR at h
  cases hv : vstL r with
  | bad => rw [hv] at h; injection h with h; omega
  | flat t2 r2 => rw [hv] at h; cases h
  | deep n op r2 =>
    rw [hv] at h
    simp only at h
    cases hb : readL e .braces r2 with
    | inl z2 =>
      rw [hb] at h
      injection h with h
      subst h
      exact readL_err hb
    | inr pr => rw [hb] at h; cases h
theorem while_no {l : List UInt8} (h : ∀ c ∈ l, c ≠ 39) : l.contains 39 = false := by
  rw [Bool.eq_false_iff]
  intro h2
  exact h 39 (by simpa using h2) rfl
theorem while_cut : ∀ (x y : List UInt8), (∀ c ∈ x, c ≠ 39) → (x ++ 39 :: y).contains 39 = true ∧ (x ++ 39 :: y).takeWhile (· != 39) = x ∧ ((x ++ 39 :: y).dropWhile (· != 39)).drop 1 = y
  | [], y, _ => ⟨by simp, rfl, rfl⟩
  | c :: x, y, h => by
    obtain ⟨h1, h2, h3⟩ := while_cut x y fun d hd => h d (by simp [hd])
    have hc : (c != 39) = true := by rw [bne_iff_ne]; exact h c (by simp)
    rw [List.cons_append, List.takeWhile_cons_of_pos (by simpa using hc), List.dropWhile_cons_of_pos (by simpa using hc), h2]
    exact ⟨by rw [List.contains_cons, h1, Bool.or_true], rfl, h3⟩
theorem read_q1_no {r : List UInt8} (h0 : (39 : UInt8) ≠ e) (hq : quotes k = true) (h : ∀ c ∈ r, c ≠ 39) : readL e k (39 :: r) = .inl 18 := by
  rw [read_single h0 hq, while_no h]
  rfl
theorem read_q1 {x y : List UInt8} (h0 : (39 : UInt8) ≠ e) (hq : quotes k = true) (h : ∀ c ∈ x, c ≠ 39) : readL e k (39 :: (x ++ 39 :: y)) = adds (x.map .b) (readL e k y) := by
  obtain ⟨h1, h2, h3⟩ := while_cut x y h
  rw [read_single h0 hq, h1, h2, h3]
  rfl
end
end Ex
theorem PV.one_cell {w : World} {X : Nat → Prop} {d : Nat} {ts : List Ex.Tk} {v : Value} (h : PV w X d ts v) : v.oneCell' = true := by
  cases d with
  | zero => obtain ⟨s, _, _, rfl⟩ := h; rfl
  | succ d =>
    rcases h with ⟨s, _, _, rfl⟩ | ⟨n, op, l, A, m, c, xs, _, _, rfl, _⟩
    · rfl
    · rfl
theorem PV.iface {w : World} {X : Nat → Prop} {d : Nat} {ts : List Ex.Tk} {v : Value} (h : PV w X d ts v) : ∃ T u, v = .iface T u := by
  cases d with
  | zero => obtain ⟨s, _, _, rfl⟩ := h; exact ⟨_, _, rfl⟩
  | succ d =>
    rcases h with ⟨s, _, _, rfl⟩ | ⟨n, op, l, A, m, c, xs, _, _, rfl, _⟩
    · exact ⟨_, _, rfl⟩
    · exact ⟨_, _, rfl⟩
theorem PVs.one_cell {w : World} {X : Nat → Prop} {d : Nat} : ∀ {xs : List Value} {ts : List Ex.Tk}, PVs (PV w X d) ts xs → ∀ u ∈ xs, u.oneCell' = true
  | [], _, _, _, h => absurd h (by simp)
  | _ :: _, _, ⟨_, _, _, k1, k2⟩, u, h => by
    rcases List.mem_cons.1 h with rfl | h
    · exact k1.one_cell
    · exact PVs.one_cell k2 u h
theorem PL.one_cell {w : World} {X : Nat → Prop} {ts : List Ex.Tk} {xs : List Value} (h : PL w X ts xs) : ∀ u ∈ xs, u.oneCell' = true := by
  obtain ⟨d, h⟩ := h
  exact h.one_cell
theorem suf_drop' {s : List UInt8} {p : Nat} {r : List UInt8} (h : r <:+ s.drop p) : r = s.drop (s.length - r.length) := Ex.suf_drop h
/-- the loop of read. -/
def RL (w : World) (R : Nat) (s : List UInt8) (e : UInt8) (k : Ex.Kd) (p0 : Nat) (X : Ex.R) (gk : Nat) (wx : World) : Prop :=
  ∃ p q v xs ts, RS wx R w.heap.size s e p q v xs ts ∧ p0 ≤ q ∧ q ≤ p ∧ p ≤ s.length ∧ s.length - p < gk ∧ xs.length + p0 ≤ q ∧ Fx (fun b => b = R) w wx ∧ Hid (Ex.adds (ts ++ (chunk s q p).map .b) (Ex.readL e k (s.drop p)) = X)
theorem Fx.low {S : Nat → Prop} {w w1 w2 : World} {B : Nat} (h : Fx S w w1) (k : Below B w1 w2) (hB : w.heap.size ≤ B) : Fx S w w2 :=
  h.then (Fx.of_below k) (fun b hb hh => by omega)
theorem Fx.lowSet {S : Nat → Prop} {w w1 : World} (h : Fx S w w1) (b o : Nat) (v : Value) (hB : w.heap.size ≤ b) : Fx S w (w1.setCell ⟨b, o, none⟩ v) :=
  h.then (Fx.set_ w1 ⟨b, o, none⟩ v) (fun c hc hh => by have h2 : c = b := hh; omega)
theorem own_lower {w : World} {base base' n k : Nat} {e : TypeId} {v : Value} {xs : List Value} (h : w.ownsRow base e k v n xs) (hb : base' ≤ base) : w.ownsRow base' e k v n xs := by
  refine ⟨h.1, ?_⟩
  rcases h.2 with h1 | ⟨g, cap, cur, e1, h2, h3⟩
  · exact .inl h1
  · exact .inr ⟨g, cap, cur, e1, Nat.le_trans hb h2, h3⟩
/-- read's answer, out of its state. -/
theorem RS.done {w wx : World} {R : Nat} {s : List UInt8} {e : UInt8} {p0 p q : Nat} {v : Value} {xs : List Value} {ts : List Ex.Tk} {t : List UInt8} (H : RS wx R w.heap.size s e p q v xs ts) (hk : Fx (fun b => b = R) w wx) (ht : t.length + p = s.length) (hx : xs.length + p0 ≤ p) :
    RdOk w R s e p0 ts t (.returned (.tuple #[v, .nilIface])) wx := by
  refine ⟨v, xs, rfl, own_lower H.own (by omega), H.pl.fx (S := fun _ => False) (Fx.refl) (fun b _ h => h.elim False.elim fun h => .inl (by have h2 : b < w.heap.size := h; omega)), ?_, by omega, hk⟩
  rw [show s.length - t.length = p by omega]
  exact H.rd
end Go.Proofs.YtnlkmljdcmfogaaGreatDoor
