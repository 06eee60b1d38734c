/- A slice of structs among the arguments, opened: any element. -/
import Derived.Test.YtpgnfianffjpnaaGreatDoorLxT
import Derived.Deep.Slices
import Derived.Deep.Fields
namespace Go.Proofs.YtpgnfianffjpnaaGreatDoor
open Go Go.ChangeShapes Go.WideShapes Go.RowKit Go.Deep
theorem flat_get {α : Type} {f : α → List Value} {k : Nat} (hf : ∀ x, (f x).length = k) : ∀ (l : List α) (j : Nat) (u : Value), (l.flatMap f)[j]? = some u → ∃ (i q : Nat) (hi : i < l.length), q < k ∧ j = i * k + q ∧ (f l[i])[q]? = some u
  | [], j, u, h => by simp at h
  | x :: l, j, u, h => by
    rw [List.flatMap_cons] at h
    by_cases hj : j < k
    · rw [List.getElem?_append_left (by rw [hf]; exact hj)] at h
      exact ⟨0, j, by simp, hj, by omega, h⟩
    · rw [List.getElem?_append_right (by rw [hf]; omega), hf] at h
      obtain ⟨i, q, hi, hq, e, hu⟩ := flat_get hf l (j - k) u h
      refine ⟨i + 1, q, by simpa using hi, hq, ?_, by simpa using hu⟩
      rw [Nat.succ_mul]; omega
theorem open_rows {α : Type} [Inhabited α] {H : Type} {enc : TypeId × Value → H} {W : World} {S E : TypeId} (hS : Tryz.prog.underlying S = some (.slice E)) {k : Nat} (hC : Tryz.prog.cellsOf E = k) (hk : 0 < k) (f : α → List Value) (hlenf : ∀ x, (f x).length = k) (gd : α → DataW H)
    (hopen : ∀ {fuel : Nat} {cs : List Value} {y : DataW H × List MemPlace}, DataW.trod enc Tryz.prog W 0 (fun _ => true) true fuel E cs = some y → ∃ x : α, cs = f x ∧ y.1 = gd x)
    {a : Option Addr} {n c : Nat} {d : DataW H} {ps : List MemPlace} (h : DataW.Trod enc Tryz.prog W 0 (fun _ => true) true S (.slice a n c) d ps) :
    ∃ T : List α, n = T.length ∧ n ≤ c ∧ RdRow W (.slice a T.length c) T.length (T.flatMap f) ∧ ∃ L2, (n = 0 ∨ d = .slice (T.map gd) L2) := by
  obtain ⟨fuel, hf⟩ := h
  rcases open_slice hS hf with ⟨hcs, hx⟩ | ⟨a', len, cap, m, n', D, Pl, hcs, _, hl, hmx, hm, hx, hat⟩
  · simp [Value.cells] at hcs
    obtain ⟨rfl, rfl, rfl⟩ := hcs
    exact ⟨[], rfl, Nat.le_refl _, ⟨_, _, rfl, fun j u hu => by simp at hu⟩, [], .inl rfl⟩
  · simp [Value.cells] at hcs
    obtain ⟨rfl, rfl, rfl⟩ := hcs
    simp only [if_true] at hm
    subst hm
    rw [hC] at hat
    obtain ⟨X, hX⟩ : ∃ X : Nat → α, ∀ i, i < m → W.cells? 0 (a'.add (i * k)) k = some (f (X i)) ∧ D i = gd (X i) := choose_lt (α := α) (p := fun i x => W.cells? 0 (a'.add (i * k)) k = some (f x) ∧ D i = gd x) fun i hi => by
      obtain ⟨cs', h1, h2⟩ := hat i hi
      obtain ⟨x, rfl, h3⟩ := hopen h2
      exact ⟨x, h1, h3⟩
    have hd : d = .slice ((List.range n).map D) ((List.range (m - n)).map fun j => D (n + j)) := congrArg Prod.fst hx
    have hlen : ((List.range n).map X).length = n := by rw [List.length_map, List.length_range]
    have hT : ∀ (i : Nat) (hi : i < ((List.range n).map X).length), ((List.range n).map X)[i] = X i := fun i hi => by rw [List.getElem_map, List.getElem_range]
    refine ⟨(List.range n).map X, hlen.symm, hl, ⟨some a', m, rfl, fun j u hu => ?_⟩, (List.range (m - n)).map fun j => D (n + j), .inr ?_⟩
    · obtain ⟨i, q, hi, hq, rfl, hu2⟩ := flat_get hlenf _ j u hu
      rw [hT i hi] at hu2
      rw [hlen] at hi
      obtain ⟨_, _, c0⟩ := World.cells?_some (hX 0 (by omega)).1
      obtain ⟨_, _, ci⟩ := World.cells?_some (hX i (by omega)).1
      have q0 := c0 0 (by omega)
      have qi := ci q (by omega)
      rw [Nat.zero_mul, Deep.add_add, Nat.add_zero, show a'.add 0 = a' from rfl] at q0
      obtain ⟨g, o, sp⟩ := a'
      have hsp : sp = none := by
        cases sp with
        | none => rfl
        | some s =>
          have h3 : W.cell? ⟨g, o, some s⟩ = none := by
            unfold World.cell?
            split <;> rfl
          rw [h3] at q0
          exact absurd q0 (by rw [List.getElem?_eq_getElem (by rw [hlenf]; exact hk)]; simp)
      subst hsp
      rw [Deep.add_add, hu2] at qi
      have qa : (⟨g, o, none⟩ : Addr).add (i * k + q) = ⟨g, o + (i * k + q), none⟩ := by
        unfold Addr.add
        split
        · rename_i h0
          rw [h0, Nat.add_zero]
        · rfl
      rw [qa] at qi
      exact ⟨g, o, rfl, qi⟩
    · have e : (List.range n).map D = ((List.range n).map X).map gd := by
        rw [List.map_map]
        exact List.map_congr_left fun i hi => (hX i (by have := List.mem_range.1 hi; omega)).2
      rw [← e]
      exact hd
end Go.Proofs.YtpgnfianffjpnaaGreatDoor
