/- The first entries of a list in memory. -/
import Derived.Test.YtdjfakampjbgeaaGreatDoorMI
namespace Go.Proofs.YtdjfakampjbgeaaGreatDoor
open Go Go.RowKit

theorem enCs_take (es : List En) (k : Nat) : enCs (es.take k) = (enCs es).take (k * 5) := by
  induction es generalizing k with
  | nil => simp [enCs]
  | cons x es ih =>
    cases k with
    | zero => simp [enCs]
    | succ k =>
      have e : enCs (x :: es) = enL x ++ enCs es := rfl
      have e2 : enCs ((x :: es).take (k + 1)) = enL x ++ enCs (es.take k) := rfl
      have hl : (enL x).length = 5 := rfl
      have h5 : (k + 1) * 5 = (enL x).length + k * 5 := by rw [hl]; omega
      rw [e, e2, ih, h5, List.take_length_add_append]
theorem RE.take {w : World} {S : Nat → Prop} {A : Option Addr} {n c : Nat} {es : List En} (h : RC w S (.slice A n c) n (enCs es)) (k m : Nat) : RC w S (.slice A m c) m (enCs (es.take k)) := by
  obtain ⟨A', c', e, hc⟩ := h
  injection e with e1 e2 e3
  subst e1 e3
  refine ⟨A, c, rfl, fun j u hu => hc j u ?_⟩
  rw [enCs_take, List.getElem?_take] at hu
  split at hu
  · exact hu
  · cases hu
end Go.Proofs.YtdjfakampjbgeaaGreatDoor
