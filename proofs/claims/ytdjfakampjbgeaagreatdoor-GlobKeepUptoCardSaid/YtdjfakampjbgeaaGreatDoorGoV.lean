/- A slice of texts among the arguments, opened. -/
import Derived.Test.YtdjfakampjbgeaaGreatDoorGoU
import Derived.Test.YtdjfakampjbgeaaGreatDoorGoH
import Derived.SliceStrings
namespace Go.Proofs.YtdjfakampjbgeaaGreatDoor
open Go.ChangeShapes Go.WideShapes Go.RowKit

theorem laidOut : laidOutB Tryz.prog = true := by kernel_rfl
theorem bulk_part {H : Type} {d : DataW H} {l : List (DataW H)} (h : d ∈ l) : Rows.uptoBulk d ≤ Rows.uptoBulkAll l := by
  induction l with
  | nil => cases h
  | cons x r ih =>
    simp only [Rows.uptoBulkAll]
    rcases List.mem_cons.1 h with e | e
    · subst e; omega
    · have := ih e; omega
theorem open_texts {H : Type} {enc : TypeId × Value → H} {W : World} {a : Option Addr} {n c : Nat} {d : DataW H} {ps : List MemPlace} (h : DataW.Trod enc Tryz.prog W 0 (fun _ => true) true 42 (.slice a n c) d ps) :
    ∃ T : List (List UInt8), n = T.length ∧ ArgT W a T ∧ ∀ x ∈ T, x.length + 1 ≤ Rows.uptoBulk d := by
  obtain ⟨fuel, hf⟩ := h
  rcases open_strings Tryz.underlying42 Tryz.underlying9 (by kernel_rfl) hf with ⟨hcs, hx⟩ | ⟨a', len, cap, ss, hcs, _, hl, _, hz, hx, hcell, _⟩
  · simp [Value.cells] at hcs
    obtain ⟨rfl, rfl, rfl⟩ := hcs
    exact ⟨[], rfl, fun j hj => absurd hj (by simp), fun x hx => by cases hx⟩
  · simp [Value.cells] at hcs
    obtain ⟨rfl, rfl, rfl⟩ := hcs
    simp only [if_true] at hz
    have hlen : ((ss.take n).map bl).length = n := by rw [List.length_map, List.length_take]; omega
    refine ⟨(ss.take n).map bl, hlen.symm, fun j hj => ?_, fun x hxm => ?_⟩
    · have hj2 : j < ss.length := by omega
      refine ⟨a', rfl, ?_⟩
      rw [hcell j hj2]
      have e1 : ss.getD j ByteArray.empty = ss[j] := by simp [List.getD, List.getElem?_eq_getElem hj2]
      rw [e1]
      simp [bs_bl]
    · obtain ⟨s, hs, rfl⟩ := List.mem_map.1 hxm
      have hd : d = .slice (strs (ss.take n)) (strs (ss.drop n)) := congrArg Prod.fst hx
      have hm : (DataW.lit (.string s.data.toList) : DataW H) ∈ strs (ss.take n) := List.mem_map.2 ⟨s, hs, rfl⟩
      have h1 := bulk_part hm
      have h2 : Rows.uptoBulk (DataW.lit (H := H) (.string s.data.toList)) = s.data.toList.length + 1 := by simp [Rows.uptoBulk]
      rw [h2] at h1
      rw [hd]
      simp only [Rows.uptoBulk]
      have h3 : (bl s).length = s.data.toList.length := rfl
      omega
end Go.Proofs.YtdjfakampjbgeaaGreatDoor
