/- Slices: none, one in a block of its own. -/
import Derived.Test.YtdaejggcjjdhkaaGreatDoorMkA
namespace Go.Proofs.YtdaejggcjjdhkaaGreatDoor
open Go Go.RowKit
theorem SlA.blk {w : World} {g n c : Nat} {t : TypeId} {cs : List Value} (h : Blk w g t cs.toArray) : SlA w (.slice (some ⟨g, 0, none⟩) n c) n cs := .inr ⟨g, 0, c, rfl, fun j u hu => by rw [Nat.zero_add, h.cell]; simpa using hu⟩
theorem SlA.none (w : World) : SlA w (.slice none 0 0) 0 [] := .inl ⟨⟨Option.none, 0, rfl, fun _ => rfl⟩, rfl, rfl⟩
theorem slice_le {A A' : Option Addr} {n n' c c' : Nat} (h : Value.slice A n c = .slice A' n' c') (hle : n ≤ c) : n' ≤ c' := by injection h with _ h1 h2; omega
end Go.Proofs.YtdaejggcjjdhkaaGreatDoor
