/- A file and a step within the bulk are within the bounds of the walks. -/
import Derived.Test.YtdaejggcjjdhkaaGreatDoorCkOp
import Derived.Test.YtdaejggcjjdhkaaGreatDoorCkSf
namespace Go.Proofs.YtdaejggcjjdhkaaGreatDoor
open Go Go.RowKit
theorem FlLe.mono {N M : Nat} {f : FM} (h : FlLe N f) (hm : N ≤ M) : FlLe M f := ⟨fun m h1 => (h.1 m h1).mono hm, fun g hg => ⟨Nat.le_trans (h.2.1 g hg).1 hm, Nat.le_trans (h.2.1 g hg).2.1 hm, fun m h1 => ((h.2.1 g hg).2.2 m h1).mono hm⟩, Nat.le_trans h.2.2 hm⟩
theorem small_st {s : Ck.St} (h : StLe 1048576 s) : s.Small := ⟨Nat.le_trans h.1 (by decide), fun t ht => Nat.le_trans (h.2 t ht) (by decide)⟩
theorem cnt_fl {f : FM} (h : FlLe 1048576 f) : f.stages.length + Ck.countL f.fl ≤ 1049000 := by
  rw [count_fl]
  have := h.2.2
  omega
theorem small_fl {f : FM} (h : FlLe 1048576 f) : f.fl.Small := ⟨fun s hs => by
    obtain ⟨m, hm, rfl⟩ := List.mem_map.1 hs
    exact small_st (h.1 m hm), fun g hg => by
    obtain ⟨G, hG, rfl⟩ := List.mem_map.1 hg
    obtain ⟨h1, h2, h3⟩ := h.2.1 G hG
    exact ⟨Nat.le_trans h1 (by decide), Nat.le_trans h2 (by decide), fun s hs => by
      obtain ⟨m, hm, rfl⟩ := List.mem_map.1 hs
      exact small_st (h3 m hm)⟩, by
    have := cnt_fl h
    rw [show f.fl.stages.length = f.stages.length from List.length_map _]
    omega⟩
end Go.Proofs.YtdaejggcjjdhkaaGreatDoor
