/- Rows of bools in memory. -/
import Derived.Test.YtnlkmljdcmfogaaGreatDoorOwn0
import Derived.Test.YtnlkmljdcmfogaaGreatDoorProg
import Derived.Deep.OwnRows
namespace Go.Proofs.YtnlkmljdcmfogaaGreatDoor
open Go Go.RowKit
/-- a row of bools. -/
def bf (n : Nat) (f : Nat → Bool) : Array Value := ((List.range n).map fun i => Value.bool (f i)).toArray
theorem bf_size (n : Nat) (f : Nat → Bool) : (bf n f).size = n := by simp [bf]
theorem bf_get {n i : Nat} (f : Nat → Bool) (h : i < n) : (bf n f)[i]? = some (.bool (f i)) := by simp [bf, h]
theorem bf_congr {n : Nat} {f g : Nat → Bool} (h : ∀ i, i < n → f i = g i) : bf n f = bf n g := by
  unfold bf
  congr 1
  exact List.map_congr_left fun i hi => by rw [h i (List.mem_range.1 hi)]
theorem bf_set (n : Nat) (f : Nat → Bool) (i : Nat) (b : Bool) : (bf n f).setIfInBounds i (.bool b) = bf n (fun j => if j = i then b else f j) := by
  apply Array.ext
  · rw [Array.size_setIfInBounds, bf_size, bf_size]
  · intro j h1 h2
    rw [bf_size] at h2
    have e := bf_get (fun j => if j = i then b else f j) h2
    rw [Array.getElem?_eq_getElem (by rw [bf_size]; exact h2)] at e
    injection e with e
    rw [e, Array.getElem_setIfInBounds]
    · by_cases hj : j = i
      · rw [if_pos hj.symm, if_pos hj]
      · rw [if_neg (fun h => hj h.symm), if_neg hj]
        have e2 := bf_get f h2
        rw [Array.getElem?_eq_getElem (by rw [bf_size]; exact h2)] at e2
        injection e2
    · rw [bf_size]; exact h2
theorem made_bf (n : Nat) : madeCells #[.bool false] n = bf n fun _ => false := by
  apply Array.ext'
  simp [madeCells, bf, Nat.mod_one, List.map_const']
/-- a block that is a row of bools. -/
def BF (w : World) (g n : Nat) (f : Nat → Bool) : Prop := Blk w g 4 (bf n f)
section
variable {w w' : World} {g n i : Nat} {f f' : Nat → Bool}
theorem BF.cell (h : BF w g n f) (hi : i < n) : w.cell? ⟨g, i, none⟩ = some (.bool (f i)) := (Blk.cell h i).trans (bf_get f hi)
theorem BF.frozen (h : BF w g n f) (i : Nat) : w.frozen? ⟨g, i, none⟩ = false := Blk.frozen h i
theorem BF.congr (h : BF w g n f) (e : ∀ i, i < n → f i = f' i) : BF w g n f' := by
  unfold BF at h ⊢
  rw [← bf_congr e]
  exact h
theorem BF.set_ (h : BF w g n f) (i : Nat) (b : Bool) : BF (w.setCell ⟨g, i, none⟩ (.bool b)) g n (fun j => if j = i then b else f j) := by
  have := Blk.set_ h i (.bool b)
  rw [bf_set] at this
  exact this
theorem BF.below {B : Nat} (h : BF w g n f) (hb : Below B w w') (hg : g < B) : BF w' g n f := Blk.below h hb hg
theorem BF.lt (h : BF w g n f) : g < w.heap.size := Blk.lt h
theorem BF.new (w : World) (n : Nat) : BF (w.alloc (.cells (madeCells #[.bool false] n) 4)) w.heap.size n (fun _ => false) := by
  rw [made_bf]
  exact Blk.new w _ _
end
theorem make_bf (n : Nat) (hn : n ≤ 100000000) (w : World) : (Instr.makeSlice 115 (.int .i64 (n : Int)) (.int .i64 (n : Int))).run Tryz.prog w = .ok (.slice (some ⟨w.heap.size, 0, none⟩) n n) (w.alloc (.cells (madeCells #[.bool false] n) 4)) :=
  run_make_row' 115 4 (.bool false) 1 Tryz.underlying115 (by kernel_rfl) rfl .i64 .i64 n (by omega) (by omega) w
end Go.Proofs.YtnlkmljdcmfogaaGreatDoor
