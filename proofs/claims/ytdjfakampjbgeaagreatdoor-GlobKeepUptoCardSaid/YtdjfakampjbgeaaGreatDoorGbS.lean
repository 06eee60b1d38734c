/- glob.readSet: its memory (printed by wip/gengbset.py). -/
import Derived.Test.YtdjfakampjbgeaaGreatDoorGbS0
import Derived.Test.YtdjfakampjbgeaaGreatDoorErrIs
namespace Go.Proofs.YtdjfakampjbgeaaGreatDoor
open Go.RowKit

/-- what readSet answers. -/
def SetAns (s : ByteArray) (w w' : World) (e : Ending) : Prop :=
  (Gl.setOpen ((bl s).drop 1) = none ∧ e = .returned (.tuple #[.agg #[.bool false, .bool false, .slice none 0 0, .slice none 0 0], .int .i64 0, eno 24])) ∨
  (∃ m n vf vt, Gl.setOpen ((bl s).drop 1) = some (m, (bl s).drop n) ∧ n ≤ s.size ∧ 2 ≤ n ∧ e = .returned (.tuple #[.agg #[.bool m.any, .bool m.neg, vf, vt], .int .i64 (n : Int), .nilIface]) ∧
    RB w' (fun g => w.heap.size ≤ g ∧ g < w'.heap.size) vf m.fr ∧ RB w' (fun g => w.heap.size ≤ g ∧ g < w'.heap.size) vt m.to ∧ m.fr.length = m.to.length ∧ m.fr.length ≤ s.size)
/-- the rows of a set in the making. -/
structure SetM (w : World) (neg : Bool) (fs ts : List UInt8) (vf vt : Value) (wr : World) : Prop where
  bm : Blk wr (w.heap.size + 1) 124 #[.bool false, .bool neg, vf, vt]
  bz : Blk wr w.heap.size 124 #[.bool false, .bool false, .slice none 0 0, .slice none 0 0]
  of_ : wr.ownsRow w.heap.size 5 1 vf fs.length (bc fs)
  ot : wr.ownsRow w.heap.size 5 1 vt ts.length (bc ts)
  sf : ∀ g, vf.ownBlock = some g → w.heap.size + 2 ≤ g
  st : ∀ g, vt.ownBlock = some g → w.heap.size + 2 ≤ g
  sep : ∀ g, vf.ownBlock = some g → vt.ownBlock ≠ some g
  bel : Below w.heap.size w wr
theorem own_lt {w : World} {base n : Nat} {e : TypeId} {v : Value} {xs : List Value} (h : w.ownsRow base e 1 v n xs) : ∀ g, v.ownBlock = some g → g < w.heap.size := fun g hg => (h.lt g hg).2
theorem SetM.push1 {w wr w1 : World} {neg : Bool} {fs ts : List UInt8} {vf vt v1 : Value} {o : Obj} {c : UInt8} (h : SetM w neg fs ts vf vt wr)
    (h1 : w1.ownsRow w.heap.size 5 1 v1 (fs.length + 1) (bc fs ++ [.int .u8 (c.toNat : Int)])) (hb : Below w.heap.size w w1) (hg : (wr.alloc o).grownBy w1 vf.ownBlock) (hat : v1.ownBlock = vf.ownBlock ∨ v1.ownBlock = some (wr.alloc o).heap.size) :
    Blk w1 (w.heap.size + 1) 124 #[.bool false, .bool neg, vf, vt] ∧ SetM w neg (fs ++ [c]) ts v1 vt (w1.setCell ⟨w.heap.size + 1, 2, none⟩ v1) := by
  have hs := hg.size
  rw [World.size_alloc] at hs
  have hm1 := h.bm.lt
  have f1 : vf.ownBlock ≠ some (w.heap.size + 1) := fun e => by have := h.sf _ e; omega
  have f0 : vf.ownBlock ≠ some w.heap.size := fun e => by have := h.sf _ e; omega
  have g1 : ∀ g, v1.ownBlock = some g → w.heap.size + 2 ≤ g := fun g e => by
    rcases hat with a | a
    · exact h.sf g (a.symm.trans e)
    · rw [a, World.size_alloc] at e
      obtain rfl : wr.heap.size + 1 = g := by injection e
      omega
  have b1 : Blk w1 (w.heap.size + 1) 124 #[.bool false, .bool neg, vf, vt] := (h.bm.alloc o).grown hg f1
  have hset := setCell_grown w1 ⟨w.heap.size + 1, 2, none⟩ v1
  have t1 : w1.ownsRow w.heap.size 5 1 vt ts.length (bc ts) := (h.ot.alloc o).kept hg (by
    rcases ht : vt.ownBlock with _ | g
    · exact .inl rfl
    · exact .inr (fun e => h.sep g (by first | exact e | exact e.symm) ht))
  refine ⟨b1, ?_, ?_, ?_, ?_, g1, h.st, ?_, hb.setCell (p := ⟨w.heap.size + 1, 2, none⟩) (by show w.heap.size ≤ w.heap.size + 1; omega) _⟩
  · have e := b1.set_ 2 v1
    simpa using e
  · exact ((h.bz.alloc o).grown hg f0).grown hset (by simp)
  · have e := h1.kept hset (by
      rcases hv : v1.ownBlock with _ | g
      · exact .inl rfl
      · exact .inr (fun e => by injection e with e; have := g1 g hv; simp at e; omega))
    rw [bc_append, List.length_append]
    exact e
  · exact t1.kept hset (by
      rcases hv : vt.ownBlock with _ | g
      · exact .inl rfl
      · exact .inr (fun e => by injection e with e; have := h.st g hv; simp at e; omega))
  · intro g e e2
    rcases hat with a | a
    · exact h.sep g (a.symm.trans e) e2
    · rw [a, World.size_alloc] at e
      obtain rfl : wr.heap.size + 1 = g := by injection e
      have := own_lt h.ot _ e2
      omega
theorem SetM.push2 {w wr w1 : World} {neg : Bool} {fs ts : List UInt8} {vf vt v1 : Value} {o : Obj} {c : UInt8} (h : SetM w neg fs ts vf vt wr)
    (h1 : w1.ownsRow w.heap.size 5 1 v1 (ts.length + 1) (bc ts ++ [.int .u8 (c.toNat : Int)])) (hb : Below w.heap.size w w1) (hg : (wr.alloc o).grownBy w1 vt.ownBlock) (hat : v1.ownBlock = vt.ownBlock ∨ v1.ownBlock = some (wr.alloc o).heap.size) :
    Blk w1 (w.heap.size + 1) 124 #[.bool false, .bool neg, vf, vt] ∧ SetM w neg fs (ts ++ [c]) vf v1 (w1.setCell ⟨w.heap.size + 1, 3, none⟩ v1) := by
  have hs := hg.size
  rw [World.size_alloc] at hs
  have hm1 := h.bm.lt
  have f1 : vt.ownBlock ≠ some (w.heap.size + 1) := fun e => by have := h.st _ e; omega
  have f0 : vt.ownBlock ≠ some w.heap.size := fun e => by have := h.st _ e; omega
  have g1 : ∀ g, v1.ownBlock = some g → w.heap.size + 2 ≤ g := fun g e => by
    rcases hat with a | a
    · exact h.st g (a.symm.trans e)
    · rw [a, World.size_alloc] at e
      obtain rfl : wr.heap.size + 1 = g := by injection e
      omega
  have b1 : Blk w1 (w.heap.size + 1) 124 #[.bool false, .bool neg, vf, vt] := (h.bm.alloc o).grown hg f1
  have hset := setCell_grown w1 ⟨w.heap.size + 1, 3, none⟩ v1
  have t1 : w1.ownsRow w.heap.size 5 1 vf fs.length (bc fs) := (h.of_.alloc o).kept hg (by
    rcases ht : vf.ownBlock with _ | g
    · exact .inl rfl
    · exact .inr (fun e => h.sep g ht (by first | exact e | exact e.symm)))
  refine ⟨b1, ?_, ?_, ?_, ?_, h.sf, g1, ?_, hb.setCell (p := ⟨w.heap.size + 1, 3, none⟩) (by show w.heap.size ≤ w.heap.size + 1; omega) _⟩
  · have e := b1.set_ 3 v1
    simpa using e
  · exact ((h.bz.alloc o).grown hg f0).grown hset (by simp)
  · exact t1.kept hset (by
      rcases hv : vf.ownBlock with _ | g
      · exact .inl rfl
      · exact .inr (fun e => by injection e with e; have := h.sf g hv; simp at e; omega))
  · have e := h1.kept hset (by
      rcases hv : v1.ownBlock with _ | g
      · exact .inl rfl
      · exact .inr (fun e => by injection e with e; have := g1 g hv; simp at e; omega))
    rw [bc_append, List.length_append]
    exact e
  · intro g e2 e
    rcases hat with a | a
    · exact h.sep g e2 (a.symm.trans e)
    · rw [a, World.size_alloc] at e
      obtain rfl : wr.heap.size + 1 = g := by injection e
      have := own_lt h.of_ _ e2
      omega
end Go.Proofs.YtdjfakampjbgeaaGreatDoor
