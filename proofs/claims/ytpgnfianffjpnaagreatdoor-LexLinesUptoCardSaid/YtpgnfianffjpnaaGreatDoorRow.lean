/- A struct in a block of its own: loads, stores, results; what stays but for some blocks. -/
import Derived.Test.YtpgnfianffjpnaaGreatDoorBlk
import Derived.Test.YtpgnfianffjpnaaGreatDoorOwnK
import Derived.Laws.Rows
import Derived.Laws.Tables
import Derived.ProofKit
namespace Go.Proofs.YtpgnfianffjpnaaGreatDoor
open Go Go.RowKit

/-- a struct type of k cells. -/
structure StK (P : Program) (t : TypeId) (k : Nat) : Prop where
  agg : ∃ fs, P.underlying t = some (.struct fs)
  size : (P.info? t).map (·.size) = some k
theorem setRow_size (w : World) (g : Nat) (cs : Array Value) : (w.setRow g cs).heap.size = w.heap.size := by simp [World.setRow]
theorem setRow_grown (w : World) (g : Nat) (cs : Array Value) : w.grownBy (w.setRow g cs) (some g) :=
  ⟨rfl, rfl, rfl, by rw [setRow_size]; exact Nat.le_refl _, fun k _ hk => by
    have : g ≠ k := fun e => hk (by rw [e])
    simp [World.setRow, Array.getElem?_modify, this]⟩
theorem setCell_size (w : World) (a : Addr) (v : Value) : (w.setCell a v).heap.size = w.heap.size := by simp [World.setCell]
theorem load_st {P : Program} {w : World} {g k : Nat} {t : TypeId} {cs : Array Value} (T : StK P t k) (hk : cs.size = k) (hg : Blk w g t cs) : (loadVar t ⟨g, 0, none⟩).run P w = .ok (.agg cs) w := by
  obtain ⟨fs, hu⟩ := T.agg
  exact run_loadVar_row w g _ _ cs (0, 0) _ hg hu rfl (by rw [T.size, hk])
theorem wpList_store_st {P : Program} {W : World} {ops : Array Oper} {rest : List Oper} {o : Oper} {a : Act} {Q : Exit → Act → World → Prop} (hgd : o.guard = none) (x y : Operand) (t : TypeId) (ho : o.op = .store t x y)
    {k : Nat} (T : StK P t k) (g : Nat) (cs old : Array Value) (hx : a.eval x = .pointer (some ⟨g, 0, none⟩)) (hy : a.eval y = .agg cs) (hg : Blk W g t old) (hk1 : cs.size = k) (hk2 : old.size = k) (h1 : cs.toList.all (·.oneCell') = true)
    (hk : ∀ w', Blk w' g t cs → W.grownBy w' (some g) → w'.heap.size = W.heap.size → wpList P ops Q rest (a.put o.dst undef) w') : wpList P ops Q (o :: rest) a W :=
  wpList_store_row hgd t x y ho g cs hx hy _ old hg (by rw [T.size, hk1]) (by rw [hk1, hk2]) (by rw [← Array.all_toList]; exact h1) (hk _ (setRow_heap W g _ _ _ _ hg) (setRow_grown _ _ _) (setRow_size _ _ _))
/-- results: a struct out of its block, and other temporaries. -/
theorem results_c0 {P : Program} {fn : Func} {s : Nat} {t : TypeId} (hf : fn.results = #[.cell s t]) {k : Nat} (T : StK P t k) {tmps : Array Value} {w : World} {g : Nat} {cs : Array Value} (hp : tmps.getD s undef = .pointer (some ⟨g, 0, none⟩)) (hg : Blk w g t cs) (hk : cs.size = k) :
    (results fn tmps).run P w = .ok (.agg cs) w := by
  have hp' : tmps[s]?.getD undef = .pointer (some ⟨g, 0, none⟩) := by simpa using hp
  simp [results, hf, hp', asAddr, load_st T hk hg]
theorem results_c1 {P : Program} {fn : Func} {s s1 : Nat} {t : TypeId} (hf : fn.results = #[.cell s t, .tmp s1]) {k : Nat} (T : StK P t k) {tmps : Array Value} {w : World} {g : Nat} {cs : Array Value} {u1 : Value} (hp : tmps.getD s undef = .pointer (some ⟨g, 0, none⟩)) (h1 : tmps.getD s1 undef = u1) (hg : Blk w g t cs) (hk : cs.size = k) :
    (results fn tmps).run P w = .ok (.tuple #[.agg cs, u1]) w := by
  have hp' : tmps[s]?.getD undef = .pointer (some ⟨g, 0, none⟩) := by simpa using hp
  have h1' : tmps[s1]?.getD undef = u1 := by simpa using h1
  simp [results, hf, hp', h1', asAddr, load_st T hk hg]
theorem results_c2 {P : Program} {fn : Func} {s s1 s2 : Nat} {t : TypeId} (hf : fn.results = #[.cell s t, .tmp s1, .tmp s2]) {k : Nat} (T : StK P t k) {tmps : Array Value} {w : World} {g : Nat} {cs : Array Value} {u1 u2 : Value} (hp : tmps.getD s undef = .pointer (some ⟨g, 0, none⟩)) (h1 : tmps.getD s1 undef = u1) (h2 : tmps.getD s2 undef = u2) (hg : Blk w g t cs) (hk : cs.size = k) :
    (results fn tmps).run P w = .ok (.tuple #[.agg cs, u1, u2]) w := by
  have hp' : tmps[s]?.getD undef = .pointer (some ⟨g, 0, none⟩) := by simpa using hp
  have h1' : tmps[s1]?.getD undef = u1 := by simpa using h1
  have h2' : tmps[s2]?.getD undef = u2 := by simpa using h2
  simp [results, hf, hp', h1', h2', asAddr, load_st T hk hg]

/-- all stays but for the blocks of S, and what is new. -/
structure Fx (S : Nat → Prop) (w w' : World) : Prop where
  os : w'.os = w.os
  tape : w'.tape = w.tape
  output : w'.output = w.output
  size : w.heap.size ≤ w'.heap.size
  block : ∀ b, b < w.heap.size → ¬ S b → w'.heap[b]? = w.heap[b]?
section
variable {S S' : Nat → Prop} {w w1 w2 : World}
theorem Fx.refl : Fx S w w := ⟨rfl, rfl, rfl, Nat.le_refl _, fun _ _ _ => rfl⟩
theorem Fx.trans (h : Fx S w w1) (k : Fx S w1 w2) : Fx S w w2 :=
  ⟨k.os.trans h.os, k.tape.trans h.tape, k.output.trans h.output, Nat.le_trans h.size k.size, fun b hb hn => (k.block b (Nat.lt_of_lt_of_le hb h.size) hn).trans (h.block b hb hn)⟩
/-- behind: blocks that are new count for nothing. -/
theorem Fx.then (h : Fx S w w1) (k : Fx S' w1 w2) (hS : ∀ b, b < w.heap.size → S' b → S b) : Fx S w w2 :=
  ⟨k.os.trans h.os, k.tape.trans h.tape, k.output.trans h.output, Nat.le_trans h.size k.size, fun b hb hn => (k.block b (Nat.lt_of_lt_of_le hb h.size) (fun hs => hn (hS b hb hs))).trans (h.block b hb hn)⟩
theorem Fx.mono (h : Fx S w w1) (hS : ∀ b, b < w.heap.size → S b → S' b) : Fx S' w w1 := ⟨h.os, h.tape, h.output, h.size, fun b hb hn => h.block b hb (fun hs => hn (hS b hb hs))⟩
theorem Fx.of_below {B : Nat} (h : Below B w w1) : Fx (fun b => B ≤ b) w w1 := ⟨h.os, h.tape, h.output, h.size, fun b _ hn => h.block b (by omega)⟩
theorem Fx.of_grown {row : Option Nat} (h : w.grownBy w1 row) : Fx (fun b => row = some b) w w1 := ⟨h.os, h.tape, h.output, h.size, fun b hb hn => h.block b hb (fun e => hn e.symm)⟩
theorem Fx.new (h : Below w.heap.size w w1) : Fx S w w1 := ⟨h.os, h.tape, h.output, h.size, fun b hb _ => h.block b hb⟩
theorem Fx.to_below {B : Nat} (h : Fx S w w1) (hB : B ≤ w.heap.size) (hS : ∀ b, S b → B ≤ b) : Below B w w1 := ⟨h.os, h.tape, h.output, h.size, fun b hb => h.block b (by omega) (fun hs => by have := hS b hs; omega)⟩
theorem Fx.blk {g : Nat} {t : TypeId} {cs : Array Value} (h : Fx S w w1) (hg : Blk w g t cs) (hn : ¬ S g) : Blk w1 g t cs := (h.block g hg.lt hn).trans hg
theorem Fx.cell {b o : Nat} {v : Value} (h : Fx S w w1) (hc : w.cell? ⟨b, o, none⟩ = some v) (hn : ¬ S b) : w1.cell? ⟨b, o, none⟩ = some v :=
  (World.cell?_of_block (a := ⟨b, o, none⟩) (h.block b (World.block_lt_of_cell? w _ hc) hn)).trans hc
theorem Fx.own {base k n : Nat} {e : TypeId} {v : Value} {xs : List Value} (h : Fx S w w1) (ho : w.ownsRow base e k v n xs) (hn : ∀ g, v.ownBlock = some g → ¬ S g) : w1.ownsRow base e k v n xs := by
  refine ⟨ho.1, ?_⟩
  rcases ho.2 with h1 | ⟨g, cap, cur, rfl, hb, hg, h2⟩
  · exact .inl h1
  · refine .inr ⟨g, cap, cur, rfl, hb, ?_, h2⟩
    have hlt : g < w.heap.size := by
      rcases Nat.lt_or_ge g w.heap.size with hlt | hge
      · exact hlt
      · rw [Array.getElem?_eq_none hge] at hg; cases hg
    rw [h.block g hlt (hn g rfl)]
    exact hg
theorem Fx.drewN (h : Fx S w w1) (n : Nat) : Fx S w (w1.drewN n) := ⟨h.os, h.tape, h.output, h.size, h.block⟩
theorem Fx.alloc (h : Fx S w w1) (o : Obj) : Fx S w (w1.alloc o) := h.trans (Fx.new ((Below.refl _ _).alloc (Nat.le_refl _) o))
end
end Go.Proofs.YtpgnfianffjpnaaGreatDoor
