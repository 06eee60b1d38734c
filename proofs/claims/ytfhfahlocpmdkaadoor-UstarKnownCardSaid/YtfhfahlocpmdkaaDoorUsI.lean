/- A header stored whole into its block; a header as a result in memory. -/
import Derived.Test.YtfhfahlocpmdkaaDoorUsE
import Derived.Laws.Tables
import Derived.StillTailTactics
namespace Go.Proofs.YtfhfahlocpmdkaaDoor
open Go.RowKit

/-- a region of reads and quiet calls ahead of a store. -/
theorem wp_still_tail {P : Program} {id : Nat} {Q : Exit → Act → World → Prop} {a : Act} {w : World} {l : List Oper} (n : Nat) (hm : P.follows .mixedOrders = true) (hB : Region.lexTailB .any l.toArray n = true)
    (h : wpStill P l.toArray w.drew (fun a' => wpList P l.toArray Q (l.drop n) a' w.drew) (l.take n) a) : (Code.region id l.toArray true).wp P Q a w := wp_region_still_tail n hm hB h
theorem hdC_size (h : Us.Hd) : (hdC h).size = 12 := rfl
theorem hdC_one (h : Us.Hd) : (hdC h).all (·.oneCell') = true := by simp [hdC, Value.oneCell']
theorem hd_size : (Tryd.prog.info? 23).map (·.size) = some 12 := by kernel_rfl
theorem setRow_size (w : World) (g : Nat) (cs : Array Value) : (w.setRow g cs).heap.size = w.heap.size := by simp [World.setRow]
theorem setRow_other (W : World) (g : Nat) (cs : Array Value) : ∀ p : Addr, p.block ≠ g → (W.setRow g cs).cell? p = W.cell? p := by
  intro p hp
  refine World.cell?_of_block ?_
  simp [World.setRow, Array.getElem?_modify, Ne.symm hp]
theorem wpList_store_hd {W : World} {ops : Array Oper} {rest : List Oper} {o : Oper} {a : Act} {Q : Exit → Act → World → Prop} (hgd : o.guard = none) (x y : Operand) (ho : o.op = .store 23 x y)
    (g : Nat) (h : Us.Hd) (hx : a.eval x = .pointer (some ⟨g, 0, none⟩)) (hy : a.eval y = .agg (hdC h)) (h0 : Us.Hd) (hg : Blk W g 23 (hdC h0))
    (hk : ∀ w', Blk w' g 23 (hdC h) → Below g W w' → w'.heap.size = W.heap.size → wpList Tryd.prog ops Q rest (a.put o.dst undef) w') : wpList Tryd.prog ops Q (o :: rest) a W :=
  wpList_store_row hgd 23 x y ho g (hdC h) hx hy _ (hdC h0) hg hd_size rfl (hdC_one h) (hk _ (setRow_heap W g _ _ _ _ hg) (below_setRow (Below.refl g W) (Nat.le_refl g) _) (setRow_size _ _ _))
theorem step_store_hd {W : World} {ops : Array Oper} {o : Oper} {a : Act} {K : Act → World → Prop} {Q : Exit → Act → World → Prop} {E : Prop} (hgd : o.guard = none) (x y : Operand) (ho : o.op = .store 23 x y)
    (g : Nat) (h : Us.Hd) (hx : a.eval x = .pointer (some ⟨g, 0, none⟩)) (hy : a.eval y = .agg (hdC h)) (h0 : Us.Hd) (hg : Blk W g 23 (hdC h0))
    (hk : ∀ w', Blk w' g 23 (hdC h) → Below g W w' → w'.heap.size = W.heap.size → (∀ p : Addr, p.block ≠ g → w'.cell? p = W.cell? p) → K (a.put o.dst undef) w') : if Region.wanted o (yielded ops a.tmps) = true then Oper.wp Tryd.prog o a W K Q else E := by
  have hw : Region.wanted o (yielded ops a.tmps) = true := by simp [Region.wanted, hgd]
  rw [if_pos hw]
  exact wp_store_row 23 x y ho g (hdC h) hx hy _ (hdC h0) hg hd_size rfl (hdC_one h) (hk _ (setRow_heap W g _ _ _ _ hg) (below_setRow (Below.refl g W) (Nat.le_refl g) _) (setRow_size _ _ _) (setRow_other W g _))
/-- a header stored cell by cell. -/
def set12 (w : World) (g : Nat) (H : Us.Hd) : World := ((((((((((((w.setCell ⟨g, 0, none⟩ (.string (bs H.path))).setCell ⟨g, 1, none⟩ (.int .i64 H.mode)).setCell ⟨g, 2, none⟩ (.int .i64 H.uid)).setCell ⟨g, 3, none⟩ (.int .i64 H.gid)).setCell ⟨g, 4, none⟩ (.int .i64 H.size)).setCell ⟨g, 5, none⟩ (.int .i64 H.time)).setCell ⟨g, 6, none⟩ (.int .u8 (H.type.toNat : Int))).setCell ⟨g, 7, none⟩ (.string (bs H.link))).setCell ⟨g, 8, none⟩ (.string (bs H.user))).setCell ⟨g, 9, none⟩ (.string (bs H.group))).setCell ⟨g, 10, none⟩ (.int .i64 H.major)).setCell ⟨g, 11, none⟩ (.int .i64 H.minor))
theorem set12_blk {w : World} {g : Nat} {h0 : Us.Hd} (H : Us.Hd) (h : Blk w g 23 (hdC h0)) : Blk (set12 w g H) g 23 (hdC H) := by
  have e := ((((((((((((h.set_ 0 (.string (bs H.path))).set_ 1 (.int .i64 H.mode)).set_ 2 (.int .i64 H.uid)).set_ 3 (.int .i64 H.gid)).set_ 4 (.int .i64 H.size)).set_ 5 (.int .i64 H.time)).set_ 6 (.int .u8 (H.type.toNat : Int))).set_ 7 (.string (bs H.link))).set_ 8 (.string (bs H.user))).set_ 9 (.string (bs H.group))).set_ 10 (.int .i64 H.major)).set_ 11 (.int .i64 H.minor))
  simp only [hdC, List.setIfInBounds_toArray, List.set_cons_zero, List.set_cons_succ] at e ⊢
  exact e
theorem set12_below {w0 w : World} {g B : Nat} (H : Us.Hd) (h : Below B w0 w) (hg : B ≤ g) : Below B w0 (set12 w g H) := ((((((((((((h.setCell hg _).setCell hg _).setCell hg _).setCell hg _).setCell hg _).setCell hg _).setCell hg _).setCell hg _).setCell hg _).setCell hg _).setCell hg _).setCell hg _)
theorem set12_other (w : World) (g : Nat) (H : Us.Hd) : ∀ p : Addr, p.block ≠ g → (set12 w g H).cell? p = w.cell? p := by
  intro p hp
  have e : ∀ (i : Nat) (v : Value) (W : World), (W.setCell ⟨g, i, none⟩ v).cell? p = W.cell? p := fun i v W => World.cell?_setCell_other _ _ _ _ (fun h => hp (by rw [← h]))
  unfold set12
  simp only [e]
structure Cells12 (w : World) (g : Nat) (h : Us.Hd) : Prop where
  c0 : w.cell? ⟨g, 0, none⟩ = some (.string (bs h.path))
  c1 : w.cell? ⟨g, 1, none⟩ = some (.int .i64 h.mode)
  c2 : w.cell? ⟨g, 2, none⟩ = some (.int .i64 h.uid)
  c3 : w.cell? ⟨g, 3, none⟩ = some (.int .i64 h.gid)
  c4 : w.cell? ⟨g, 4, none⟩ = some (.int .i64 h.size)
  c5 : w.cell? ⟨g, 5, none⟩ = some (.int .i64 h.time)
  c6 : w.cell? ⟨g, 6, none⟩ = some (.int .u8 (h.type.toNat : Int))
  c7 : w.cell? ⟨g, 7, none⟩ = some (.string (bs h.link))
  c8 : w.cell? ⟨g, 8, none⟩ = some (.string (bs h.user))
  c9 : w.cell? ⟨g, 9, none⟩ = some (.string (bs h.group))
  c10 : w.cell? ⟨g, 10, none⟩ = some (.int .i64 h.major)
  c11 : w.cell? ⟨g, 11, none⟩ = some (.int .i64 h.minor)
  f0 : w.frozen? ⟨g, 0, none⟩ = false
  f1 : w.frozen? ⟨g, 1, none⟩ = false
  f2 : w.frozen? ⟨g, 2, none⟩ = false
  f3 : w.frozen? ⟨g, 3, none⟩ = false
  f4 : w.frozen? ⟨g, 4, none⟩ = false
  f5 : w.frozen? ⟨g, 5, none⟩ = false
  f6 : w.frozen? ⟨g, 6, none⟩ = false
  f7 : w.frozen? ⟨g, 7, none⟩ = false
  f8 : w.frozen? ⟨g, 8, none⟩ = false
  f9 : w.frozen? ⟨g, 9, none⟩ = false
  f10 : w.frozen? ⟨g, 10, none⟩ = false
  f11 : w.frozen? ⟨g, 11, none⟩ = false
theorem cells12 {w : World} {g : Nat} {h : Us.Hd} (hb : Blk w g 23 (hdC h)) : Cells12 w g h :=
  ⟨hb.cell 0, hb.cell 1, hb.cell 2, hb.cell 3, hb.cell 4, hb.cell 5, hb.cell 6, hb.cell 7, hb.cell 8, hb.cell 9, hb.cell 10, hb.cell 11, hb.frozen 0, hb.frozen 1, hb.frozen 2, hb.frozen 3, hb.frozen 4, hb.frozen 5, hb.frozen 6, hb.frozen 7, hb.frozen 8, hb.frozen 9, hb.frozen 10, hb.frozen 11⟩
theorem load_hd {w : World} {g : Nat} {h : Us.Hd} (hg : Blk w g 23 (hdC h)) : (loadVar 23 ⟨g, 0, none⟩).run Tryd.prog w = .ok (.agg (hdC h)) w :=
  run_loadVar_row w g _ _ (hdC h) (0, 0) _ hg Tryd.underlying23 rfl hd_size
theorem results_hd {fn : Func} (hf : fn.results = #[.cell 2 23, .tmp 3]) {tmps : Array Value} {w : World} {g : Nat} {h : Us.Hd} {v : Value} (hp : tmps.getD 2 undef = .pointer (some ⟨g, 0, none⟩)) (hv : tmps.getD 3 undef = v) (hg : Blk w g 23 (hdC h)) :
    (results fn tmps).run Tryd.prog w = .ok (.tuple #[.agg (hdC h), v]) w := by
  have hp' : tmps[2]?.getD undef = .pointer (some ⟨g, 0, none⟩) := by simpa using hp
  have hv' : tmps[3]?.getD undef = v := by simpa using hv
  simp [results, hf, hp', hv', asAddr, load_hd hg]
end Go.Proofs.YtfhfahlocpmdkaaDoor
