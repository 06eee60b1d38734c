/- lex's reader in memory: peek, next, number, more, walked. -/
import Derived.Test.YtpgnfianffjpnaaGreatDoorLxD
import Derived.Test.YtpgnfianffjpnaaGreatDoorRow
import Derived.Deep.DeepCutAuto
import Derived.Deep.RegionHeld3
import Derived.Deep.RegionLaw
import Derived.IntWalk
namespace Go.Proofs.YtpgnfianffjpnaaGreatDoor
open Go Go.RowKit

theorem setCell_grown (w : World) (a : Addr) (v : Value) : w.grownBy (w.setCell a v) (some a.block) := ⟨rfl, rfl, rfl, by simp [World.setCell], fun k _ hk => by
  have : a.block ≠ k := fun e => hk (by rw [e])
  simp [World.setCell, Array.getElem?_modify, this]⟩
theorem readerT : StK Tryz.prog 97 3 := ⟨⟨_, Tryz.underlying97⟩, by kernel_rfl⟩
theorem lineT : StK Tryz.prog 64 4 := ⟨⟨_, Tryz.underlying64⟩, by kernel_rfl⟩
theorem markK : ElemK Tryz.prog 61 136 (.agg #[.int .i64 0, .int .i64 0, .int .i64 0]) 3 24 := ⟨Tryz.underlying61, by kernel_rfl, rfl, by decide⟩
theorem docK : ElemK Tryz.prog 62 83 (.agg #[.string ⟨#[]⟩, .bool false, .int .i64 0, .string ⟨#[]⟩]) 4 48 := ⟨Tryz.underlying62, by kernel_rfl, rfl, by decide⟩
theorem lineK : ElemK Tryz.prog 22 64 (.agg #[.int .i64 0, .string ⟨#[]⟩, .slice none 0 0, .slice none 0 0]) 4 72 := ⟨Tryz.underlying22, by kernel_rfl, rfl, by decide⟩
/-- the cells of marks, of documents. -/
def mkL (m : Lx.Mk) : List Value := [.int .i64 m.at_, .int .i64 m.line, .int .i64 m.col]
def mkC (l : List Lx.Mk) : List Value := l.flatMap mkL
def dcL (d : Lx.Dc) : List Value := [.string (bs d.name), .bool d.raw, .int .i64 d.line, .string (bs d.text)]
def dcC (l : List Lx.Dc) : List Value := l.flatMap dcL
theorem mkC_snoc (l : List Lx.Mk) (m : Lx.Mk) : mkC (l ++ [m]) = mkC l ++ mkL m := by simp [mkC]
theorem dcC_snoc (l : List Lx.Dc) (d : Lx.Dc) : dcC (l ++ [d]) = dcC l ++ dcL d := by simp [dcC]
/-- the reader, at R: line i of L is next; the lines' row is at g. -/
structure Rd (w : World) (R g c : Nat) (L : List (List UInt8)) (i : Nat) (e : UInt8) : Prop where
  box : Blk w R 97 #[.slice (some ⟨g, 0, none⟩) L.length c, .int .i64 (i : Int), .int .u8 (e.toNat : Int)]
  ln : ∀ j (h : j < L.length), w.cell? ⟨g, j, none⟩ = some (.string (bs L[j]))
  lt : g < w.heap.size
  ne : g ≠ R
section
variable {w w' : World} {R g c : Nat} {L : List (List UInt8)} {i : Nat} {e : UInt8} {S : Nat → Prop}
theorem Rd.fx (h : Rd w R g c L i e) (k : Fx S w w') (h1 : ¬ S R) (h2 : ¬ S g) : Rd w' R g c L i e :=
  ⟨k.blk h.box h1, fun j hj => k.cell (h.ln j hj) h2, Nat.lt_of_lt_of_le h.lt k.size, h.ne⟩
theorem Rd.below {B : Nat} (h : Rd w R g c L i e) (k : Below B w w') (h1 : R < B) (h2 : g < B) : Rd w' R g c L i e := h.fx (Fx.of_below k) (by omega) (by omega)
theorem Rd.new (h : Rd w R g c L i e) (k : Below w.heap.size w w') : Rd w' R g c L i e := h.below k h.box.lt h.lt
theorem Rd.set_ (h : Rd w R g c L i e) (j : Nat) : Rd (w.setCell ⟨R, 1, none⟩ (.int .i64 (j : Int))) R g c L j e := by
  refine ⟨?_, fun k hk => ?_, by rw [setCell_size]; exact h.lt, h.ne⟩
  · have := h.box.set_ 1 (.int .i64 (j : Int))
    simpa using this
  · refine (World.cell?_setCell_other _ _ _ _ ?_).trans (h.ln k hk)
    intro e
    injection e with e1
    exact h.ne e1.symm
theorem Rd.esc (h : Rd w R g c L i e) (f : UInt8) : Rd (w.setCell ⟨R, 2, none⟩ (.int .u8 (f.toNat : Int))) R g c L i f := by
  refine ⟨?_, fun k hk => ?_, by rw [setCell_size]; exact h.lt, h.ne⟩
  · have := h.box.set_ 2 (.int .u8 (f.toNat : Int))
    simpa using this
  · refine (World.cell?_setCell_other _ _ _ _ ?_).trans (h.ln k hk)
    intro e
    injection e with e1
    exact h.ne e1.symm
end
set_option maxRecDepth 100000 in
theorem number_any {w : World} {R g c : Nat} {L : List (List UInt8)} {i : Nat} {e : UInt8} (h : Rd w R g c L i e) : Calls Tryz.prog 91 #[.pointer (some ⟨R, 0, none⟩)] w fun r w' => r = .returned (.int .i64 (i : Int)) ∧ w = w' := by
  have c1 : w.cell? ⟨R, 1, none⟩ = some (.int .i64 (i : Int)) := h.box.cell 1
  go_enter Tryz.func91, Tryz.ntmps91
  go_wp2_with fail
  go_ret
  exact ⟨rfl, rfl⟩
/-- the line that comes next; empty: there is none. -/
def nextL (L : List (List UInt8)) (i : Nat) : List UInt8 := (L[i]?).getD []
set_option maxRecDepth 100000 in
set_option maxHeartbeats 2000000 in
theorem peek_any {w : World} {R g c : Nat} {L : List (List UInt8)} {i : Nat} {e : UInt8} (h : Rd w R g c L i e) (hi : i ≤ L.length) : Calls Tryz.prog 89 #[.pointer (some ⟨R, 0, none⟩)] w fun r w' => r = .returned (.string (bs (nextL L i))) ∧ Below w.heap.size w w' := by
  have c0 : w.cell? ⟨R, 0, none⟩ = some (.slice (some ⟨g, 0, none⟩) L.length c) := h.box.cell 0
  have c1 : w.cell? ⟨R, 1, none⟩ = some (.int .i64 (i : Int)) := h.box.cell 1
  rcases Nat.lt_or_ge i L.length with hin | hin
  · have t0 : ((i : Int) == (L.length : Int)) = false := by rw [beq_eq_false_iff_ne]; omega
    have c2 := h.ln i hin
    have i1 : (i : Int) < (L.length : Int) := by omega
    have i0 : (0 : Int) ≤ (i : Int) := by omega
    have HN : Hid (nextL L i = L[i]) := by show _ = _; rw [nextL, List.getElem?_eq_getElem hin]; rfl
    clear h
    go_enter Tryz.func89, Tryz.ntmps89
    go_wp2_with fail
    go_quiet (fail)
    go_wp2_with fail
    go_quiet (fail)
    go_wp2_with fail
    go_ret
    exact ⟨by rw [HN.out]; rfl, below_drewN (below_drewN (Below.refl _ _) _) _⟩
  · have t0 : ((i : Int) == (L.length : Int)) = true := by rw [beq_iff_eq]; omega
    have HN : Hid (nextL L i = []) := by show _ = _; rw [nextL, List.getElem?_eq_none hin]; rfl
    clear h
    go_enter Tryz.func89, Tryz.ntmps89
    go_wp2_with fail
    go_quiet (fail)
    go_wp2_with fail
    go_ret
    exact ⟨by rw [HN.out]; rfl, below_drewN (Below.refl _ _) _⟩
set_option maxRecDepth 100000 in
set_option maxHeartbeats 2000000 in
theorem next_end {w : World} {R g c : Nat} {L : List (List UInt8)} {i : Nat} {e : UInt8} (h : Rd w R g c L i e) (hi : i = L.length) : Calls Tryz.prog 90 #[.pointer (some ⟨R, 0, none⟩)] w fun r w' => r = .returned (.tuple #[.string ⟨#[]⟩, .bool false]) ∧ Below w.heap.size w w' := by
  have c0 : w.cell? ⟨R, 0, none⟩ = some (.slice (some ⟨g, 0, none⟩) L.length c) := h.box.cell 0
  have c1 : w.cell? ⟨R, 1, none⟩ = some (.int .i64 (i : Int)) := h.box.cell 1
  have t0 : ((i : Int) == (L.length : Int)) = true := by rw [beq_iff_eq]; omega
  clear h hi
  go_enter Tryz.func90, Tryz.ntmps90
  go_wp2_with fail
  go_quiet (fail)
  go_wp2_with fail
  go_ret2
  exact ⟨rfl, below_drewN (Below.refl _ _) _⟩
set_option maxRecDepth 100000 in
set_option maxHeartbeats 2000000 in
theorem next_line {w : World} {R g c : Nat} {L : List (List UInt8)} {i : Nat} {e : UInt8} (h : Rd w R g c L i e) (hi : i < L.length) (hL : L.length ≤ 5000000) {x : List UInt8} (hx : Hid (L[i] = x)) : Calls Tryz.prog 90 #[.pointer (some ⟨R, 0, none⟩)] w fun r w' => r = .returned (.tuple #[.string (bs x), .bool true]) ∧ Rd w' R g c L (i + 1) e ∧ w.grownBy w' (some R) := by
  have c0 : w.cell? ⟨R, 0, none⟩ = some (.slice (some ⟨g, 0, none⟩) L.length c) := h.box.cell 0
  have c1 : w.cell? ⟨R, 1, none⟩ = some (.int .i64 (i : Int)) := h.box.cell 1
  have f1 := h.box.frozen 1
  have hRlt := h.box.lt
  have t0 : ((i : Int) == (L.length : Int)) = false := by rw [beq_eq_false_iff_ne]; omega
  have c2 := h.ln i hi
  have i1 : (i : Int) < (L.length : Int) := by omega
  have i0 : (0 : Int) ≤ (i : Int) := by omega
  have hne : g ≠ R := h.ne
  rw [hx.out] at c2
  have hcast : ((i + 1 : Nat) : Int) = (i : Int) + 1 := by omega
  have H1 : Hid (∀ n m, Rd (((w.drewN n).setCell ⟨R, 1, none⟩ (.int .i64 ((i : Int) + 1))).drewN m) R g c L (i + 1) e) := Lib.hid fun n m => by
    have h1 := ((h.new (below_drewN (Below.refl _ _) n)).set_ (i + 1)).new (below_drewN (Below.refl _ _) m)
    rw [hcast] at h1
    exact h1
  have HG1 : Hid (∀ n m, w.grownBy (((w.drewN n).setCell ⟨R, 1, none⟩ (.int .i64 ((i : Int) + 1))).drewN m) (some R)) := Lib.hid fun n m =>
    ((grown_of_below (below_drewN (Below.refl w.heap.size w) n) (some R)).trans (setCell_grown (w.drewN n) ⟨R, 1, none⟩ (.int .i64 ((i : Int) + 1)))).trans (grown_of_below (below_drewN (Below.refl _ _) m) (some R))
  have hne2 : (⟨R, 1, none⟩ : Addr) ≠ ⟨g, i, none⟩ := fun e => by injection e with e1; exact hne e1.symm
  have k1 : IntKind.i64.wrap ((i : Int) + 1 - 1) = (i : Int) := by rw [IntWalk.i64_in _ (by omega)]; omega
  clear h hcast hne
  go_enter Tryz.func90, Tryz.ntmps90
  go_wp2_with fail
  go_quiet (fail)
  go_wp2_with fail
  go_quiet (fail)
  go_wp2_with fail
  go_ret2
  refine ⟨rfl, ?_, ?_⟩
  · exact H1.out _ _
  · exact HG1.out _ _
end Go.Proofs.YtpgnfianffjpnaaGreatDoor
