/- The greedy walk ends: its measure. -/
import Derived.Test.YtdjfakampjbgeaaGreatDoorProg
import Derived.Test.YtdjfakampjbgeaaGreatDoorOwnK
import Derived.Test.YtdjfakampjbgeaaGreatDoorMA
namespace Go.Proofs.YtdjfakampjbgeaaGreatDoor.Gl
/-- m marks, n letters; star's place and one (0: none), back, i. -/
def meas (m n s b i : Nat) : Nat := ((m + 1 - s) * (n + 2) + (n + 1 - b)) * (n + 2) + (n - i)
theorem meas_lt {n X Y a b : Nat} (h : X < Y) (ha : a ≤ n + 1) : X * (n + 2) + a < Y * (n + 2) + b := by
  have : (X + 1) * (n + 2) ≤ Y * (n + 2) := Nat.mul_le_mul_right _ h
  rw [Nat.add_mul, Nat.one_mul] at this
  omega
theorem meas_star {m n s b i s' b' i' : Nat} (h : s < s') (hs : s' ≤ m) : meas m n s' b' i' < meas m n s b i :=
  meas_lt (meas_lt (by omega) (by omega)) (by omega)
theorem meas_back {m n s b i b' i' : Nat} (h : b < b') (hb : b ≤ n) : meas m n s b' i' < meas m n s b i :=
  meas_lt (by omega) (by omega)
theorem meas_take {m n s b i i' : Nat} (h : i < i') (hi : i < n) : meas m n s b i' < meas m n s b i := by
  unfold meas
  omega
end Go.Proofs.YtdjfakampjbgeaaGreatDoor.Gl
/- Marks and pieces in memory: slices of bytes, rows of marks, rows of pieces, each in blocks that a predicate lets. -/
namespace Go.Proofs.YtdjfakampjbgeaaGreatDoor
open Go.RowKit

/-- blocks that S lets lie on, and S' lets them. -/
def Lies (w w' : World) (S S' : Nat → Prop) : Prop := ∀ g, S g → g < w.heap.size → w'.heap[g]? = w.heap[g]? ∧ S' g
theorem Lies.cell {w w' : World} {S S' : Nat → Prop} (h : Lies w w' S S') {g o : Nat} {v : Value} (hs : S g) (hc : w.cell? ⟨g, o, none⟩ = some v) : w'.cell? ⟨g, o, none⟩ = some v ∧ S' g := by
  have hlt : g < w.heap.size := World.block_lt_of_cell? w _ hc
  obtain ⟨h1, h2⟩ := h g hs hlt
  exact ⟨(World.cell?_of_block h1).trans hc, h2⟩
theorem Lies.of_below {w w' : World} {B : Nat} (h : Below B w w') : Lies w w' (· < B) (· < B) := fun g hg _ => ⟨h.block g hg, hg⟩
/-- a slice of bytes. -/
def RB (w : World) (S : Nat → Prop) (v : Value) (l : List UInt8) : Prop :=
  ∃ A c, v = .slice A l.length c ∧ ∀ j (hj : j < l.length), ∃ g o, A = some ⟨g, o, none⟩ ∧ S g ∧ w.cell? ⟨g, o + j, none⟩ = some (.int .u8 (l[j].toNat : Int))
theorem RB.keep {w w' : World} {S S' : Nat → Prop} {v : Value} {l : List UInt8} (h : RB w S v l) (hk : Lies w w' S S') : RB w' S' v l := by
  obtain ⟨A, c, rfl, hc⟩ := h
  refine ⟨A, c, rfl, fun j hj => ?_⟩
  obtain ⟨g, o, rfl, hs, hv⟩ := hc j hj
  obtain ⟨h1, h2⟩ := hk.cell hs hv
  exact ⟨g, o, rfl, h2, h1⟩
theorem RB.nil (w : World) (S : Nat → Prop) (A : Option Addr) (c : Nat) : RB w S (.slice A 0 c) [] := ⟨A, c, rfl, fun j hj => absurd hj (by simp)⟩
theorem RB.own {w : World} {base n : Nat} {v : Value} {e : TypeId} {l : List UInt8} (h : w.ownsRow base e 1 v n (bc l)) {S : Nat → Prop} (hS : ∀ g, v.ownBlock = some g → S g) : RB w S v l := by
  have hl : l.length = n := by have := h.1; simpa [bc] using this
  rcases h.2 with ⟨rfl, rfl⟩ | ⟨g, cap, cur, rfl, hb, hg, hn, hc, hs, htk⟩
  · obtain rfl : l = [] := List.eq_nil_of_length_eq_zero hl
    exact RB.nil _ _ _ _
  · subst hl
    refine ⟨_, _, rfl, fun j hj => ⟨g, 0, rfl, hS g rfl, ?_⟩⟩
    have := h.cells (g := g) rfl j (.int .u8 (l[j].toNat : Int)) (by simp [bc, hj])
    rwa [Addr.add_lit] at this

/-- the cells of a row of marks. -/
def MkCells (w : World) (S : Nat → Prop) : List Gl.Mk → List Value → Prop
  | [], cs => cs = []
  | m :: ms, cs => ∃ vf vt r, cs = [.bool m.any, .bool m.neg, vf, vt] ++ r ∧ RB w S vf m.fr ∧ RB w S vt m.to ∧ m.fr.length = m.to.length ∧ MkCells w S ms r
theorem MkCells.length {w : World} {S : Nat → Prop} : ∀ {ms : List Gl.Mk} {cs : List Value}, MkCells w S ms cs → cs.length = ms.length * 4
  | [], _, h => by rw [show _ = [] from h]; rfl
  | m :: ms, _, ⟨vf, vt, r, e, _, _, _, h⟩ => by rw [e, List.length_append, MkCells.length h, List.length_cons]; simp; omega
theorem MkCells.keep {w w' : World} {S S' : Nat → Prop} (hk : Lies w w' S S') : ∀ {ms : List Gl.Mk} {cs : List Value}, MkCells w S ms cs → MkCells w' S' ms cs
  | [], _, h => h
  | _ :: _, _, ⟨vf, vt, r, e, h1, h2, h3, h⟩ => ⟨vf, vt, r, e, h1.keep hk, h2.keep hk, h3, MkCells.keep hk h⟩
theorem MkCells.snoc {w : World} {S : Nat → Prop} {m : Gl.Mk} {vf vt : Value} (h1 : RB w S vf m.fr) (h2 : RB w S vt m.to) (h3 : m.fr.length = m.to.length) : ∀ {ms : List Gl.Mk} {cs : List Value}, MkCells w S ms cs → MkCells w S (ms ++ [m]) (cs ++ [.bool m.any, .bool m.neg, vf, vt])
  | [], _, h => ⟨vf, vt, [], by rw [show _ = [] from h]; rfl, h1, h2, h3, rfl⟩
  | _ :: ms, _, ⟨_, _, _, e, k1, k2, k3, h⟩ => ⟨_, _, _, by rw [e]; rfl, k1, k2, k3, MkCells.snoc h1 h2 h3 h⟩
theorem MkCells.at_ {w : World} {S : Nat → Prop} : ∀ {ms : List Gl.Mk} {cs : List Value}, MkCells w S ms cs → ∀ j (hj : j < ms.length), ∃ vf vt, cs[j * 4]? = some (.bool ms[j].any) ∧ cs[j * 4 + 1]? = some (.bool ms[j].neg) ∧ cs[j * 4 + 2]? = some vf ∧ cs[j * 4 + 3]? = some vt ∧ RB w S vf ms[j].fr ∧ RB w S vt ms[j].to ∧ ms[j].fr.length = ms[j].to.length
  | [], _, _, j, hj => absurd hj (by simp)
  | _ :: _, _, ⟨vf, vt, r, e, h1, h2, h3, h⟩, 0, _ => ⟨vf, vt, by rw [e]; rfl, by rw [e]; rfl, by rw [e]; rfl, by rw [e]; rfl, h1, h2, h3⟩
  | m :: ms, _, ⟨vf, vt, r, e, h1, h2, h3, h⟩, j + 1, hj => by
    obtain ⟨vf', vt', c0, c1, c2, c3, k1, k2, k3⟩ := MkCells.at_ h j (by simpa using hj)
    subst e
    refine ⟨vf', vt', ?_, ?_, ?_, ?_, k1, k2, k3⟩
    · rw [show (j + 1) * 4 = j * 4 + 4 by omega]; exact c0
    · rw [show (j + 1) * 4 + 1 = j * 4 + 1 + 4 by omega]; exact c1
    · rw [show (j + 1) * 4 + 2 = j * 4 + 2 + 4 by omega]; exact c2
    · rw [show (j + 1) * 4 + 3 = j * 4 + 3 + 4 by omega]; exact c3
/-- a slice whose cells are so. -/
def RC (w : World) (S : Nat → Prop) (v : Value) (n : Nat) (cs : List Value) : Prop :=
  ∃ A c, v = .slice A n c ∧ ∀ j u, cs[j]? = some u → ∃ g o, A = some ⟨g, o, none⟩ ∧ S g ∧ w.cell? ⟨g, o + j, none⟩ = some u
theorem RC.keep {w w' : World} {S S' : Nat → Prop} {v : Value} {n : Nat} {cs : List Value} (h : RC w S v n cs) (hk : Lies w w' S S') : RC w' S' v n cs := by
  obtain ⟨A, c, rfl, hc⟩ := h
  refine ⟨A, c, rfl, fun j u hu => ?_⟩
  obtain ⟨g, o, rfl, hs, hv⟩ := hc j u hu
  obtain ⟨h1, h2⟩ := hk.cell hs hv
  exact ⟨g, o, rfl, h2, h1⟩
theorem RC.own {w : World} {base n k : Nat} {v : Value} {e : TypeId} {cs : List Value} (h : w.ownsRow base e k v n cs) {S : Nat → Prop} (hS : ∀ g, v.ownBlock = some g → S g) : RC w S v n cs := by
  rcases h.2 with ⟨rfl, rfl⟩ | ⟨g, cap, cur, rfl, hb, hg, hn, hc, hs, htk⟩
  · obtain rfl : cs = [] := List.eq_nil_of_length_eq_zero (by have := h.1; simpa using this)
    exact ⟨none, 0, rfl, fun j u hu => by simp at hu⟩
  · refine ⟨_, _, rfl, fun j u hu => ⟨g, 0, rfl, hS g rfl, ?_⟩⟩
    have := h.cells (g := g) rfl j u hu
    rwa [Addr.add_lit] at this
/-- a slice of marks. -/
def RM (w : World) (S : Nat → Prop) (v : Value) (ms : List Gl.Mk) : Prop := ∃ cs, RC w S v ms.length cs ∧ MkCells w S ms cs
theorem RM.keep {w w' : World} {S S' : Nat → Prop} {v : Value} {ms : List Gl.Mk} (h : RM w S v ms) (hk : Lies w w' S S') : RM w' S' v ms := by
  obtain ⟨cs, h1, h2⟩ := h
  exact ⟨cs, h1.keep hk, h2.keep hk⟩

/-- the cells of a row of pieces. -/
def PcCells (w : World) (S : Nat → Prop) : List Gl.Pc → List Value → Prop
  | [], cs => cs = []
  | p :: ps, cs => ∃ vm r, cs = [.bool p.deep, vm] ++ r ∧ RM w S vm p.marks ∧ PcCells w S ps r
theorem PcCells.length {w : World} {S : Nat → Prop} : ∀ {ps : List Gl.Pc} {cs : List Value}, PcCells w S ps cs → cs.length = ps.length * 2
  | [], _, h => by rw [show _ = [] from h]; rfl
  | p :: ps, _, ⟨vm, r, e, _, h⟩ => by rw [e, List.length_append, PcCells.length h, List.length_cons]; simp; omega
theorem PcCells.keep {w w' : World} {S S' : Nat → Prop} (hk : Lies w w' S S') : ∀ {ps : List Gl.Pc} {cs : List Value}, PcCells w S ps cs → PcCells w' S' ps cs
  | [], _, h => h
  | _ :: _, _, ⟨vm, r, e, h1, h⟩ => ⟨vm, r, e, h1.keep hk, PcCells.keep hk h⟩
theorem PcCells.snoc {w : World} {S : Nat → Prop} {p : Gl.Pc} {vm : Value} (h1 : RM w S vm p.marks) : ∀ {ps : List Gl.Pc} {cs : List Value}, PcCells w S ps cs → PcCells w S (ps ++ [p]) (cs ++ [.bool p.deep, vm])
  | [], _, h => ⟨vm, [], by rw [show _ = [] from h]; rfl, h1, rfl⟩
  | _ :: ps, _, ⟨_, _, e, k1, h⟩ => ⟨_, _, by rw [e]; rfl, k1, PcCells.snoc h1 h⟩
theorem PcCells.at_ {w : World} {S : Nat → Prop} : ∀ {ps : List Gl.Pc} {cs : List Value}, PcCells w S ps cs → ∀ j (hj : j < ps.length), ∃ vm, cs[j * 2]? = some (.bool ps[j].deep) ∧ cs[j * 2 + 1]? = some vm ∧ RM w S vm ps[j].marks
  | [], _, _, j, hj => absurd hj (by simp)
  | _ :: _, _, ⟨vm, r, e, h1, h⟩, 0, _ => ⟨vm, by rw [e]; rfl, by rw [e]; rfl, h1⟩
  | p :: ps, _, ⟨vm, r, e, h1, h⟩, j + 1, hj => by
    obtain ⟨vm', c0, c1, k1⟩ := PcCells.at_ h j (by simpa using hj)
    subst e
    refine ⟨vm', ?_, ?_, k1⟩
    · rw [show (j + 1) * 2 = j * 2 + 2 by omega]; exact c0
    · rw [show (j + 1) * 2 + 1 = j * 2 + 1 + 2 by omega]; exact c1
/-- a slice of pieces. -/
def RP (w : World) (S : Nat → Prop) (v : Value) (ps : List Gl.Pc) : Prop := ∃ cs, RC w S v ps.length cs ∧ PcCells w S ps cs
theorem RP.keep {w w' : World} {S S' : Nat → Prop} {v : Value} {ps : List Gl.Pc} (h : RP w S v ps) (hk : Lies w w' S S') : RP w' S' v ps := by
  obtain ⟨cs, h1, h2⟩ := h
  exact ⟨cs, h1.keep hk, h2.keep hk⟩
end Go.Proofs.YtdjfakampjbgeaaGreatDoor
