/- Sets, plain: setL step by step; rows and blocks kept by what grows. -/
import Derived.Test.YtdjfakampjbgeaaGreatDoorGbO
import Derived.Laws.Tables
namespace Go.Proofs.YtdjfakampjbgeaaGreatDoor
open Go.RowKit
namespace Gl
theorem setL_nil (n : Nat) (f : Bool) (fs ts : List UInt8) : setL (n + 1) f [] fs ts = none := by rw [setL]
theorem setL_end (n : Nat) (r : List UInt8) (fs ts : List UInt8) : setL (n + 1) false (93 :: r) fs ts = some ((fs, ts), r) := by rw [setL]; simp
theorem setL_none {n : Nat} {f : Bool} {x : UInt8} {r : List UInt8} {fs ts : List UInt8} (hx : x ≠ 93 ∨ f = true) (h : oneL (x :: r) = none) : setL (n + 1) f (x :: r) fs ts = none := by
  rw [setL, if_neg (by rintro ⟨a, b⟩; rcases hx with hx | hx; exact hx a; rw [hx] at b; cases b), h]
theorem setL_rnone {n : Nat} {f : Bool} {x c z : UInt8} {r r2 : List UInt8} {fs ts : List UInt8} (hx : x ≠ 93 ∨ f = true) (h : oneL (x :: r) = some (c, 45 :: z :: r2)) (hz : z ≠ 93) (h2 : oneL (z :: r2) = none) : setL (n + 1) f (x :: r) fs ts = none := by
  rw [setL, if_neg (by rintro ⟨a, b⟩; rcases hx with hx | hx; exact hx a; rw [hx] at b; cases b), h]
  simp only [hz, ne_eq, not_false_eq_true, and_self, if_true, h2]
theorem setL_rlt {n : Nat} {f : Bool} {x c d z : UInt8} {r r2 r3 : List UInt8} {fs ts : List UInt8} (hx : x ≠ 93 ∨ f = true) (h : oneL (x :: r) = some (c, 45 :: z :: r2)) (hz : z ≠ 93) (h2 : oneL (z :: r2) = some (d, r3)) (hd : d < c) : setL (n + 1) f (x :: r) fs ts = none := by
  rw [setL, if_neg (by rintro ⟨a, b⟩; rcases hx with hx | hx; exact hx a; rw [hx] at b; cases b), h]
  simp only [hz, ne_eq, not_false_eq_true, and_self, if_true, h2, hd]
theorem setL_rng {n : Nat} {f : Bool} {x c d z : UInt8} {r r2 r3 : List UInt8} {fs ts : List UInt8} (hx : x ≠ 93 ∨ f = true) (h : oneL (x :: r) = some (c, 45 :: z :: r2)) (hz : z ≠ 93) (h2 : oneL (z :: r2) = some (d, r3)) (hd : ¬ d < c) : setL (n + 1) f (x :: r) fs ts = setL n false r3 (fs ++ [c]) (ts ++ [d]) := by
  rw [setL, if_neg (by rintro ⟨a, b⟩; rcases hx with hx | hx; exact hx a; rw [hx] at b; cases b), h]
  simp only [hz, ne_eq, not_false_eq_true, and_self, if_true, h2, hd, if_false]
theorem setL_one2 {n : Nat} {f : Bool} {x c y z : UInt8} {r r2 : List UInt8} {fs ts : List UInt8} (hx : x ≠ 93 ∨ f = true) (h : oneL (x :: r) = some (c, y :: z :: r2)) (hz : y ≠ 45 ∨ z = 93) : setL (n + 1) f (x :: r) fs ts = setL n false (y :: z :: r2) (fs ++ [c]) (ts ++ [c]) := by
  rw [setL, if_neg (by rintro ⟨a, b⟩; rcases hx with hx | hx; exact hx a; rw [hx] at b; cases b), h]
  simp only
  rw [if_neg (by rintro ⟨a, b⟩; rcases hz with hz | hz; exact hz a; exact b hz)]
theorem setL_one1 {n : Nat} {f : Bool} {x c : UInt8} {r r2 : List UInt8} {fs ts : List UInt8} (hx : x ≠ 93 ∨ f = true) (h : oneL (x :: r) = some (c, r2)) (hl : r2.length ≤ 1) : setL (n + 1) f (x :: r) fs ts = setL n false r2 (fs ++ [c]) (ts ++ [c]) := by
  rw [setL, if_neg (by rintro ⟨a, b⟩; rcases hx with hx | hx; exact hx a; rw [hx] at b; cases b), h]
  match r2, hl with
  | [], _ => rfl
  | [_], _ => rfl
end Gl
theorem oneN_cases {l : List UInt8} (h : l ≠ []) : (Gl.oneL l = none ∧ oneN l = (0, 0)) ∨ ∃ c n, Gl.oneL l = some (c, l.drop n) ∧ oneN l = (c, n) ∧ 1 ≤ n ∧ n ≤ 2 ∧ n ≤ l.length := by
  match l, h with
  | c :: r, _ =>
    by_cases hc : c = 92
    · match r with
      | [] => exact .inl ⟨oneL_end hc, by rw [oneN, oneL_end hc]⟩
      | d :: r => exact .inr ⟨d, 2, by rw [oneL_esc hc]; rfl, by rw [oneN, oneL_esc hc]; simp; omega, by omega, by omega, by simp⟩
    · exact .inr ⟨c, 1, by rw [oneL_no hc]; rfl, by rw [oneN, oneL_no hc]; simp, by omega, by omega, by simp⟩
theorem one_at (s : ByteArray) (k : Nat) (hk : k < s.size) (w : World) {c : UInt8} {n : Nat} (H : Hid (oneN ((bl s).drop k) = (c, n))) : Calls Tryz.prog 94 #[.string (s.extract k s.size)] w fun e w' => e = .returned (.tuple #[.int .u8 (c.toNat : Int), .int .i64 (n : Int)]) ∧ w = w' := by
  have := one_any s k hk w
  rwa [H.out] at this
theorem slice_l (s : ByteArray) (a : Nat) (ai : Int) (ha : ai = (a : Int)) (has : a ≤ s.size) : ∀ wx, (Instr.slice 9 (.string s) (some (.int .i64 ai)) none none).run Tryz.prog wx = .ok (.string (s.extract a s.size)) wx := by
  subst ha
  intro wx
  rw [run_slice_string_l (ht := Tryz.underlying9) (h0 := by omega) (h1 := by omega)]
  simp
theorem setCell_grown (W : World) (p : Addr) (v : Value) : W.grownBy (W.setCell p v) (some p.block) :=
  ⟨rfl, rfl, rfl, by show W.heap.size ≤ (W.heap.modify _ _).size; rw [Array.size_modify]; exact Nat.le_refl _, fun k _ hk => Below.heap_setCell W p v k (fun e => hk (by rw [e]))⟩
theorem Blk.grown {W W' : World} {g : Nat} {t : TypeId} {cs : Array Value} {row : Option Nat} (h : Blk W g t cs) (hg : W.grownBy W' row) (hr : row ≠ some g) : Blk W' g t cs :=
  (hg.block g h.lt (fun e => hr e.symm)).trans h
theorem news_at (w : World) (n : Nat) (hn : n = w.heap.size) (cs : List Value) (e : TypeId) : ∀ (j : Nat) (u : Value), cs[j]? = some u → (w.alloc (.cells cs.toArray e)).cell? ((⟨n, 0, none⟩ : Addr).add j) = some u := by
  subst hn
  exact news_alloc w cs e
theorem byteT : ElemT Tryz.prog 74 5 (.int .u8 0) 1 := ⟨Tryz.underlying74, by kernel_rfl, rfl⟩
theorem mk_size : (Tryz.prog.info? 124).map (·.size) = some 4 := by kernel_rfl
theorem load_mk {w : World} {g : Nat} {a b c d : Value} (hg : Blk w g 124 #[a, b, c, d]) : (loadVar 124 ⟨g, 0, none⟩).run Tryz.prog w = .ok (.agg #[a, b, c, d]) w :=
  run_loadVar_row w g _ _ #[a, b, c, d] (0, 0) _ hg Tryz.underlying124 rfl mk_size
/-- results out of a block of four cells and two temporaries. -/
theorem results_mk {fn : Func} (hf : fn.results = #[.cell 2 124, .tmp 3, .tmp 4]) {tmps : Array Value} {w : World} {g : Nat} {a b c d v u : Value} (hp : tmps.getD 2 undef = .pointer (some ⟨g, 0, none⟩)) (hv : tmps.getD 3 undef = v) (hu : tmps.getD 4 undef = u) (hg : Blk w g 124 #[a, b, c, d]) :
    (results fn tmps).run Tryz.prog w = .ok (.tuple #[.agg #[a, b, c, d], v, u]) w := by
  have hp' : tmps[2]?.getD undef = .pointer (some ⟨g, 0, none⟩) := by simpa using hp
  have hv' : tmps[3]?.getD undef = v := by simpa using hv
  have hu' : tmps[4]?.getD undef = u := by simpa using hu
  simp [results, hf, hp', hv', hu', asAddr, load_mk hg]
theorem setRow_size (w : World) (g : Nat) (cs : Array Value) : (w.setRow g cs).heap.size = w.heap.size := by simp [World.setRow]
theorem setRow_grown (w : World) (g : Nat) (cs : Array Value) : w.grownBy (w.setRow g cs) (some g) :=
  ⟨rfl, rfl, rfl, by rw [setRow_size]; exact Nat.le_refl _, fun k _ hk => by
    have : g ≠ k := fun e => hk (by rw [e])
    simp [World.setRow, Array.getElem?_modify, this]⟩
/-- a mark stored whole. -/
theorem wpList_store_mk {W : World} {ops : Array Oper} {rest : List Oper} {o : Oper} {a : Act} {Q : Exit → Act → World → Prop} (hgd : o.guard = none) (x y : Operand) (ho : o.op = .store 124 x y)
    (g : Nat) (u0 u1 u2 u3 : Value) (hx : a.eval x = .pointer (some ⟨g, 0, none⟩)) (hy : a.eval y = .agg #[u0, u1, u2, u3]) (p0 p1 p2 p3 : Value) (hg : Blk W g 124 #[p0, p1, p2, p3]) (h1 : (#[u0, u1, u2, u3] : Array Value).all (·.oneCell') = true)
    (hk : ∀ w', Blk w' g 124 #[u0, u1, u2, u3] → W.grownBy w' (some g) → w'.heap.size = W.heap.size → wpList Tryz.prog ops Q rest (a.put o.dst undef) w') : wpList Tryz.prog ops Q (o :: rest) a W :=
  wpList_store_row hgd 124 x y ho g #[u0, u1, u2, u3] hx hy _ #[p0, p1, p2, p3] hg mk_size rfl h1 (hk _ (setRow_heap W g _ _ _ _ hg) (setRow_grown _ _ _) (setRow_size _ _ _))
end Go.Proofs.YtdjfakampjbgeaaGreatDoor
