/- What the walk of check.File uses. -/
import Derived.Test.YtdaejggcjjdhkaaGreatDoorCkSf
import Derived.Test.YtdaejggcjjdhkaaGreatDoorMkB
import Derived.Test.YtdaejggcjjdhkaaGreatDoorProg
import Derived.Test.YtdaejggcjjdhkaaGreatDoorMkA
import Derived.Maps.OwnSet
import Derived.Maps.Views
import Derived.StringKeys
import Derived.Test.YtdaejggcjjdhkaaGreatDoorMkF
import Derived.Test.YtdaejggcjjdhkaaGreatDoorExY
namespace Go.Proofs.YtdaejggcjjdhkaaGreatDoor
open Go Go.RowKit
namespace Ck
/-- what is told of args that are left, and the stages behind. -/
def restA (e : UInt8) (ss : List St) (gs : List Sg) : Option (Nat × Int) := match argsL e ss with
  | some x => some x
  | none => stagesL e [] gs
/-- what is told of steps that are left, and the stages behind. -/
def restS (e : UInt8) (ss : List St) (names : List (List UInt8)) (gs : List Sg) : Option (Nat × Int) := match stepsL e ss with
  | some x => some x
  | none => stagesL e names gs
theorem restA_nil (e : UInt8) (gs : List Sg) : restA e [] gs = stagesL e [] gs := rfl
theorem restA_op {e : UInt8} {s : St} {r : List St} {gs : List Sg} (h : s.op ≠ 1) : restA e (s :: r) gs = some (19, s.line) := by rw [restA, argsL, if_pos h]
theorem restA_bad {e : UInt8} {s : St} {r : List St} {gs : List Sg} (h : s.op = 1) (h2 : stepL s e ≠ 0) : restA e (s :: r) gs = some (stepL s e, s.line) := by rw [restA, argsL, if_neg (fun q => q h), if_pos h2]
theorem restA_ok {e : UInt8} {s : St} {r : List St} {gs : List Sg} (h : s.op = 1) (h2 : stepL s e = 0) : restA e (s :: r) gs = restA e r gs := by rw [restA, argsL, if_neg (fun q => q h), if_neg (fun q => q h2), restA]
theorem restS_nil (e : UInt8) (names : List (List UInt8)) (gs : List Sg) : restS e [] names gs = stagesL e names gs := rfl
theorem restS_bad {e : UInt8} {s : St} {r : List St} {names : List (List UInt8)} {gs : List Sg} (h2 : stepL s e ≠ 0) : restS e (s :: r) names gs = some (stepL s e, s.line) := by rw [restS, stepsL, if_pos h2]
theorem restS_ok {e : UInt8} {s : St} {r : List St} {names : List (List UInt8)} {gs : List Sg} (h2 : stepL s e = 0) : restS e (s :: r) names gs = restS e r names gs := by rw [restS, stepsL, if_neg (fun q => q h2), restS]
theorem stagesL_bad {e : UInt8} {names : List (List UInt8)} {s : Sg} {r : List Sg} {n : Nat} (h : stageL e names s = n) (h0 : n ≠ 0) : stagesL e names (s :: r) = some (n, s.line) := by rw [stagesL, h, if_pos h0]
theorem stagesL_ok {e : UInt8} {names : List (List UInt8)} {s : Sg} {r : List Sg} (h : stageL e names s = 0) : stagesL e names (s :: r) = restS e s.steps (names ++ [s.name]) r := by rw [stagesL, if_neg (fun q => q h)]; rfl
section
variable {e : UInt8} {names : List (List UInt8)} {s : Sg}
theorem sg_bad (h : (badT s.base || badT s.name) = true) : stageL e names s = 6 := by rw [stageL, if_pos h]
theorem sg_short (h : (badT s.base || badT s.name) = false) (h1 : s.base = []) : stageL e names s = 2 := by rw [stageL, if_neg (by rw [h]; exact Bool.false_ne_true), if_pos h1]
theorem sg_word (h : (badT s.base || badT s.name) = false) (h1 : s.base ≠ []) (h2 : wordL e s.base ≠ 0) : stageL e names s = wordL e s.base := by rw [stageL, if_neg (by rw [h]; exact Bool.false_ne_true), if_neg h1, if_pos h2]
theorem sg_name (h : (badT s.base || badT s.name) = false) (h1 : s.base ≠ []) (h2 : wordL e s.base = 0) (h3 : s.name ≠ []) (h4 : stageR s.name = false) : stageL e names s = 8 := by rw [stageL, if_neg (by rw [h]; exact Bool.false_ne_true), if_neg h1, if_neg (fun q => q h2), if_pos ⟨h3, h4⟩]
theorem sg_twice (h : (badT s.base || badT s.name) = false) (h1 : s.base ≠ []) (h2 : wordL e s.base = 0) (h3 : s.name ≠ []) (h4 : stageR s.name = true) (h5 : s.name ∈ names) : stageL e names s = 11 := by rw [stageL, if_neg (by rw [h]; exact Bool.false_ne_true), if_neg h1, if_neg (fun q => q h2), if_neg (fun q => by rw [h4] at q; exact Bool.noConfusion q.2), if_pos ⟨h3, h5⟩]
theorem sg_ok (h : (badT s.base || badT s.name) = false) (h1 : s.base ≠ []) (h2 : wordL e s.base = 0) (h4 : stageR s.name = true) (h5 : s.name ∉ names) : stageL e names s = 0 := by rw [stageL, if_neg (by rw [h]; exact Bool.false_ne_true), if_neg h1, if_neg (fun q => q h2), if_neg (fun q => by rw [h4] at q; exact Bool.noConfusion q.2), if_neg (fun q => h5 q.2)]
theorem sg_none (h : (badT s.base || badT s.name) = false) (h1 : s.base ≠ []) (h2 : wordL e s.base = 0) (h3 : s.name = []) : stageL e names s = 0 := by rw [stageL, if_neg (by rw [h]; exact Bool.false_ne_true), if_neg h1, if_neg (fun q => q h2), if_neg (fun q => q.1 h3), if_neg (fun q => q.1 h3)]
end
section
variable {f : Fl}
theorem file_esc (h : f.escape ≠ 92 ∧ f.escape ≠ 96) : fileL f = some (1, 0) := by rw [fileL, if_pos h]
theorem file_none (h : ¬ (f.escape ≠ 92 ∧ f.escape ≠ 96)) (h1 : f.stages = []) : fileL f = some (2, 0) := by rw [fileL, if_neg h, if_pos h1]
theorem file_many (h : ¬ (f.escape ≠ 92 ∧ f.escape ≠ 96)) (h1 : f.stages ≠ []) (h2 : 32 < f.stages.length ∨ 512 < countL f) : fileL f = some (5, 0) := by rw [fileL, if_neg h, if_neg h1, if_pos h2]
theorem file_go (h : ¬ (f.escape ≠ 92 ∧ f.escape ≠ 96)) (h1 : f.stages ≠ []) (h2 : ¬ (32 < f.stages.length ∨ 512 < countL f)) : fileL f = restA f.escape f.args f.stages := by (rw [fileL, if_neg h, if_neg h1, if_neg h2, restA]) <;> rfl
end
/-- names that are kept: those that are no empty text. -/
def keptN (l : List (List UInt8)) : List (List UInt8) := l.filter fun s => !s.isEmpty
theorem keptN_mem {l : List (List UInt8)} {s : List UInt8} (h : s ≠ []) : s ∈ keptN l ↔ s ∈ l := by
  unfold keptN
  rw [List.mem_filter]
  cases s with
  | nil => exact absurd rfl h
  | cons a r => simp
theorem keptN_snoc (l : List (List UInt8)) (s : List UInt8) : keptN (l ++ [s]) = if s = [] then keptN l else keptN l ++ [s] := by
  unfold keptN
  rw [List.filter_append]
  cases s <;> simp
end Ck
end Go.Proofs.YtdaejggcjjdhkaaGreatDoor
namespace Go.Proofs.YtdaejggcjjdhkaaGreatDoor
open Go Go.RowKit Go.WideMaps
/-- the block is a map that holds these names. -/
def NM (w : World) (b n : Nat) (l : List (List UInt8)) : Prop := ∃ D : DataW Unit, w.ownsMap Tryz.prog 9 (plainElem Tryz.prog 4) b n D ∧ Maps.IsMap D ∧ ∀ s : List UInt8, D.atKey (.string s) (.lit (.bool false)) = .lit (.bool (decide (s ∈ l)))
theorem NM.new (w : World) : NM (w.alloc (.map #[] 0)) w.heap.size 0 [] := ⟨.map [], World.ownsMap_made _ _ _ _, Maps.isMap_empty, fun s => by simp [DataW.atKey]⟩
theorem NM.lt {w : World} {b n : Nat} {l : List (List UInt8)} (h : NM w b n l) : b < w.heap.size := by
  obtain ⟨D, h, _⟩ := h
  exact h.lt
theorem NM.kept {w w' : World} {b n : Nat} {l : List (List UInt8)} {row : Option Nat} (h : NM w b n l) (hg : w.grownBy w' row) (hne : some b ≠ row) : NM w' b n l := by
  obtain ⟨D, h1, h2, h3⟩ := h
  exact ⟨D, h1.kept hg hne, h2, h3⟩
theorem NM.below {w w' : World} {b n B : Nat} {l : List (List UInt8)} (h : NM w b n l) (hb : Below B w w') (hB : b < B) : NM w' b n l := by
  obtain ⟨D, ⟨es, clock, h1, r⟩, h2, h3⟩ := h
  exact ⟨D, ⟨es, clock, (hb.block b hB).trans h1, r⟩, h2, h3⟩
theorem bool_inv {P : Program} {e : TypeId} (he : P.underlying e = some .bool) {v : Value} {z : DataW Unit × List MemPlace} (h : plainElem P e v = some z) : ∃ x, v = .bool x ∧ z.1 = .lit (.bool x) := by
  unfold plainElem at h
  rw [he] at h
  cases v <;> simp at h
  exact ⟨_, rfl, by rw [← h]⟩
theorem NM.look {w : World} {b n : Nat} {l : List (List UInt8)} (h : NM w b n l) (s : List UInt8) (hs : s.length ≤ 2000000) : (Instr.lookup 78 (.map (some b)) (.string (bs s)) false).run Tryz.prog w = .ok (.bool (decide (s ∈ l))) w := by
  obtain ⟨D, h1, h2, h3⟩ := h
  obtain ⟨v, ps, hrun, hv⟩ := h1.lookup (Maps.string_keyed Tryz.underlying9) Tryz.underlying78 (z := .bool false) (by kernel_rfl) (plainElem_bool Tryz.underlying4 false) (keyOf_string_mk Tryz.underlying9 (s := bs s) (by rw [bs_size]; unfold maxLen; omega))
  obtain ⟨x, rfl, hx⟩ := bool_inv Tryz.underlying4 hv
  have e : (bs s).data.toList = s := bl_bs s
  rw [e] at hx
  rw [hrun]
  have q := h3 s
  have hx' : D.atKey (.string s) (.lit (.bool false)) = .lit (.bool x) := hx
  rw [hx'] at q
  rw [Lit.bool.inj (DataW.lit.inj q)]
theorem wpList_nm {w : World} {ops : Array Oper} {rest : List Oper} {o : Oper} {a : Act} {Q : Exit → Act → World → Prop} (hg : o.guard = none) (m x v : Operand) (hop : o.op = Op.mapUpdate 78 m x v)
    (b n : Nat) (l : List (List UInt8)) (hm : a.eval m = .map (some b)) (h : NM w b n l) (hn : n < 100000000000000) (s : List UInt8) (hx : a.eval x = .string (bs s)) (hv : a.eval v = .bool true) (hs : s.length ≤ 2000000)
    (hK : ∀ w', NM w' b (n + 1) (l ++ [s]) → w.grownBy w' (some b) → wpList Tryz.prog ops Q rest (a.put o.dst undef) w') : wpList Tryz.prog ops Q (o :: rest) a w := by
  obtain ⟨D, h1, h2, h3⟩ := h
  have e : (bs s).data.toList = s := bl_bs s
  refine wpList_mapUpdate_own w hg m x v _ hop 9 4 (Maps.string_keyed Tryz.underlying9) Tryz.underlying78 _ b n D hm h1 (by unfold maxLen; omega) _ _ (.string s) hx hv (by
    have := keyOf_string_mk (P := Tryz.prog) Tryz.underlying9 (s := bs s) (by rw [bs_size]; unfold maxLen; omega)
    rwa [e] at this) (.lit (.bool true)) [] (plainElem_bool Tryz.underlying4 true) ?_
  intro w' g1 g2
  refine hK w' ⟨D.put (.string s) (.lit (.bool true)), g1, g1.isMap, fun d => ?_⟩ g2
  by_cases hd : d = s
  · subst hd
    rw [show decide (d ∈ l ++ [d]) = true by simp]
    exact Maps.atKey_put_same h2 (by simp [WideAt.IsKeyLit]) _ _
  · rw [show decide (d ∈ l ++ [s]) = decide (d ∈ l) by simp [hd], ← h3 d]
    exact Maps.atKey_put_other (fun e => hd (by injection e)) _ _
end Go.Proofs.YtdaejggcjjdhkaaGreatDoor
namespace Go.Proofs.YtdaejggcjjdhkaaGreatDoor
open Go Go.RowKit Go.Extern.Stop Go.Stop Go.Extern
theorem stop_bad (line : Int) (n : Nat) (w : World) (hv : ErrVar w) (h0 : n ≠ 0) : Calls Tryz.prog 42 #[.int .i64 line, errV n] w fun e w' => e = .panicked (thrown n line) ∧ Below w.heap.size w w' := by
  rw [errV, if_neg h0]
  exact stop_eno line n w hv
theorem stop_ok (line : Int) (w : World) : Calls Tryz.prog 42 #[.int .i64 line, errV 0] w fun e w' => e = .returned (.tuple #[]) ∧ Below w.heap.size w w' := stop_nil line w
theorem esc_test (e : UInt8) : (((e.toNat : Int) != 92) && ((e.toNat : Int) != 96)) = decide (e ≠ 92 ∧ e ≠ 96) := by
  have h : ∀ k : UInt8, ((e.toNat : Int) != (k.toNat : Int)) = decide (e ≠ k) := fun k => by
    rw [Bool.eq_iff_iff, decide_eq_true_eq, bne_iff_ne, Ne, Ne, ← UInt8.toNat_inj]
    omega
  rw [Bool.decide_and]
  exact congr (congrArg and (h 92)) (h 96)
/-- what stays while check.File walks: the file's block, the error's. -/
structure FIn (w : World) (cs : Array Value) (wx : World) : Prop where
  below : Below w.heap.size w wx
  size : w.heap.size + 2 ≤ wx.heap.size
  file : Blk wx w.heap.size 25 cs
  err : Blk wx (w.heap.size + 1) 32 #[.nilIface]
section
variable {w wx wy : World} {cs : Array Value}
theorem FIn.low (I : FIn w cs wx) {B : Nat} (k : Below B wx wy) (hB : w.heap.size + 2 ≤ B) : FIn w cs wy := ⟨I.below.trans (k.mono (by omega)), Nat.le_trans I.size k.size, I.file.below k (by omega), I.err.below k (by omega)⟩
theorem FIn.new (I : FIn w cs wx) (k : Below wx.heap.size wx wy) : FIn w cs wy := I.low k I.size
theorem FIn.alloc (I : FIn w cs wx) (o : Obj) : FIn w cs (wx.alloc o) := I.new ((Below.refl _ _).alloc (Nat.le_refl _) o)
theorem FIn.grown (I : FIn w cs wx) {b : Nat} (k : wx.grownBy wy (some b)) (hb : w.heap.size + 2 ≤ b) : FIn w cs wy := I.low ((Fx.of_grown k).to_below I.size (fun c e => by injection e with e; omega)) (Nat.le_refl _)
/-- a stop ends the walk. -/
theorem FIn.bad (I : FIn w cs wx) (hV : ErrVar w) {tmps : Array Value} {n line : Int} {x : Option (Nat × Int)} (hp : tmps.getD 2 undef = .pointer (some ⟨w.heap.size + 1, 0, none⟩)) (hx : eFault n line 0 = filV x) :
    bodyPostD Tryz.prog Tryz.f14 (fun r w' => r = .returned (filV x) ∧ Below w.heap.size w w') (.panic (thrown n line)) { tmps := tmps, defers := [{ target := .fn (.func 40) #[.pointer (some ⟨w.heap.size + 1, 0, none⟩)], args := #[] }] } wx :=
  end_fault hp (hV.below I.below hV.lt) I.err fun w3 g => ⟨congrArg Ending.returned hx, I.below.grown g I.below.size (fun k e => by cases e; omega)⟩
end
end Go.Proofs.YtdaejggcjjdhkaaGreatDoor
