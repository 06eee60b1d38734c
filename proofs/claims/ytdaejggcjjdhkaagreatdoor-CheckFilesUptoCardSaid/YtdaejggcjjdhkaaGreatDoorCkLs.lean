/- stratakit: steps lent: their memory; LentStep, LentSteps, walked. (Printed by wip/genlst.py.) -/
import Derived.Test.YtdaejggcjjdhkaaGreatDoorCkLt
import Derived.Test.YtdaejggcjjdhkaaGreatDoorCkLp
import Derived.Test.YtdaejggcjjdhkaaGreatDoorCkLd
import Derived.Test.YtdaejggcjjdhkaaGreatDoorCkSf
namespace Go.Proofs.YtdaejggcjjdhkaaGreatDoor
open Go Go.RowKit
theorem fx_set18 (w : World) (R i : Nat) (u : Value) : Fx (fun b => b = R) w (w.setCell ⟨R, i, none⟩ u) := ⟨rfl, rfl, rfl, by rw [setCell_size]; exact Nat.le_refl _, fun b _ hn => RowKit.Below.heap_setCell _ _ _ _ hn⟩
/-- a list that was lent: a row of the call's own with sixteen elements behind, in a block that is not of X. -/
def LtV (w : World) (X : Nat → Prop) (v : Value) (n : Nat) (cs : List Value) : Prop := ∃ g c, v = .slice (some ⟨g, 0, none⟩) n c ∧ n + 16 ≤ c ∧ ¬ X g ∧ g < w.heap.size ∧ ∀ (j : Nat) (u : Value), cs[j]? = some u → w.cell? ⟨g, j, none⟩ = some u
section
variable {w w' : World} {X X' S : Nat → Prop} {v : Value} {n : Nat} {cs ms : List Value}
theorem LtV.fx (h : LtV w X v n cs) (k : Fx S w w') (hX : ∀ b, b < w.heap.size → S b ∨ X' b → X b) : LtV w' X' v n cs := by
  obtain ⟨g, c, e, hc, hg, hl, hx⟩ := h
  exact ⟨g, c, e, hc, fun h2 => hg (hX g hl (.inr h2)), Nat.lt_of_lt_of_le hl k.size, fun j u hu => k.cell (hx j u hu) fun hs => hg (hX g hl (.inl hs))⟩
theorem LtV.new (h : LtV w X v n cs) (k : Below w.heap.size w w') : LtV w' X v n cs := h.fx (S := fun _ => False) (Fx.new k) fun _ _ h => h.elim False.elim id
theorem LtV.sl (h : LtV w X v n (cs ++ ms)) : SlA w v n cs := by
  obtain ⟨g, c, e, _, _, _, hx⟩ := h
  refine .inr ⟨g, 0, c, e, fun j u hu => ?_⟩
  rw [Nat.zero_add]
  exact hx j u (by rw [List.getElem?_append_left (List.getElem?_eq_some_iff.1 hu).1]; exact hu)
theorem LtV.full (h : LtV w X v n cs) : ∃ g c, v = .slice (some ⟨g, 0, none⟩) n c ∧ n + 16 ≤ c ∧ SlA w (.slice (some ⟨g, 0, none⟩) (n + 16) c) (n + 16) cs := by
  obtain ⟨g, c, e, hc, _, _, hx⟩ := h
  exact ⟨g, c, e, hc, .inr ⟨g, 0, c, rfl, fun j u hu => by rw [Nat.zero_add]; exact hx j u hu⟩⟩
theorem LtV.own {base k g c : Nat} {e : TypeId} (h : w.ownsRow base e k (.slice (some ⟨g, 0, none⟩) (n + 16) c) (n + 16) cs) (hX : ∀ b, base ≤ b → ¬ X b) (hc : n + 16 ≤ c) : LtV w X (.slice (some ⟨g, 0, none⟩) n c) n cs :=
  ⟨g, c, rfl, hc, hX g (h.lt g rfl).1, (h.lt g rfl).2, fun j u hu => by have := h.cells (g := g) rfl j u hu; rwa [Addr.add_lit, Nat.zero_add] at this⟩
end
/-- a step that was lent. -/
structure LSt (w : World) (X : Nat → Prop) (m : SM) : Prop where
  p : LtV w X m.vp m.s.pairs.length (prC m.s.pairs ++ prC (marksP 16))
  t : LtV w X m.vw m.s.words.length (sc m.s.words ++ sc (marksT 16))
  d : LtV w X m.vd m.s.docs.length (doC m.s.docs ++ doC (marksD 16))
  e : LtV w X m.ve m.s.exec.length (sc m.s.exec ++ sc (marksT 16))
theorem LSt.fx {w w' : World} {X X' S : Nat → Prop} {m : SM} (h : LSt w X m) (k : Fx S w w') (hX : ∀ b, b < w.heap.size → S b ∨ X' b → X b) : LSt w' X' m := ⟨h.p.fx k hX, h.t.fx k hX, h.d.fx k hX, h.e.fx k hX⟩
theorem LSt.new {w w' : World} {X : Nat → Prop} {m : SM} (h : LSt w X m) (k : Below w.heap.size w w') : LSt w' X m := ⟨h.p.new k, h.t.new k, h.d.new k, h.e.new k⟩
theorem LSt.ok {w : World} {X : Nat → Prop} {m : SM} (h : LSt w X m) : m.Ok w := ⟨h.p.sl, h.t.sl, h.d.sl, h.e.sl, fun A n c hv => by
  obtain ⟨g, c', e, hc, _⟩ := h.d
  rw [e] at hv
  injection hv with _ h1 h2
  omega⟩
/-- a mark among steps; among stages. -/
def mkS : SM := ⟨⟨0, -7, [], [], false, [], false, [], [], []⟩, .slice none 0 0, .slice none 0 0, .slice none 0 0, .slice none 0 0⟩
def marksS (n : Nat) : List SM := List.replicate n mkS
/-- steps that were lent. -/
structure LSs (w : World) (X : Nat → Prop) (v : Value) (l : List SM) : Prop where
  r : LtV w X v l.length (smC l ++ smC (marksS 16))
  m : ∀ m ∈ l, LSt w X m
theorem LSs.fx {w w' : World} {X X' S : Nat → Prop} {v : Value} {l : List SM} (h : LSs w X v l) (k : Fx S w w') (hX : ∀ b, b < w.heap.size → S b ∨ X' b → X b) : LSs w' X' v l := ⟨h.r.fx k hX, fun m hm => (h.m m hm).fx k hX⟩
theorem LSs.new {w w' : World} {X : Nat → Prop} {v : Value} {l : List SM} (h : LSs w X v l) (k : Below w.heap.size w w') : LSs w' X v l := ⟨h.r.new k, fun m hm => (h.m m hm).new k⟩
theorem LSs.ok {w : World} {X : Nat → Prop} {v : Value} {l : List SM} (h : LSs w X v l) : StsA w v l := ⟨h.r.sl, fun m hm => (h.m m hm).ok⟩
theorem smC_app (a b : List SM) : smC (a ++ b) = smC a ++ smC b := by simp [smC]
theorem prC_app (a b : List Ck.Pr) : prC (a ++ b) = prC a ++ prC b := by simp [prC]
theorem doC_app (a b : List Lx.Dc) : doC (a ++ b) = doC a ++ doC b := by simp [doC]
theorem smC_snoc (l : List SM) (x : SM) : smC (l ++ [x]) = smC l ++ smL x := by simp [smC]
theorem stepTl : StK Tryz.prog 41 10 := ⟨⟨_, Tryz.underlying41⟩, by kernel_rfl⟩
theorem stepKl : ElemK Tryz.prog 22 41 (.agg #[.int .i64 0, .int .i64 0, .string ⟨#[]⟩, .string ⟨#[]⟩, .bool false, .slice none 0 0, .bool false, .slice none 0 0, .slice none 0 0, .slice none 0 0]) 10 160 := ⟨Tryz.underlying22, by kernel_rfl, rfl, by decide⟩
set_option maxRecDepth 100000 in
set_option maxHeartbeats 2000000 in
theorem lentStep_any (m : SM) (w : World) (hok : m.Ok w) (hn : m.s.words.length + m.s.exec.length + m.s.pairs.length + m.s.docs.length ≤ 1050000) : Calls Tryz.prog 89 #[.agg #[.int .i64 m.s.op, .int .i64 m.s.line, .string (bs m.s.from_), .string (bs m.s.mode), .bool m.s.force, m.vp, .bool m.s.bare, m.vw, m.vd, m.ve]] w fun r w' => (∃ vp vw vd ve, r = .returned (.agg #[.int .i64 m.s.op, .int .i64 m.s.line, .string (bs m.s.from_), .string (bs m.s.mode), .bool m.s.force, vp, .bool m.s.bare, vw, vd, ve]) ∧ LSt w' (fun b => b < w.heap.size) ⟨m.s, vp, vw, vd, ve⟩) ∧ Below w.heap.size w w' := by
  obtain ⟨s, vp, vw, vd, ve⟩ := m
  have hcp : SlA w vp s.pairs.length (prC s.pairs) := hok.cp
  have hcw : SlA w vw s.words.length (sc s.words) := hok.cw
  have hcd : SlA w vd s.docs.length (doC s.docs) := hok.cd
  have hce : SlA w ve s.exec.length (sc s.exec) := hok.ce
  dsimp only at hn ⊢
  clear hok
  obtain ⟨Ap, kp, rfl⟩ := hcp.form
  obtain ⟨Aw, kw, rfl⟩ := hcw.form
  obtain ⟨Ad, kd, rfl⟩ := hcd.form
  obtain ⟨Ae, ke, rfl⟩ := hce.form
  have HP := Lib.hid hcp
  have HW := Lib.hid hcw
  have HD := Lib.hid hcd
  have HE := Lib.hid hce
  clear hcp hcw hcd hce
  obtain ⟨w1, hw1⟩ : ∃ y, ((w.alloc (.cells #[Value.int .i64 s.op, Value.int .i64 s.line, Value.string (bs s.from_), Value.string (bs s.mode), Value.bool s.force, Value.slice Ap s.pairs.length kp, Value.bool s.bare, Value.slice Aw s.words.length kw, Value.slice Ad s.docs.length kd, Value.slice Ae s.exec.length ke] 41)).alloc (.cells #[.int .i64 0, .int .i64 0, .string ⟨#[]⟩, .string ⟨#[]⟩, .bool false, .slice none 0 0, .bool false, .slice none 0 0, .slice none 0 0, .slice none 0 0] 41)).alloc (.cells #[Value.int .i64 s.op, Value.int .i64 s.line, Value.string (bs s.from_), Value.string (bs s.mode), Value.bool s.force, Value.slice Ap s.pairs.length kp, Value.bool s.bare, Value.slice Aw s.words.length kw, Value.slice Ad s.docs.length kd, Value.slice Ae s.exec.length ke] 41) = y := ⟨_, rfl⟩
  have HB1 : Hid (Below w.heap.size w w1) := Lib.hid (by rw [← hw1]; exact (((Below.refl _ _).alloc (Nat.le_refl _) _).alloc (by rw [World.size_alloc]; omega) _).alloc (by rw [World.size_alloc, World.size_alloc]; omega) _)
  have K0 : Hid (Blk w1 w.heap.size 41 #[Value.int .i64 s.op, Value.int .i64 s.line, Value.string (bs s.from_), Value.string (bs s.mode), Value.bool s.force, Value.slice Ap s.pairs.length kp, Value.bool s.bare, Value.slice Aw s.words.length kw, Value.slice Ad s.docs.length kd, Value.slice Ae s.exec.length ke]) := Lib.hid (by rw [← hw1]; exact ((Blk.new w _ _).alloc _).alloc _)
  have K1 : Hid (Blk w1 (w.heap.size + 1) 41 #[.int .i64 0, .int .i64 0, .string ⟨#[]⟩, .string ⟨#[]⟩, .bool false, .slice none 0 0, .bool false, .slice none 0 0, .slice none 0 0, .slice none 0 0]) := Lib.hid (by have q := Blk.new (w.alloc (.cells #[Value.int .i64 s.op, Value.int .i64 s.line, Value.string (bs s.from_), Value.string (bs s.mode), Value.bool s.force, Value.slice Ap s.pairs.length kp, Value.bool s.bare, Value.slice Aw s.words.length kw, Value.slice Ad s.docs.length kd, Value.slice Ae s.exec.length ke] 41)) 41 #[.int .i64 0, .int .i64 0, .string ⟨#[]⟩, .string ⟨#[]⟩, .bool false, .slice none 0 0, .bool false, .slice none 0 0, .slice none 0 0, .slice none 0 0]; rw [World.size_alloc] at q; rw [← hw1]; exact q.alloc _)
  have K2 : Hid (Blk w1 (w.heap.size + 1 + 1) 41 #[Value.int .i64 s.op, Value.int .i64 s.line, Value.string (bs s.from_), Value.string (bs s.mode), Value.bool s.force, Value.slice Ap s.pairs.length kp, Value.bool s.bare, Value.slice Aw s.words.length kw, Value.slice Ad s.docs.length kd, Value.slice Ae s.exec.length ke]) := Lib.hid (by have q := Blk.new ((w.alloc (.cells #[Value.int .i64 s.op, Value.int .i64 s.line, Value.string (bs s.from_), Value.string (bs s.mode), Value.bool s.force, Value.slice Ap s.pairs.length kp, Value.bool s.bare, Value.slice Aw s.words.length kw, Value.slice Ad s.docs.length kd, Value.slice Ae s.exec.length ke] 41)).alloc (.cells #[.int .i64 0, .int .i64 0, .string ⟨#[]⟩, .string ⟨#[]⟩, .bool false, .slice none 0 0, .bool false, .slice none 0 0, .slice none 0 0, .slice none 0 0] 41)) 41 #[Value.int .i64 s.op, Value.int .i64 s.line, Value.string (bs s.from_), Value.string (bs s.mode), Value.bool s.force, Value.slice Ap s.pairs.length kp, Value.bool s.bare, Value.slice Aw s.words.length kw, Value.slice Ad s.docs.length kd, Value.slice Ae s.exec.length ke]; rw [World.size_alloc, World.size_alloc] at q; rw [← hw1]; exact q)
  have HW1 := Lib.hid hw1
  clear hw1
  have a0 : ((w.alloc (.cells #[Value.int .i64 s.op, Value.int .i64 s.line, Value.string (bs s.from_), Value.string (bs s.mode), Value.bool s.force, Value.slice Ap s.pairs.length kp, Value.bool s.bare, Value.slice Aw s.words.length kw, Value.slice Ad s.docs.length kd, Value.slice Ae s.exec.length ke] 41)).alloc (.cells #[.int .i64 0, .int .i64 0, .string ⟨#[]⟩, .string ⟨#[]⟩, .bool false, .slice none 0 0, .bool false, .slice none 0 0, .slice none 0 0, .slice none 0 0] 41)).cell? ⟨w.heap.size, 0, none⟩ = some (Value.int .i64 s.op) := (((Blk.new w 41 #[Value.int .i64 s.op, Value.int .i64 s.line, Value.string (bs s.from_), Value.string (bs s.mode), Value.bool s.force, Value.slice Ap s.pairs.length kp, Value.bool s.bare, Value.slice Aw s.words.length kw, Value.slice Ad s.docs.length kd, Value.slice Ae s.exec.length ke]).alloc _)).cell 0
  have a1 : ((w.alloc (.cells #[Value.int .i64 s.op, Value.int .i64 s.line, Value.string (bs s.from_), Value.string (bs s.mode), Value.bool s.force, Value.slice Ap s.pairs.length kp, Value.bool s.bare, Value.slice Aw s.words.length kw, Value.slice Ad s.docs.length kd, Value.slice Ae s.exec.length ke] 41)).alloc (.cells #[.int .i64 0, .int .i64 0, .string ⟨#[]⟩, .string ⟨#[]⟩, .bool false, .slice none 0 0, .bool false, .slice none 0 0, .slice none 0 0, .slice none 0 0] 41)).cell? ⟨w.heap.size, 1, none⟩ = some (Value.int .i64 s.line) := (((Blk.new w 41 #[Value.int .i64 s.op, Value.int .i64 s.line, Value.string (bs s.from_), Value.string (bs s.mode), Value.bool s.force, Value.slice Ap s.pairs.length kp, Value.bool s.bare, Value.slice Aw s.words.length kw, Value.slice Ad s.docs.length kd, Value.slice Ae s.exec.length ke]).alloc _)).cell 1
  have a2 : ((w.alloc (.cells #[Value.int .i64 s.op, Value.int .i64 s.line, Value.string (bs s.from_), Value.string (bs s.mode), Value.bool s.force, Value.slice Ap s.pairs.length kp, Value.bool s.bare, Value.slice Aw s.words.length kw, Value.slice Ad s.docs.length kd, Value.slice Ae s.exec.length ke] 41)).alloc (.cells #[.int .i64 0, .int .i64 0, .string ⟨#[]⟩, .string ⟨#[]⟩, .bool false, .slice none 0 0, .bool false, .slice none 0 0, .slice none 0 0, .slice none 0 0] 41)).cell? ⟨w.heap.size, 2, none⟩ = some (Value.string (bs s.from_)) := (((Blk.new w 41 #[Value.int .i64 s.op, Value.int .i64 s.line, Value.string (bs s.from_), Value.string (bs s.mode), Value.bool s.force, Value.slice Ap s.pairs.length kp, Value.bool s.bare, Value.slice Aw s.words.length kw, Value.slice Ad s.docs.length kd, Value.slice Ae s.exec.length ke]).alloc _)).cell 2
  have a3 : ((w.alloc (.cells #[Value.int .i64 s.op, Value.int .i64 s.line, Value.string (bs s.from_), Value.string (bs s.mode), Value.bool s.force, Value.slice Ap s.pairs.length kp, Value.bool s.bare, Value.slice Aw s.words.length kw, Value.slice Ad s.docs.length kd, Value.slice Ae s.exec.length ke] 41)).alloc (.cells #[.int .i64 0, .int .i64 0, .string ⟨#[]⟩, .string ⟨#[]⟩, .bool false, .slice none 0 0, .bool false, .slice none 0 0, .slice none 0 0, .slice none 0 0] 41)).cell? ⟨w.heap.size, 3, none⟩ = some (Value.string (bs s.mode)) := (((Blk.new w 41 #[Value.int .i64 s.op, Value.int .i64 s.line, Value.string (bs s.from_), Value.string (bs s.mode), Value.bool s.force, Value.slice Ap s.pairs.length kp, Value.bool s.bare, Value.slice Aw s.words.length kw, Value.slice Ad s.docs.length kd, Value.slice Ae s.exec.length ke]).alloc _)).cell 3
  have a4 : ((w.alloc (.cells #[Value.int .i64 s.op, Value.int .i64 s.line, Value.string (bs s.from_), Value.string (bs s.mode), Value.bool s.force, Value.slice Ap s.pairs.length kp, Value.bool s.bare, Value.slice Aw s.words.length kw, Value.slice Ad s.docs.length kd, Value.slice Ae s.exec.length ke] 41)).alloc (.cells #[.int .i64 0, .int .i64 0, .string ⟨#[]⟩, .string ⟨#[]⟩, .bool false, .slice none 0 0, .bool false, .slice none 0 0, .slice none 0 0, .slice none 0 0] 41)).cell? ⟨w.heap.size, 4, none⟩ = some (Value.bool s.force) := (((Blk.new w 41 #[Value.int .i64 s.op, Value.int .i64 s.line, Value.string (bs s.from_), Value.string (bs s.mode), Value.bool s.force, Value.slice Ap s.pairs.length kp, Value.bool s.bare, Value.slice Aw s.words.length kw, Value.slice Ad s.docs.length kd, Value.slice Ae s.exec.length ke]).alloc _)).cell 4
  have a5 : ((w.alloc (.cells #[Value.int .i64 s.op, Value.int .i64 s.line, Value.string (bs s.from_), Value.string (bs s.mode), Value.bool s.force, Value.slice Ap s.pairs.length kp, Value.bool s.bare, Value.slice Aw s.words.length kw, Value.slice Ad s.docs.length kd, Value.slice Ae s.exec.length ke] 41)).alloc (.cells #[.int .i64 0, .int .i64 0, .string ⟨#[]⟩, .string ⟨#[]⟩, .bool false, .slice none 0 0, .bool false, .slice none 0 0, .slice none 0 0, .slice none 0 0] 41)).cell? ⟨w.heap.size, 5, none⟩ = some (Value.slice Ap s.pairs.length kp) := (((Blk.new w 41 #[Value.int .i64 s.op, Value.int .i64 s.line, Value.string (bs s.from_), Value.string (bs s.mode), Value.bool s.force, Value.slice Ap s.pairs.length kp, Value.bool s.bare, Value.slice Aw s.words.length kw, Value.slice Ad s.docs.length kd, Value.slice Ae s.exec.length ke]).alloc _)).cell 5
  have a6 : ((w.alloc (.cells #[Value.int .i64 s.op, Value.int .i64 s.line, Value.string (bs s.from_), Value.string (bs s.mode), Value.bool s.force, Value.slice Ap s.pairs.length kp, Value.bool s.bare, Value.slice Aw s.words.length kw, Value.slice Ad s.docs.length kd, Value.slice Ae s.exec.length ke] 41)).alloc (.cells #[.int .i64 0, .int .i64 0, .string ⟨#[]⟩, .string ⟨#[]⟩, .bool false, .slice none 0 0, .bool false, .slice none 0 0, .slice none 0 0, .slice none 0 0] 41)).cell? ⟨w.heap.size, 6, none⟩ = some (Value.bool s.bare) := (((Blk.new w 41 #[Value.int .i64 s.op, Value.int .i64 s.line, Value.string (bs s.from_), Value.string (bs s.mode), Value.bool s.force, Value.slice Ap s.pairs.length kp, Value.bool s.bare, Value.slice Aw s.words.length kw, Value.slice Ad s.docs.length kd, Value.slice Ae s.exec.length ke]).alloc _)).cell 6
  have a7 : ((w.alloc (.cells #[Value.int .i64 s.op, Value.int .i64 s.line, Value.string (bs s.from_), Value.string (bs s.mode), Value.bool s.force, Value.slice Ap s.pairs.length kp, Value.bool s.bare, Value.slice Aw s.words.length kw, Value.slice Ad s.docs.length kd, Value.slice Ae s.exec.length ke] 41)).alloc (.cells #[.int .i64 0, .int .i64 0, .string ⟨#[]⟩, .string ⟨#[]⟩, .bool false, .slice none 0 0, .bool false, .slice none 0 0, .slice none 0 0, .slice none 0 0] 41)).cell? ⟨w.heap.size, 7, none⟩ = some (Value.slice Aw s.words.length kw) := (((Blk.new w 41 #[Value.int .i64 s.op, Value.int .i64 s.line, Value.string (bs s.from_), Value.string (bs s.mode), Value.bool s.force, Value.slice Ap s.pairs.length kp, Value.bool s.bare, Value.slice Aw s.words.length kw, Value.slice Ad s.docs.length kd, Value.slice Ae s.exec.length ke]).alloc _)).cell 7
  have a8 : ((w.alloc (.cells #[Value.int .i64 s.op, Value.int .i64 s.line, Value.string (bs s.from_), Value.string (bs s.mode), Value.bool s.force, Value.slice Ap s.pairs.length kp, Value.bool s.bare, Value.slice Aw s.words.length kw, Value.slice Ad s.docs.length kd, Value.slice Ae s.exec.length ke] 41)).alloc (.cells #[.int .i64 0, .int .i64 0, .string ⟨#[]⟩, .string ⟨#[]⟩, .bool false, .slice none 0 0, .bool false, .slice none 0 0, .slice none 0 0, .slice none 0 0] 41)).cell? ⟨w.heap.size, 8, none⟩ = some (Value.slice Ad s.docs.length kd) := (((Blk.new w 41 #[Value.int .i64 s.op, Value.int .i64 s.line, Value.string (bs s.from_), Value.string (bs s.mode), Value.bool s.force, Value.slice Ap s.pairs.length kp, Value.bool s.bare, Value.slice Aw s.words.length kw, Value.slice Ad s.docs.length kd, Value.slice Ae s.exec.length ke]).alloc _)).cell 8
  have a9 : ((w.alloc (.cells #[Value.int .i64 s.op, Value.int .i64 s.line, Value.string (bs s.from_), Value.string (bs s.mode), Value.bool s.force, Value.slice Ap s.pairs.length kp, Value.bool s.bare, Value.slice Aw s.words.length kw, Value.slice Ad s.docs.length kd, Value.slice Ae s.exec.length ke] 41)).alloc (.cells #[.int .i64 0, .int .i64 0, .string ⟨#[]⟩, .string ⟨#[]⟩, .bool false, .slice none 0 0, .bool false, .slice none 0 0, .slice none 0 0, .slice none 0 0] 41)).cell? ⟨w.heap.size, 9, none⟩ = some (Value.slice Ae s.exec.length ke) := (((Blk.new w 41 #[Value.int .i64 s.op, Value.int .i64 s.line, Value.string (bs s.from_), Value.string (bs s.mode), Value.bool s.force, Value.slice Ap s.pairs.length kp, Value.bool s.bare, Value.slice Aw s.words.length kw, Value.slice Ad s.docs.length kd, Value.slice Ae s.exec.length ke]).alloc _)).cell 9
  go_enter Tryz.func89, Tryz.ntmps89
  go_upto_region 2 with fail
  rw [HW1.out]
  clear HW1 a0 a1 a2 a3 a4 a5 a6 a7 a8 a9
  have b5 : w1.cell? ⟨w.heap.size, 5, none⟩ = some (Value.slice Ap s.pairs.length kp) := K0.out.cell 5
  have HC := Lib.hid (lentP_any s.pairs Ap kp w1 (HP.out.new HB1.out) (by omega))
  go_wp2_with fail
  refine HC.out.mono ?_
  rintro a wb1 ⟨⟨gp, cp, rfl, hcp, hop⟩, hb⟩
  have hlx := K2.out.lt
  have Lp : Hid (LtV wb1 (fun b => b < w.heap.size + 3) (.slice (some ⟨gp, 0, none⟩) s.pairs.length cp) s.pairs.length (prC s.pairs ++ prC (marksP 16))) := Lib.hid (by have q := LtV.own (X := fun b => b < w.heap.size + 3) hop (fun b h1 h2 => by have h3 : b < w.heap.size + 3 := h2; omega) hcp; rwa [prC_app] at q)
  have J0 := Lib.hid (K0.out.below hb K0.out.lt)
  have J1 := Lib.hid (K1.out.below hb K1.out.lt)
  have J2 := Lib.hid (K2.out.below hb K2.out.lt)
  have JB := Lib.hid (below_of_below HB1.out hb HB1.out.size)
  clear hb hop HC b5 K0 K1 K2 HB1 hlx
  have y5 : wb1.cell? ⟨w.heap.size + 1 + 1, 5, none⟩ = some (Value.slice Ap s.pairs.length kp) := J2.out.cell 5
  have yf := J2.out.frozen 5
  have kx := fx_set18 wb1 (w.heap.size + 1 + 1) 5 (Value.slice (some ⟨gp, 0, none⟩) s.pairs.length cp)
  have K0 := Lib.hid (kx.blk J0.out (by show ¬ w.heap.size = w.heap.size + 1 + 1; omega))
  have K1 := Lib.hid (kx.blk J1.out (by show ¬ w.heap.size + 1 = w.heap.size + 1 + 1; omega))
  have K2 := Lib.hid (J2.out.set_ 5 (Value.slice (some ⟨gp, 0, none⟩) s.pairs.length cp))
  have HB1 := Lib.hid (JB.out.setCell (p := ⟨w.heap.size + 1 + 1, 5, none⟩) (by show w.heap.size ≤ w.heap.size + 1 + 1; omega) (Value.slice (some ⟨gp, 0, none⟩) s.pairs.length cp))
  have Mp := Lib.hid (Lp.out.fx kx (X' := fun b => b < w.heap.size + 3) (fun b _ hh => hh.elim (fun h => by have h2 : b = w.heap.size + 1 + 1 := h; show b < _; omega) id))
  clear Lp
  have Lp := Mp
  clear Mp
  clear kx J0 J1 J2 JB
  go_upto_region 3 with fail
  obtain ⟨wa1, hwa⟩ : ∃ y, wb1.setCell ⟨w.heap.size + 1 + 1, 5, none⟩ (Value.slice (some ⟨gp, 0, none⟩) s.pairs.length cp) = y := ⟨_, rfl⟩
  rw [hwa] at K0 K1 K2 HB1 Lp
  rw [hwa]
  clear hwa y5 yf
  have b7 : wa1.cell? ⟨w.heap.size, 7, none⟩ = some (Value.slice Aw s.words.length kw) := K0.out.cell 7
  have HC := Lib.hid (lentT_any s.words Aw kw wa1 (HW.out.new HB1.out) (by omega))
  go_wp2_with fail
  refine HC.out.mono ?_
  rintro a wb2 ⟨⟨gt, ct, rfl, hct, hot⟩, hb⟩
  have hlx := K2.out.lt
  have Lt : Hid (LtV wb2 (fun b => b < w.heap.size + 3) (.slice (some ⟨gt, 0, none⟩) s.words.length ct) s.words.length (sc s.words ++ sc (marksT 16))) := Lib.hid (by have q := LtV.own (X := fun b => b < w.heap.size + 3) hot (fun b h1 h2 => by have h3 : b < w.heap.size + 3 := h2; omega) hct; rwa [sc_append] at q)
  have J0 := Lib.hid (K0.out.below hb K0.out.lt)
  have J1 := Lib.hid (K1.out.below hb K1.out.lt)
  have J2 := Lib.hid (K2.out.below hb K2.out.lt)
  have JB := Lib.hid (below_of_below HB1.out hb HB1.out.size)
  have Mp := Lib.hid (Lp.out.new hb)
  clear Lp
  have Lp := Mp
  clear Mp
  clear hb hot HC b7 K0 K1 K2 HB1 hlx
  have y7 : wb2.cell? ⟨w.heap.size + 1 + 1, 7, none⟩ = some (Value.slice Aw s.words.length kw) := J2.out.cell 7
  have yf := J2.out.frozen 7
  have kx := fx_set18 wb2 (w.heap.size + 1 + 1) 7 (Value.slice (some ⟨gt, 0, none⟩) s.words.length ct)
  have K0 := Lib.hid (kx.blk J0.out (by show ¬ w.heap.size = w.heap.size + 1 + 1; omega))
  have K1 := Lib.hid (kx.blk J1.out (by show ¬ w.heap.size + 1 = w.heap.size + 1 + 1; omega))
  have K2 := Lib.hid (J2.out.set_ 7 (Value.slice (some ⟨gt, 0, none⟩) s.words.length ct))
  have HB1 := Lib.hid (JB.out.setCell (p := ⟨w.heap.size + 1 + 1, 7, none⟩) (by show w.heap.size ≤ w.heap.size + 1 + 1; omega) (Value.slice (some ⟨gt, 0, none⟩) s.words.length ct))
  have Mp := Lib.hid (Lp.out.fx kx (X' := fun b => b < w.heap.size + 3) (fun b _ hh => hh.elim (fun h => by have h2 : b = w.heap.size + 1 + 1 := h; show b < _; omega) id))
  clear Lp
  have Lp := Mp
  clear Mp
  have Mt := Lib.hid (Lt.out.fx kx (X' := fun b => b < w.heap.size + 3) (fun b _ hh => hh.elim (fun h => by have h2 : b = w.heap.size + 1 + 1 := h; show b < _; omega) id))
  clear Lt
  have Lt := Mt
  clear Mt
  clear kx J0 J1 J2 JB
  go_upto_region 4 with fail
  obtain ⟨wa2, hwa⟩ : ∃ y, wb2.setCell ⟨w.heap.size + 1 + 1, 7, none⟩ (Value.slice (some ⟨gt, 0, none⟩) s.words.length ct) = y := ⟨_, rfl⟩
  rw [hwa] at K0 K1 K2 HB1 Lp Lt
  rw [hwa]
  clear hwa y7 yf
  have b8 : wa2.cell? ⟨w.heap.size, 8, none⟩ = some (Value.slice Ad s.docs.length kd) := K0.out.cell 8
  have HC := Lib.hid (lentD_any s.docs Ad kd wa2 (HD.out.new HB1.out) (by omega))
  go_wp2_with fail
  refine HC.out.mono ?_
  rintro a wb3 ⟨⟨gd, cd, rfl, hcd, hod⟩, hb⟩
  have hlx := K2.out.lt
  have Ld : Hid (LtV wb3 (fun b => b < w.heap.size + 3) (.slice (some ⟨gd, 0, none⟩) s.docs.length cd) s.docs.length (doC s.docs ++ doC (marksD 16))) := Lib.hid (by have q := LtV.own (X := fun b => b < w.heap.size + 3) hod (fun b h1 h2 => by have h3 : b < w.heap.size + 3 := h2; omega) hcd; rwa [doC_app] at q)
  have J0 := Lib.hid (K0.out.below hb K0.out.lt)
  have J1 := Lib.hid (K1.out.below hb K1.out.lt)
  have J2 := Lib.hid (K2.out.below hb K2.out.lt)
  have JB := Lib.hid (below_of_below HB1.out hb HB1.out.size)
  have Mp := Lib.hid (Lp.out.new hb)
  clear Lp
  have Lp := Mp
  clear Mp
  have Mt := Lib.hid (Lt.out.new hb)
  clear Lt
  have Lt := Mt
  clear Mt
  clear hb hod HC b8 K0 K1 K2 HB1 hlx
  have y8 : wb3.cell? ⟨w.heap.size + 1 + 1, 8, none⟩ = some (Value.slice Ad s.docs.length kd) := J2.out.cell 8
  have yf := J2.out.frozen 8
  have kx := fx_set18 wb3 (w.heap.size + 1 + 1) 8 (Value.slice (some ⟨gd, 0, none⟩) s.docs.length cd)
  have K0 := Lib.hid (kx.blk J0.out (by show ¬ w.heap.size = w.heap.size + 1 + 1; omega))
  have K1 := Lib.hid (kx.blk J1.out (by show ¬ w.heap.size + 1 = w.heap.size + 1 + 1; omega))
  have K2 := Lib.hid (J2.out.set_ 8 (Value.slice (some ⟨gd, 0, none⟩) s.docs.length cd))
  have HB1 := Lib.hid (JB.out.setCell (p := ⟨w.heap.size + 1 + 1, 8, none⟩) (by show w.heap.size ≤ w.heap.size + 1 + 1; omega) (Value.slice (some ⟨gd, 0, none⟩) s.docs.length cd))
  have Mp := Lib.hid (Lp.out.fx kx (X' := fun b => b < w.heap.size + 3) (fun b _ hh => hh.elim (fun h => by have h2 : b = w.heap.size + 1 + 1 := h; show b < _; omega) id))
  clear Lp
  have Lp := Mp
  clear Mp
  have Mt := Lib.hid (Lt.out.fx kx (X' := fun b => b < w.heap.size + 3) (fun b _ hh => hh.elim (fun h => by have h2 : b = w.heap.size + 1 + 1 := h; show b < _; omega) id))
  clear Lt
  have Lt := Mt
  clear Mt
  have Md := Lib.hid (Ld.out.fx kx (X' := fun b => b < w.heap.size + 3) (fun b _ hh => hh.elim (fun h => by have h2 : b = w.heap.size + 1 + 1 := h; show b < _; omega) id))
  clear Ld
  have Ld := Md
  clear Md
  clear kx J0 J1 J2 JB
  go_upto_region 5 with fail
  obtain ⟨wa3, hwa⟩ : ∃ y, wb3.setCell ⟨w.heap.size + 1 + 1, 8, none⟩ (Value.slice (some ⟨gd, 0, none⟩) s.docs.length cd) = y := ⟨_, rfl⟩
  rw [hwa] at K0 K1 K2 HB1 Lp Lt Ld
  rw [hwa]
  clear hwa y8 yf
  have b9 : wa3.cell? ⟨w.heap.size, 9, none⟩ = some (Value.slice Ae s.exec.length ke) := K0.out.cell 9
  have HC := Lib.hid (lentT_any s.exec Ae ke wa3 (HE.out.new HB1.out) (by omega))
  go_wp2_with fail
  refine HC.out.mono ?_
  rintro a wb4 ⟨⟨ge, ce, rfl, hce, hoe⟩, hb⟩
  have hlx := K2.out.lt
  have Le : Hid (LtV wb4 (fun b => b < w.heap.size + 3) (.slice (some ⟨ge, 0, none⟩) s.exec.length ce) s.exec.length (sc s.exec ++ sc (marksT 16))) := Lib.hid (by have q := LtV.own (X := fun b => b < w.heap.size + 3) hoe (fun b h1 h2 => by have h3 : b < w.heap.size + 3 := h2; omega) hce; rwa [sc_append] at q)
  have J0 := Lib.hid (K0.out.below hb K0.out.lt)
  have J1 := Lib.hid (K1.out.below hb K1.out.lt)
  have J2 := Lib.hid (K2.out.below hb K2.out.lt)
  have JB := Lib.hid (below_of_below HB1.out hb HB1.out.size)
  have Mp := Lib.hid (Lp.out.new hb)
  clear Lp
  have Lp := Mp
  clear Mp
  have Mt := Lib.hid (Lt.out.new hb)
  clear Lt
  have Lt := Mt
  clear Mt
  have Md := Lib.hid (Ld.out.new hb)
  clear Ld
  have Ld := Md
  clear Md
  clear hb hoe HC b9 K0 K1 K2 HB1 hlx
  have y9 : wb4.cell? ⟨w.heap.size + 1 + 1, 9, none⟩ = some (Value.slice Ae s.exec.length ke) := J2.out.cell 9
  have yf := J2.out.frozen 9
  have kx := fx_set18 wb4 (w.heap.size + 1 + 1) 9 (Value.slice (some ⟨ge, 0, none⟩) s.exec.length ce)
  have K0 := Lib.hid (kx.blk J0.out (by show ¬ w.heap.size = w.heap.size + 1 + 1; omega))
  have K1 := Lib.hid (kx.blk J1.out (by show ¬ w.heap.size + 1 = w.heap.size + 1 + 1; omega))
  have K2 := Lib.hid (J2.out.set_ 9 (Value.slice (some ⟨ge, 0, none⟩) s.exec.length ce))
  have HB1 := Lib.hid (JB.out.setCell (p := ⟨w.heap.size + 1 + 1, 9, none⟩) (by show w.heap.size ≤ w.heap.size + 1 + 1; omega) (Value.slice (some ⟨ge, 0, none⟩) s.exec.length ce))
  have Mp := Lib.hid (Lp.out.fx kx (X' := fun b => b < w.heap.size + 3) (fun b _ hh => hh.elim (fun h => by have h2 : b = w.heap.size + 1 + 1 := h; show b < _; omega) id))
  clear Lp
  have Lp := Mp
  clear Mp
  have Mt := Lib.hid (Lt.out.fx kx (X' := fun b => b < w.heap.size + 3) (fun b _ hh => hh.elim (fun h => by have h2 : b = w.heap.size + 1 + 1 := h; show b < _; omega) id))
  clear Lt
  have Lt := Mt
  clear Mt
  have Md := Lib.hid (Ld.out.fx kx (X' := fun b => b < w.heap.size + 3) (fun b _ hh => hh.elim (fun h => by have h2 : b = w.heap.size + 1 + 1 := h; show b < _; omega) id))
  clear Ld
  have Ld := Md
  clear Md
  have Me := Lib.hid (Le.out.fx kx (X' := fun b => b < w.heap.size + 3) (fun b _ hh => hh.elim (fun h => by have h2 : b = w.heap.size + 1 + 1 := h; show b < _; omega) id))
  clear Le
  have Le := Me
  clear Me
  clear kx J0 J1 J2 JB
  go_upto_region 6 with fail
  obtain ⟨wa4, hwa⟩ : ∃ y, wb4.setCell ⟨w.heap.size + 1 + 1, 9, none⟩ (Value.slice (some ⟨ge, 0, none⟩) s.exec.length ce) = y := ⟨_, rfl⟩
  rw [hwa] at K0 K1 K2 HB1 Lp Lt Ld Le
  rw [hwa]
  clear hwa y9 yf
  have K3 : Hid (Blk wa4 (w.heap.size + 1 + 1) 41 #[Value.int .i64 s.op, Value.int .i64 s.line, Value.string (bs s.from_), Value.string (bs s.mode), Value.bool s.force, Value.slice (some ⟨gp, 0, none⟩) s.pairs.length cp, Value.bool s.bare, Value.slice (some ⟨gt, 0, none⟩) s.words.length ct, Value.slice (some ⟨gd, 0, none⟩) s.docs.length cd, Value.slice (some ⟨ge, 0, none⟩) s.exec.length ce]) := Lib.hid K2.out
  clear K2 K0
  have y0 : wa4.cell? ⟨w.heap.size + 1 + 1, 0, none⟩ = some (Value.int .i64 s.op) := K3.out.cell 0
  have y1 : wa4.cell? ⟨w.heap.size + 1 + 1, 1, none⟩ = some (Value.int .i64 s.line) := K3.out.cell 1
  have y2 : wa4.cell? ⟨w.heap.size + 1 + 1, 2, none⟩ = some (Value.string (bs s.from_)) := K3.out.cell 2
  have y3 : wa4.cell? ⟨w.heap.size + 1 + 1, 3, none⟩ = some (Value.string (bs s.mode)) := K3.out.cell 3
  have y4 : wa4.cell? ⟨w.heap.size + 1 + 1, 4, none⟩ = some (Value.bool s.force) := K3.out.cell 4
  have y5 : wa4.cell? ⟨w.heap.size + 1 + 1, 5, none⟩ = some (Value.slice (some ⟨gp, 0, none⟩) s.pairs.length cp) := K3.out.cell 5
  have y6 : wa4.cell? ⟨w.heap.size + 1 + 1, 6, none⟩ = some (Value.bool s.bare) := K3.out.cell 6
  have y7 : wa4.cell? ⟨w.heap.size + 1 + 1, 7, none⟩ = some (Value.slice (some ⟨gt, 0, none⟩) s.words.length ct) := K3.out.cell 7
  have y8 : wa4.cell? ⟨w.heap.size + 1 + 1, 8, none⟩ = some (Value.slice (some ⟨gd, 0, none⟩) s.docs.length cd) := K3.out.cell 8
  have y9 : wa4.cell? ⟨w.heap.size + 1 + 1, 9, none⟩ = some (Value.slice (some ⟨ge, 0, none⟩) s.exec.length ce) := K3.out.cell 9
  go_wp2_with (refine wpList_store_st rfl _ _ _ rfl stepTl (w.heap.size + 1) #[Value.int .i64 s.op, Value.int .i64 s.line, Value.string (bs s.from_), Value.string (bs s.mode), Value.bool s.force, Value.slice (some ⟨gp, 0, none⟩) s.pairs.length cp, Value.bool s.bare, Value.slice (some ⟨gt, 0, none⟩) s.words.length ct, Value.slice (some ⟨gd, 0, none⟩) s.docs.length cd, Value.slice (some ⟨ge, 0, none⟩) s.exec.length ce] #[.int .i64 0, .int .i64 0, .string ⟨#[]⟩, .string ⟨#[]⟩, .bool false, .slice none 0 0, .bool false, .slice none 0 0, .slice none 0 0, .slice none 0 0] rfl rfl K1.out rfl rfl rfl ?_; intro wz hKz hGz _)
  have kz := (Fx.of_grown hGz).mono (S' := fun b => b = w.heap.size + 1) (fun b _ h => by injection h with h; exact h.symm)
  have hX : ∀ b, b < wa4.heap.size → b = w.heap.size + 1 ∨ b < w.heap.size → b < w.heap.size + 3 := fun b _ h => by omega
  refine bodyPost_ret (results_c0 rfl stepTl rfl hKz rfl) rfl ⟨⟨_, _, _, _, rfl, ⟨Lp.out.fx kz hX, Lt.out.fx kz hX, Ld.out.fx kz hX, Le.out.fx kz hX⟩⟩, ?_⟩
  exact HB1.out.trans (kz.to_below HB1.out.size (fun b h => by have h2 : b = w.heap.size + 1 := h; omega))
set_option maxRecDepth 100000 in
set_option maxHeartbeats 4000000 in
theorem lentSteps_any (l : List SM) (v : Value) (w : World) (hl : StsA w v l) (hsm : ∀ m ∈ l, m.s.words.length + m.s.exec.length + m.s.pairs.length + m.s.docs.length ≤ 1050000) (hn : l.length ≤ 1050000) : Calls Tryz.prog 37 #[v] w fun r w' => (∃ v' l', r = .returned v' ∧ LSs w' (fun b => b < w.heap.size) v' l' ∧ l'.map SM.s = l.map SM.s) ∧ Below w.heap.size w w' := by
  obtain ⟨A0, k0, rfl⟩ := hl.1.form
  have HL := Lib.hid hl
  have HSM := Lib.hid hsm
  clear hl hsm
  go_enter Tryz.func37, Tryz.ntmps37
  go_wp2_with fail
  go_loopw [3, 4, 5] (fun t3 t4 _ wr => ∃ (i : Nat) (l' : List SM), i ≤ l.length ∧ t4 = .int .i64 (i : Int) ∧ wr.ownsRow w.heap.size 41 10 t3 i (smC l') ∧ l'.length = i ∧ Hid (l'.map SM.s = (l.take i).map SM.s) ∧ Hid (∀ m ∈ l', LSt wr (fun b => b < w.heap.size ∨ t3.ownBlock = some b) m) ∧ Hid (Below w.heap.size w wr)) (fun _ t4 _ _ => l.length - (intOf t4).toNat)
  case atStart => exact ⟨0, [], by omega, rfl, World.ownsRow_nil _ _ _ _, rfl, Lib.hid rfl, Lib.hid (fun m hm => by cases hm), Lib.hid (Below.refl _ _)⟩
  case round =>
    rename World => wr
    obtain ⟨i, l', hi, rfl, hown, hl', HM, HLT, HB⟩ := hrel
    obtain ⟨AA, ca, rfl⟩ := ownk_form hown
    have HO := Lib.hid hown
    have HLL := Lib.hid hl'
    clear hown hl'
    have j0 : (0 : Int) ≤ (i : Int) := by omega
    rcases Nat.lt_or_ge i l.length with hin | hin
    · have i0 : decide ((i : Int) < (l.length : Int)) = true := by rw [decide_eq_true_eq]; omega
      have i1 : (i : Int) < (l.length : Int) := by omega
      have hsmi := HSM.out _ (List.getElem_mem hin)
      have hmok := (HL.out.2 _ (List.getElem_mem hin)).new HB.out
      obtain ⟨g, o, cc, s, Ap, Aw, Ad, Ae, kp, kw, kd, ke, hv, hse, c0, c1, c2, c3, c4, c5, c6, c7, c8, c9⟩ := sm_full (StsA.new HL.out HB.out) hin
      injection hv with hA _ hcc
      subst hA hcc
      rw [hse] at hmok hsmi
      have HMS : Hid ((l.take (i + 1)).map SM.s = (l.take i).map SM.s ++ [s]) := Lib.hid (by rw [List.take_add_one, List.getElem?_eq_getElem hin, List.map_append, hse]; rfl)
      have HC := Lib.hid (lentStep_any ⟨s, .slice Ap s.pairs.length kp, .slice Aw s.words.length kw, .slice Ad s.docs.length kd, .slice Ae s.exec.length ke⟩ wr hmok hsmi)
      clear hmok hse hsmi
      go_wp2_with fail
      refine HC.out.mono ?_
      rintro a w1 ⟨⟨vp, vw, vd, ve, rfl, hlt⟩, hb1⟩
      obtain ⟨gp, cp, ep, _⟩ := hlt.p
      obtain ⟨gw, cw, ew, _⟩ := hlt.t
      obtain ⟨gd, cd, ed, _⟩ := hlt.d
      obtain ⟨ge, ce, ee, _⟩ := hlt.e
      dsimp only at ep ew ed ee
      subst ep ew ed ee
      have HN := Lib.hid hlt
      clear hlt HC c0 c1 c2 c3 c4 c5 c6 c7 c8 c9
      have hbw1 := below_of_below HB.out hb1 HB.out.size
      have HO1 := Lib.hid (own_below HO.out hb1)
      have kb2 := (Below.refl w1.heap.size w1).alloc (Nat.le_refl _) (.cells #[.int .i64 s.op, .int .i64 s.line, .string (bs s.from_), .string (bs s.mode), .bool s.force, .slice (some ⟨gp, 0, none⟩) s.pairs.length cp, .bool s.bare, .slice (some ⟨gw, 0, none⟩) s.words.length cw, .slice (some ⟨gd, 0, none⟩) s.docs.length cd, .slice (some ⟨ge, 0, none⟩) s.exec.length ce] 41)
      have HO2 := Lib.hid (own_below HO1.out kb2)
      have hbw2 := below_of_below hbw1 kb2 hbw1.size
      have HK2 := Lib.hid (Blk.new w1 41 #[.int .i64 s.op, .int .i64 s.line, .string (bs s.from_), .string (bs s.mode), .bool s.force, .slice (some ⟨gp, 0, none⟩) s.pairs.length cp, .bool s.bare, .slice (some ⟨gw, 0, none⟩) s.words.length cw, .slice (some ⟨gd, 0, none⟩) s.docs.length cd, .slice (some ⟨ge, 0, none⟩) s.exec.length ce])
      have hwr := HB.out.size
      have hr1 := hb1.size
      go_upto_region 6 with fail
      obtain ⟨Z, hZ⟩ : ∃ Z, w1.heap.size = Z := ⟨_, rfl⟩
      have K12 : Hid (Fx (fun _ => False) w1 (w1.alloc (.cells #[.int .i64 s.op, .int .i64 s.line, .string (bs s.from_), .string (bs s.mode), .bool s.force, .slice (some ⟨gp, 0, none⟩) s.pairs.length cp, .bool s.bare, .slice (some ⟨gw, 0, none⟩) s.words.length cw, .slice (some ⟨gd, 0, none⟩) s.docs.length cd, .slice (some ⟨ge, 0, none⟩) s.exec.length ce] 41))) := Lib.hid (Fx.new kb2)
      have K01 : Hid (Fx (fun _ => False) wr w1) := Lib.hid (Fx.new hb1)
      have hz2 : w1.heap.size < (w1.alloc (.cells #[.int .i64 s.op, .int .i64 s.line, .string (bs s.from_), .string (bs s.mode), .bool s.force, .slice (some ⟨gp, 0, none⟩) s.pairs.length cp, .bool s.bare, .slice (some ⟨gw, 0, none⟩) s.words.length cw, .slice (some ⟨gd, 0, none⟩) s.docs.length cd, .slice (some ⟨ge, 0, none⟩) s.exec.length ce] 41)).heap.size := by rw [World.size_alloc]; omega
      obtain ⟨w2, hw2⟩ : ∃ y, w1.alloc (.cells #[.int .i64 s.op, .int .i64 s.line, .string (bs s.from_), .string (bs s.mode), .bool s.force, .slice (some ⟨gp, 0, none⟩) s.pairs.length cp, .bool s.bare, .slice (some ⟨gw, 0, none⟩) s.words.length cw, .slice (some ⟨gd, 0, none⟩) s.docs.length cd, .slice (some ⟨ge, 0, none⟩) s.exec.length ce] 41) = y := ⟨_, rfl⟩
      rw [hw2] at HO2 hbw2 HK2 K12 hz2
      rw [hZ] at HK2
      rw [hw2, hZ]
      clear hw2 kb2 hb1
      have HBW2 := Lib.hid hbw2
      have y0 : w2.cell? ⟨Z, 0, none⟩ = some (.int .i64 s.op) := HK2.out.cell 0
      have y1 : w2.cell? ⟨Z, 1, none⟩ = some (.int .i64 s.line) := HK2.out.cell 1
      have y2 : w2.cell? ⟨Z, 2, none⟩ = some (.string (bs s.from_)) := HK2.out.cell 2
      have y3 : w2.cell? ⟨Z, 3, none⟩ = some (.string (bs s.mode)) := HK2.out.cell 3
      have y4 : w2.cell? ⟨Z, 4, none⟩ = some (.bool s.force) := HK2.out.cell 4
      have y5 : w2.cell? ⟨Z, 5, none⟩ = some (.slice (some ⟨gp, 0, none⟩) s.pairs.length cp) := HK2.out.cell 5
      have y6 : w2.cell? ⟨Z, 6, none⟩ = some (.bool s.bare) := HK2.out.cell 6
      have y7 : w2.cell? ⟨Z, 7, none⟩ = some (.slice (some ⟨gw, 0, none⟩) s.words.length cw) := HK2.out.cell 7
      have y8 : w2.cell? ⟨Z, 8, none⟩ = some (.slice (some ⟨gd, 0, none⟩) s.docs.length cd) := HK2.out.cell 8
      have y9 : w2.cell? ⟨Z, 9, none⟩ = some (.slice (some ⟨ge, 0, none⟩) s.exec.length ce) := HK2.out.cell 9
      have HNW := Lib.hid (news_at w2 w2.heap.size rfl [.int .i64 s.op, .int .i64 s.line, .string (bs s.from_), .string (bs s.mode), .bool s.force, .slice (some ⟨gp, 0, none⟩) s.pairs.length cp, .bool s.bare, .slice (some ⟨gw, 0, none⟩) s.words.length cw, .slice (some ⟨gd, 0, none⟩) s.docs.length cd, .slice (some ⟨ge, 0, none⟩) s.exec.length ce] 41)
      have HOA := Lib.hid (HO2.out.alloc (.cells #[.int .i64 s.op, .int .i64 s.line, .string (bs s.from_), .string (bs s.mode), .bool s.force, .slice (some ⟨gp, 0, none⟩) s.pairs.length cp, .bool s.bare, .slice (some ⟨gw, 0, none⟩) s.words.length cw, .slice (some ⟨gd, 0, none⟩) s.docs.length cd, .slice (some ⟨ge, 0, none⟩) s.exec.length ce] 41))
      have HBA := Lib.hid ((Below.refl w.heap.size w2).alloc HBW2.out.size (.cells #[.int .i64 s.op, .int .i64 s.line, .string (bs s.from_), .string (bs s.mode), .bool s.force, .slice (some ⟨gp, 0, none⟩) s.pairs.length cp, .bool s.bare, .slice (some ⟨gw, 0, none⟩) s.words.length cw, .slice (some ⟨gd, 0, none⟩) s.docs.length cd, .slice (some ⟨ge, 0, none⟩) s.exec.length ce] 41))
      have HSA : Hid (w.heap.size ≤ (w2.alloc (.cells #[.int .i64 s.op, .int .i64 s.line, .string (bs s.from_), .string (bs s.mode), .bool s.force, .slice (some ⟨gp, 0, none⟩) s.pairs.length cp, .bool s.bare, .slice (some ⟨gw, 0, none⟩) s.words.length cw, .slice (some ⟨gd, 0, none⟩) s.docs.length cd, .slice (some ⟨ge, 0, none⟩) s.exec.length ce] 41)).heap.size) := Lib.hid (Nat.le_trans HBW2.out.size (by rw [World.size_alloc]; omega))
      have K23 : Hid (Fx (fun _ => False) w2 (w2.alloc (.cells #[.int .i64 s.op, .int .i64 s.line, .string (bs s.from_), .string (bs s.mode), .bool s.force, .slice (some ⟨gp, 0, none⟩) s.pairs.length cp, .bool s.bare, .slice (some ⟨gw, 0, none⟩) s.words.length cw, .slice (some ⟨gd, 0, none⟩) s.docs.length cd, .slice (some ⟨ge, 0, none⟩) s.exec.length ce] 41))) := Lib.hid (Fx.new ((Below.refl _ _).alloc (Nat.le_refl _) _))
      go_wp2_with (at_builtin; refine wpList_appk rfl _ _ _ rfl stepKl w.heap.size _ _ _ rfl HOA.out _ 1 1 [.int .i64 s.op, .int .i64 s.line, .string (bs s.from_), .string (bs s.mode), .bool s.force, .slice (some ⟨gp, 0, none⟩) s.pairs.length cp, .bool s.bare, .slice (some ⟨gw, 0, none⟩) s.words.length cw, .slice (some ⟨gd, 0, none⟩) s.docs.length cd, .slice (some ⟨ge, 0, none⟩) s.exec.length ce] rfl rfl HNW.out (one_of_all rfl) (by omega) (by omega) HBA.out HSA.out ?_; intro v6 w6 ho6 hb6 hg6 hat6; obtain ⟨A6, c6, rfl⟩ := ownk_form ho6)
      have hgr : (w2.alloc (.cells #[.int .i64 s.op, .int .i64 s.line, .string (bs s.from_), .string (bs s.mode), .bool s.force, .slice (some ⟨gp, 0, none⟩) s.pairs.length cp, .bool s.bare, .slice (some ⟨gw, 0, none⟩) s.words.length cw, .slice (some ⟨gd, 0, none⟩) s.docs.length cd, .slice (some ⟨ge, 0, none⟩) s.exec.length ce] 41)).grownBy w6 (Value.slice AA i ca).ownBlock := hg6
      have hat : (Value.slice A6 (i + 1) c6).ownBlock = (Value.slice AA i ca).ownBlock ∨ (Value.slice A6 (i + 1) c6).ownBlock = some (w2.alloc (.cells #[.int .i64 s.op, .int .i64 s.line, .string (bs s.from_), .string (bs s.mode), .bool s.force, .slice (some ⟨gp, 0, none⟩) s.pairs.length cp, .bool s.bare, .slice (some ⟨gw, 0, none⟩) s.words.length cw, .slice (some ⟨gd, 0, none⟩) s.docs.length cd, .slice (some ⟨ge, 0, none⟩) s.exec.length ce] 41)).heap.size := hat6
      have kg := Fx.of_grown hgr
      have hsz3 : w2.heap.size ≤ (w2.alloc (.cells #[.int .i64 s.op, .int .i64 s.line, .string (bs s.from_), .string (bs s.mode), .bool s.force, .slice (some ⟨gp, 0, none⟩) s.pairs.length cp, .bool s.bare, .slice (some ⟨gw, 0, none⟩) s.words.length cw, .slice (some ⟨gd, 0, none⟩) s.docs.length cd, .slice (some ⟨ge, 0, none⟩) s.exec.length ce] 41)).heap.size := K23.out.size
      have hAl : ∀ b, (Value.slice AA i ca).ownBlock = some b → b < wr.heap.size := fun b hb => (HO.out.lt b hb).2
      have hX6 : ∀ b, b < (w2.alloc (.cells #[.int .i64 s.op, .int .i64 s.line, .string (bs s.from_), .string (bs s.mode), .bool s.force, .slice (some ⟨gp, 0, none⟩) s.pairs.length cp, .bool s.bare, .slice (some ⟨gw, 0, none⟩) s.words.length cw, .slice (some ⟨gd, 0, none⟩) s.docs.length cd, .slice (some ⟨ge, 0, none⟩) s.exec.length ce] 41)).heap.size → (Value.slice A6 (i + 1) c6).ownBlock = some b → (Value.slice AA i ca).ownBlock = some b := fun b hb h => by
        rcases hat with e | e
        · exact e ▸ h
        · rw [e] at h; injection h with h; omega
      have HLT6 : Hid (∀ m ∈ l' ++ [(⟨s, .slice (some ⟨gp, 0, none⟩) s.pairs.length cp, .slice (some ⟨gw, 0, none⟩) s.words.length cw, .slice (some ⟨gd, 0, none⟩) s.docs.length cd, .slice (some ⟨ge, 0, none⟩) s.exec.length ce⟩ : SM)], LSt w6 (fun b => b < w.heap.size ∨ (Value.slice A6 (i + 1) c6).ownBlock = some b) m) := Lib.hid (fun m hm => by
        rcases List.mem_append.1 hm with hm | hm
        · have q1 := (((HLT.out m hm).fx (X' := fun b => b < w.heap.size ∨ (Value.slice AA i ca).ownBlock = some b) K01.out (fun b _ h => h.elim False.elim id)).fx (X' := fun b => b < w.heap.size ∨ (Value.slice AA i ca).ownBlock = some b) K12.out (fun b _ h => h.elim False.elim id)).fx (X' := fun b => b < w.heap.size ∨ (Value.slice AA i ca).ownBlock = some b) K23.out (fun b _ h => h.elim False.elim id)
          exact q1.fx kg (fun b hb h => by
            rcases h with h | h | h
            · exact .inr h
            · exact .inl h
            · exact .inr (hX6 b hb h))
        · rw [List.mem_singleton] at hm
          subst hm
          have q1 := (HN.out.fx (X' := fun b => b < wr.heap.size) K12.out (fun b _ h => h.elim False.elim id)).fx (X' := fun b => b < wr.heap.size) K23.out (fun b _ h => h.elim False.elim id)
          exact q1.fx kg (fun b hb h => by
            rcases h with h | h | h
            · exact hAl b h
            · exact Nat.lt_of_lt_of_le h hwr
            · exact hAl b (hX6 b hb h)))
      have HO6 : Hid (w6.ownsRow w.heap.size 41 10 (.slice A6 (i + 1) c6) (i + 1) (smC (l' ++ [(⟨s, .slice (some ⟨gp, 0, none⟩) s.pairs.length cp, .slice (some ⟨gw, 0, none⟩) s.words.length cw, .slice (some ⟨gd, 0, none⟩) s.docs.length cd, .slice (some ⟨ge, 0, none⟩) s.exec.length ce⟩ : SM)]))) := Lib.hid (by rw [smC_snoc]; exact ho6)
      have HB6 := Lib.hid (HBW2.out.trans hb6)
      have HM6 : Hid ((l' ++ [(⟨s, .slice (some ⟨gp, 0, none⟩) s.pairs.length cp, .slice (some ⟨gw, 0, none⟩) s.words.length cw, .slice (some ⟨gd, 0, none⟩) s.docs.length cd, .slice (some ⟨ge, 0, none⟩) s.exec.length ce⟩ : SM)]).map SM.s = (l.take (i + 1)).map SM.s) := Lib.hid (by rw [HMS.out, List.map_append, HM.out]; rfl)
      clear ho6 hb6 hg6 hat6 hgr hat kg hX6 hAl HLT HO HO1 HO2 HOA HBA HSA HNW K12 K23 K01
      go_roundw
      case rel => exact ⟨i + 1, _, by omega, by go_num, HO6.out, by rw [List.length_append, HLL.out]; rfl, HM6, HLT6, HB6⟩
      case measure => simp [intOf]; omega
    · have i0 : decide ((i : Int) < (l.length : Int)) = false := by rw [decide_eq_false_iff_not]; omega
      obtain rfl : i = l.length := by omega
      have HMM : Hid (l'.map SM.s = l.map SM.s) := Lib.hid (by have h := HM.out; rwa [List.take_length] at h)
      clear HM
      have H0 : Hid (wr.ownsRow w.heap.size 41 10 (.slice AA l.length ca) (l.length + 0) (smC (l' ++ marksS 0))) := Lib.hid (by rw [show marksS 0 = [] from rfl, List.append_nil]; exact HO.out)
      clear HO
      go_wp2_with fail
      go_loopw [3, 6] (fun t3 t6 wv => ∃ j : Nat, j ≤ 16 ∧ t6 = .int .i64 (j : Int) ∧ wv.ownsRow w.heap.size 41 10 t3 (l.length + j) (smC (l' ++ marksS j)) ∧ Hid (∀ m ∈ l', LSt wv (fun b => b < w.heap.size ∨ t3.ownBlock = some b) m) ∧ Hid (Below w.heap.size w wv)) (fun _ t6 _ => 16 - (intOf t6).toNat)
      case atStart => exact ⟨0, by omega, rfl, H0.out, HLT, HB⟩
      case round =>
        clear H0 HLT HB
        rename World => wv
        obtain ⟨j, hj, rfl, hown, HLT, HB⟩ := hrel
        obtain ⟨A2, c2, rfl⟩ := ownk_form hown
        have HO := Lib.hid hown
        clear hown
        rcases Nat.lt_or_ge j 16 with hjn | hjn
        · have j1 : (j : Int) < 16 := by omega
          have hT : Hid (smC (l' ++ marksS (j + 1)) = smC (l' ++ marksS j) ++ #[.int .i64 0, .int .i64 (-7), .string ⟨#[]⟩, .string ⟨#[]⟩, .bool false, .slice none 0 0, .bool false, .slice none 0 0, .slice none 0 0, .slice none 0 0].toList) := Lib.hid (by rw [show marksS (j + 1) = marksS j ++ [mkS] from List.replicate_succ', ← List.append_assoc, smC_snoc]; rfl)
          have HNW := Lib.hid (news_at wv wv.heap.size rfl #[.int .i64 0, .int .i64 (-7), .string ⟨#[]⟩, .string ⟨#[]⟩, .bool false, .slice none 0 0, .bool false, .slice none 0 0, .slice none 0 0, .slice none 0 0].toList 41)
          have HOA := Lib.hid (HO.out.alloc (.cells #[.int .i64 0, .int .i64 (-7), .string ⟨#[]⟩, .string ⟨#[]⟩, .bool false, .slice none 0 0, .bool false, .slice none 0 0, .slice none 0 0, .slice none 0 0] 41))
          have HBA := Lib.hid ((Below.refl w.heap.size wv).alloc HB.out.size (.cells #[.int .i64 0, .int .i64 (-7), .string ⟨#[]⟩, .string ⟨#[]⟩, .bool false, .slice none 0 0, .bool false, .slice none 0 0, .slice none 0 0, .slice none 0 0] 41))
          have HSA : Hid (w.heap.size ≤ (wv.alloc (.cells #[.int .i64 0, .int .i64 (-7), .string ⟨#[]⟩, .string ⟨#[]⟩, .bool false, .slice none 0 0, .bool false, .slice none 0 0, .slice none 0 0, .slice none 0 0] 41)).heap.size) := Lib.hid (Nat.le_trans HB.out.size (by rw [World.size_alloc]; omega))
          have K23 : Hid (Fx (fun _ => False) wv (wv.alloc (.cells #[.int .i64 0, .int .i64 (-7), .string ⟨#[]⟩, .string ⟨#[]⟩, .bool false, .slice none 0 0, .bool false, .slice none 0 0, .slice none 0 0, .slice none 0 0] 41))) := Lib.hid (Fx.new ((Below.refl _ _).alloc (Nat.le_refl _) _))
          go_wp2_with (at_builtin; refine wpList_appk rfl _ _ _ rfl stepKl w.heap.size _ _ _ rfl HOA.out _ 1 1 #[.int .i64 0, .int .i64 (-7), .string ⟨#[]⟩, .string ⟨#[]⟩, .bool false, .slice none 0 0, .bool false, .slice none 0 0, .slice none 0 0, .slice none 0 0].toList rfl rfl HNW.out (one_of_all rfl) (by omega) (by omega) HBA.out HSA.out ?_; intro v6 w6 ho6 hb6 hg6 hat6; obtain ⟨A6, c6, rfl⟩ := ownk_form ho6)
          have hgr : (wv.alloc (.cells #[.int .i64 0, .int .i64 (-7), .string ⟨#[]⟩, .string ⟨#[]⟩, .bool false, .slice none 0 0, .bool false, .slice none 0 0, .slice none 0 0, .slice none 0 0] 41)).grownBy w6 (Value.slice A2 (l.length + j) c2).ownBlock := hg6
          have hat : (Value.slice A6 (l.length + j + 1) c6).ownBlock = (Value.slice A2 (l.length + j) c2).ownBlock ∨ (Value.slice A6 (l.length + j + 1) c6).ownBlock = some (wv.alloc (.cells #[.int .i64 0, .int .i64 (-7), .string ⟨#[]⟩, .string ⟨#[]⟩, .bool false, .slice none 0 0, .bool false, .slice none 0 0, .slice none 0 0, .slice none 0 0] 41)).heap.size := hat6
          have kg := Fx.of_grown hgr
          have HLT6 : Hid (∀ m ∈ l', LSt w6 (fun b => b < w.heap.size ∨ (Value.slice A6 (l.length + j + 1) c6).ownBlock = some b) m) := Lib.hid (fun m hm => by
            have q1 := (HLT.out m hm).fx (X' := fun b => b < w.heap.size ∨ (Value.slice A2 (l.length + j) c2).ownBlock = some b) K23.out (fun b _ h => h.elim False.elim id)
            exact q1.fx kg (fun b hb h => by
              rcases h with h | h | h
              · exact .inr h
              · exact .inl h
              · rcases hat with e | e
                · exact .inr (e ▸ h)
                · rw [e] at h; injection h with h; omega))
          have HO6 : Hid (w6.ownsRow w.heap.size 41 10 (.slice A6 (l.length + j + 1) c6) (l.length + (j + 1)) (smC (l' ++ marksS (j + 1)))) := Lib.hid (by rw [hT.out]; exact ho6)
          have HB6 := Lib.hid (HB.out.trans hb6)
          clear ho6 hb6 hg6 hat6 hgr hat kg HLT HO HOA HBA HSA HNW K23
          go_roundw
          case rel => exact ⟨j + 1, by omega, by go_num, HO6.out, HLT6, HB6⟩
          case measure => simp [intOf]; omega
        · obtain rfl : j = 16 := by omega
          obtain ⟨g, cap, hv, _⟩ := HO.out.form (by omega)
          injection hv with hA _ hc
          subst hA hc
          have hc2 : l.length + 16 ≤ c2 := by
            rcases own_two18 HO.out with ⟨h, _⟩ | ⟨b, c', h, hc⟩
            · cases h
            · injection h with _ _ h; omega
          have HLN : Hid (l'.length = l.length) := Lib.hid HLL.out
          have i1 : (0 : Int) ≤ (l.length : Int) := by omega
          have i2 : (l.length : Int) ≤ (c2 : Int) := by omega
          have i3 : l.length ≤ c2 := by omega
          go_wp2_with fail
          go_ret
          refine ⟨⟨_, rfl, l', ⟨?_, fun m hm => (HLT.out m hm).fx (S := fun _ => False) Fx.refl (fun b _ h => h.elim False.elim .inl)⟩, HMM.out⟩, HB.out⟩
          have q := LtV.own (n := l.length) (X := fun b => b < w.heap.size) HO.out (fun b h1 h2 => by have h3 : b < w.heap.size := h2; omega) hc2
          rw [HLN.out, ← smC_app]
          exact q
end Go.Proofs.YtdaejggcjjdhkaaGreatDoor
