/- glob.Parse, walked; a list in memory. -/
import Derived.Test.YtdjfakampjbgeaaGreatDoorGoC
import Derived.Test.YtdjfakampjbgeaaGreatDoorMF
import Derived.Deep.RegionLaw
namespace Go.Proofs.YtdjfakampjbgeaaGreatDoor
open Go Go.RowKit

theorem step_appk {P : Program} {W W0 : World} {ops : Array Oper} {o : Oper} {a : Act} {K : Act → World → Prop} {Q : Exit → Act → World → Prop} {F : Prop} (hgd : o.guard = none) (s x : Operand) (t : TypeId)
    (ho : o.op = .call { callee := .builtin .append, args := #[s, x], argTypes := #[t, t] })
    {e : TypeId} {z : Value} {k bytes : Nat} (E : ElemK P t e z k bytes)
    (base : Nat) (v : Value) (n : Nat) (xs : List Value) (hs : a.eval s = v) (hown : W.ownsRow base e k v n xs)
    (ad : Addr) (m c : Nat) (news : List Value) (hx : a.eval x = .slice (some ad) m c) (hl : news.length = m * k) (hnews : ∀ j u, news[j]? = some u → W.cell? (ad.add j) = some u) (h1 : ∀ u ∈ news, u.oneCell' = true)
    (h63 : n + m ≤ 9223372036854775807) (hbytes : (n + m) * bytes ≤ 140737488355328) (hb : Below base W0 W) (hbase : base ≤ W.heap.size)
    (h : ∀ v' w', w'.ownsRow base e k v' (n + m) (xs ++ news) → Below base W0 w' → W.grownBy w' v.ownBlock → (v'.ownBlock = v.ownBlock ∨ v'.ownBlock = some W.heap.size) → K (a.put o.dst v') w') :
    if Region.wanted o (yielded ops a.tmps) = true then Oper.wp P o a W K Q else F := by
  obtain ⟨i, hi, hz, hsz, hby⟩ := info_parts E.hi
  have hw : Region.wanted o (yielded ops a.tmps) = true := by simp [Region.wanted, hgd]
  rw [if_pos hw]
  obtain ⟨v', w', hr, h2, h3, _, h5⟩ := run_append_own_at (P := P) W base t o.type e i z k bytes E.ht hi hz hsz hby E.hz E.h0 v n xs hown ad m c news hl hnews h1 (by unfold maxLen; omega) hbytes hbase
  unfold Oper.wp execOp
  simp only [ho, resolve, invoke, builtin, Sem.run_bind, Sem.run_pure, Result.andThen_ok, List.map_toArray, List.map_cons, List.map_nil, hs, hx, hr]
  exact h v' w' h2 (hb.grown h3 hbase (fun k hk => (hown.lt k hk).1)) h3 h5
theorem grlK : ElemK Tryz.prog 48 55 (.agg #[.bool false, .slice none 0 0]) 2 32 := ⟨Tryz.underlying48, by kernel_rfl, rfl, by decide⟩
/-- the cells of the program's rules. -/
def RlCells (w : World) (S : Nat → Prop) : List Gl.Rl → List Value → Prop
  | [], cs => cs = []
  | r :: rs, cs => ∃ vm q, cs = [.bool r.back, vm] ++ q ∧ RP w S vm r.ps ∧ RlCells w S rs q
theorem RlCells.keep {w w' : World} {S S' : Nat → Prop} (hk : Lies w w' S S') : ∀ {rs : List Gl.Rl} {cs : List Value}, RlCells w S rs cs → RlCells w' S' rs cs
  | [], _, h => h
  | _ :: _, _, ⟨vm, q, e, h1, h⟩ => ⟨vm, q, e, h1.keep hk, RlCells.keep hk h⟩
theorem RlCells.snoc {w : World} {S : Nat → Prop} {r : Gl.Rl} {vm : Value} (h1 : RP w S vm r.ps) : ∀ {rs : List Gl.Rl} {cs : List Value}, RlCells w S rs cs → RlCells w S (rs ++ [r]) (cs ++ [.bool r.back, vm])
  | [], _, h => ⟨vm, [], by rw [show _ = [] from h]; rfl, h1, rfl⟩
  | _ :: rs, _, ⟨_, _, e, k1, h⟩ => ⟨_, _, by rw [e]; rfl, k1, RlCells.snoc h1 h⟩
theorem RlCells.at_ {w : World} {S : Nat → Prop} : ∀ {rs : List Gl.Rl} {cs : List Value}, RlCells w S rs cs → ∀ j (hj : j < rs.length), ∃ vm, cs[j * 2]? = some (.bool rs[j].back) ∧ cs[j * 2 + 1]? = some vm ∧ RP w S vm rs[j].ps
  | [], _, _, j, hj => absurd hj (by simp)
  | _ :: _, _, ⟨vm, r, e, h1, h⟩, 0, _ => ⟨vm, by rw [e]; rfl, by rw [e]; rfl, h1⟩
  | p :: ps, _, ⟨vm, r, e, h1, h⟩, j + 1, hj => by
    obtain ⟨vm', c0, c1, k1⟩ := RlCells.at_ h j (by simpa using hj)
    subst e
    refine ⟨vm', ?_, ?_, k1⟩
    · rw [show (j + 1) * 2 = j * 2 + 2 by omega]; exact c0
    · rw [show (j + 1) * 2 + 1 = j * 2 + 1 + 2 by omega]; exact c1
/-- a slice of the program's rules. -/
def RL (w : World) (S : Nat → Prop) (v : Value) (rs : List Gl.Rl) : Prop := ∃ cs, RC w S v rs.length cs ∧ RlCells w S rs cs
theorem RL.keep {w w' : World} {S S' : Nat → Prop} {v : Value} {rs : List Gl.Rl} (h : RL w S v rs) (hk : Lies w w' S S') : RL w' S' v rs := by
  obtain ⟨cs, h1, h2⟩ := h
  exact ⟨cs, h1.keep hk, h2.keep hk⟩
theorem RL.form {w : World} {S : Nat → Prop} {v : Value} {rs : List Gl.Rl} (h : RL w S v rs) : ∃ A c, v = .slice A rs.length c := by
  obtain ⟨cs, ⟨A, c, e, _⟩, _⟩ := h
  exact ⟨A, c, e⟩
theorem RL.at_ {w : World} {S : Nat → Prop} {v : Value} {rs : List Gl.Rl} (h : RL w S v rs) {j : Nat} (hj : j < rs.length) : ∃ g o c vm, v = .slice (some ⟨g, o, none⟩) rs.length c ∧ w.cell? ⟨g, o + j * 2, none⟩ = some (.bool rs[j].back) ∧ w.cell? ⟨g, o + j * 2 + 1, none⟩ = some vm ∧ RP w S vm rs[j].ps := by
  obtain ⟨cs, ⟨A, c, rfl, hc⟩, hm⟩ := h
  obtain ⟨vm, c0, c1, k1⟩ := hm.at_ j hj
  obtain ⟨g, o, rfl, _, d0⟩ := hc _ _ c0
  obtain ⟨g', o', e, _, d⟩ := hc _ _ c1
  injection e with e
  injection e with e1 e2
  subst e1 e2
  exact ⟨g, o, c, vm, rfl, d0, by rw [Nat.add_assoc]; exact d, k1⟩
/-- a list lies at B. -/
def ListAt (w : World) (S : Nat → Prop) (B : Nat) (rs : List Gl.Rl) : Prop := ∃ v, S B ∧ w.cell? ⟨B, 0, none⟩ = some v ∧ RL w S v rs
theorem ListAt.keep {w w' : World} {S S' : Nat → Prop} {B : Nat} {rs : List Gl.Rl} (h : ListAt w S B rs) (hk : Lies w w' S S') : ListAt w' S' B rs := by
  obtain ⟨v, h1, h2, h3⟩ := h
  obtain ⟨q1, q2⟩ := hk.cell h1 h2
  exact ⟨v, q2, q1, h3.keep hk⟩
theorem ListAt.below {w w' : World} {S : Nat → Prop} {B : Nat} {rs : List Gl.Rl} (h : ListAt w S B rs) (hb : Below w.heap.size w w') : ListAt w' S B rs := h.keep (fun g hs hl => ⟨hb.block g hl, hs⟩)
theorem RC.of_blk {w : World} {g n c : Nat} {t : TypeId} {cs : List Value} {S : Nat → Prop} (h : Blk w g t cs.toArray) (hS : S g) : RC w S (.slice (some ⟨g, 0, none⟩) n c) n cs :=
  ⟨_, _, rfl, fun j u hu => ⟨g, 0, rfl, hS, by rw [h.cell, Nat.zero_add]; simpa using hu⟩⟩

/-- the blocks of a list in the making: neither its row nor its box. -/
def Sb (w wr : World) (B : Nat) (v : Value) : Nat → Prop := fun g => w.heap.size ≤ g ∧ g < wr.heap.size ∧ v.ownBlock ≠ some g ∧ g ≠ B
/-- a list in the making; gl: the lines. -/
structure RsM (w : World) (B gl : Nat) (ls : List Value) (out : List Gl.Rl) (v : Value) (cs : List Value) (wr : World) : Prop where
  own : wr.ownsRow w.heap.size 55 2 v out.length cs
  rls : RlCells wr (Sb w wr B v) out cs
  box : Blk wr B 50 #[v]
  ne : v.ownBlock ≠ some B
  ln : Blk wr gl 9 ls.toArray
  nel : v.ownBlock ≠ some gl
  nbl : gl ≠ B
  bel : Below w.heap.size w wr
  hB : w.heap.size ≤ B
theorem RsM.grow {w wr wx : World} {B gl : Nat} {ls : List Value} {out : List Gl.Rl} {v : Value} {cs : List Value} (h : RsM w B gl ls out v cs wr) (hg : wr.grownBy wx none) : RsM w B gl ls out v cs wx :=
  ⟨h.own.kept hg (by cases v.ownBlock <;> simp), h.rls.keep (fun g hs hl => ⟨hg.block g hl (by simp), hs.1, Nat.lt_of_lt_of_le hl hg.size, hs.2.2⟩), (hg.block _ h.box.lt (by simp)).trans h.box, h.ne, (hg.block _ h.ln.lt (by simp)).trans h.ln, h.nel, h.nbl, h.bel.grown hg h.bel.size (fun k e => by cases e), h.hB⟩
theorem RsM.drew {w wr : World} {B gl : Nat} {ls : List Value} {out : List Gl.Rl} {v : Value} {cs : List Value} (h : RsM w B gl ls out v cs wr) : RsM w B gl ls out v cs wr.drew :=
  h.grow (grown_of_below ((Below.refl _ _).drew) none)
theorem RsM.push {w wx w1 : World} {B gl : Nat} {ls : List Value} {out : List Gl.Rl} {v v1 vm : Value} {cs : List Value} {r : Gl.Rl} {o : Obj} (h : RsM w B gl ls out v cs wx) (hm : RP wx (Sb w wx B v) vm r.ps)
    (h1 : w1.ownsRow w.heap.size 55 2 v1 (out.length + 1) (cs ++ [.bool r.back, vm])) (hb : Below w.heap.size w w1) (hg : (wx.alloc o).grownBy w1 v.ownBlock) (hat : v1.ownBlock = v.ownBlock ∨ v1.ownBlock = some (wx.alloc o).heap.size) :
    RsM w B gl ls (out ++ [r]) v1 (cs ++ [.bool r.back, vm]) (w1.setCell ⟨B, 0, none⟩ v1) := by
  have hs := hg.size
  rw [World.size_alloc] at hs hat
  have hne : ∀ g, g < wx.heap.size → v.ownBlock ≠ some g → v1.ownBlock ≠ some g := fun g hl hn e => by
    rcases hat with a | a
    · exact hn (a.symm.trans e)
    · rw [a] at e; injection e with e; omega
  have hblk : ∀ g, g < wx.heap.size → v.ownBlock ≠ some g → w1.heap[g]? = wx.heap[g]? := fun g hl hn => (hg.block g (by rw [World.size_alloc]; omega) (fun e => hn e.symm)).trans (Below.heap_alloc wx o g hl)
  have hsz : (w1.setCell ⟨B, 0, none⟩ v1).heap.size = w1.heap.size := by simp [World.setCell]
  have hset : ∀ g, g ≠ B → (w1.setCell ⟨B, 0, none⟩ v1).heap[g]? = w1.heap[g]? := fun g hn => by
    simp [World.setCell, Array.getElem?_modify, show B ≠ g from fun e => hn e.symm]
  have hBox : Blk w1 B 50 #[v] := (hblk B h.box.lt h.ne).trans h.box
  have hk : Lies wx (w1.setCell ⟨B, 0, none⟩ v1) (Sb w wx B v) (Sb w (w1.setCell ⟨B, 0, none⟩ v1) B v1) := fun g hs' hl =>
    ⟨(hset g hs'.2.2.2).trans (hblk g hl hs'.2.2.1), hs'.1, by rw [hsz]; omega, hne g hl hs'.2.2.1, hs'.2.2.2⟩
  refine ⟨?_, RlCells.snoc (hm.keep hk) (h.rls.keep hk), ?_, hne B h.box.lt h.ne, (hset gl h.nbl).trans ((hblk gl h.ln.lt h.nel).trans h.ln), hne gl h.ln.lt h.nel, h.nbl, hb.setCell h.hB _, h.hB⟩
  · rw [List.length_append]
    refine h1.kept (setCell_grown w1 ⟨B, 0, none⟩ v1) ?_
    have := hne B h.box.lt h.ne
    first | exact this | exact fun e => this e.symm | (intro e; exact this (by rw [e])) | (cases hv : v1.ownBlock <;> simp_all)
  · have := hBox.set_ 0 v1
    simpa using this
/-- what Parse answers. -/
def ParseAns (r : (Nat × Nat) ⊕ List Gl.Rl) (w w' : World) (e : Ending) : Prop := match r with
  | .inl (n, k) => e = .returned (.tuple #[.pointer none, eFault (n : Int) (k : Int) 0])
  | .inr rs => ∃ B, e = .returned (.tuple #[.pointer (some ⟨B, 0, none⟩), .nilIface]) ∧ ListAt w' (fun g => w.heap.size ≤ g ∧ g < w'.heap.size) B rs
end Go.Proofs.YtdjfakampjbgeaaGreatDoor
