/- A range over a function whose rounds may themselves range over a function: an iterator's contract, and the law for its caller. Both are said for invariants that mind cells alone from a place of the heap on. -/
import Derived.RangeFuncNested
import Derived.RangeFuncBound
import Derived.RangeFuncCalls
import Derived.RangeFuncLeaves
import Derived.Test.YtdjfakampjbgeaaGreatDoorProg
namespace Go.Proofs.YtdjfakampjbgeaaGreatDoor
open Go Go.RowKit

/-- the blocks from B up to H lie as they lay. -/
def Stays (B H : Nat) (W W' : World) : Prop := W.heap.size ≤ W'.heap.size ∧ ∀ k, B ≤ k → k < H → W'.heap[k]? = W.heap[k]?
theorem Stays.trans {B H : Nat} {X Y Z : World} (h : Stays B H X Y) (k : Stays B H Y Z) : Stays B H X Z := ⟨Nat.le_trans h.1 k.1, fun i h1 h2 => (k.2 i h1 h2).trans (h.2 i h1 h2)⟩
theorem Stays.refl (B H : Nat) (W : World) : Stays B H W W := ⟨Nat.le_refl _, fun _ _ _ => rfl⟩
theorem Stays.higher {B B' H : Nat} {W W' : World} (h : Stays B H W W') (hb : B ≤ B') : Stays B' H W W' := ⟨h.1, fun k h1 h2 => h.2 k (Nat.le_trans hb h1) h2⟩
theorem Stays.of_grown {B H : Nat} {W W' : World} {row : Option Nat} (hg : W.grownBy W' row) (hH : H ≤ W.heap.size) (hr : ∀ r, row = some r → r < B ∨ H ≤ r) : Stays B H W W' :=
  ⟨hg.size, fun k h1 h2 => hg.block k (by omega) (fun e => by rcases hr k e.symm with h | h <;> omega)⟩
theorem OwnFrom.higher {β : Type} {B B' : Nat} {I : β → World → Prop} (h : OwnFrom B I) (hb : B ≤ B') : OwnFrom B' I := fun s X Y row hs hg hr => h s X Y row hs hg (fun r e => ⟨Nat.le_trans hb (hr r e).1, (hr r e).2⟩)

/-- THE ITERATOR g HANDS xs TO ITS ROUNDS, one by one, and stops where a round says so: for every invariant J that minds no new block and no turn of what is no cells at or above the heap's end; a round leaves the blocks from there up to H, a place that the iterator chooses, as they lay. K: what the iterator wants of each world. -/
def SeqO {α : Type} (n : Nat) (P : Program) (g : Nat) (lb : Array Value) (encs : α → Array Value) (K : World → Prop) (xs : List α) (w : World) : Prop :=
  ∀ (l : Nat) (J Jx : Nat → List α → World → Prop) (W : World), Below w.heap.size w W → (∀ H, OwnFrom W.heap.size (J H)) → (∀ H, OwnFrom W.heap.size (Jx H)) → (∀ H pre W1, J H pre W1 → K W1) →
    (∀ H pre x W1, W.heap.size ≤ H → H ≤ W1.heap.size → J H pre W1 → pre ++ [x] <+: xs → YieldAt Fence.wide n P l (encs x) W1 fun e W' =>
      Stays W.heap.size H W1 W' ∧ ((e = .returned (.bool true) ∧ J H (pre ++ [x]) W') ∨ (e = .returned (.bool false) ∧ Jx H (pre ++ [x]) W'))) →
    (∀ H, J H [] W) →
    CallsIn Fence.wide n P g (#[.func (.yield l) #[] #[]] ++ lb) W fun e W' => (∃ v, e = .returned v) ∧ ((∃ H, J H xs W') ∨ ∃ H pre, Jx H pre W')

/-- under the wide fence a round may be had at whatever depth, and within another loop's round. -/
theorem yield_wide {P : Program} {l m : Nat} {args : Array Value} {W : World} {R : Ending → World → Prop} (m' k : Nat) (h : YieldAt Fence.wide m P l args W R) : YieldAt (Fence.wide.inRound k) m' P l args W R := by
  obtain ⟨fn, tmps, assign, body, hy, hf, hR⟩ := h
  exact ⟨fn, tmps, assign, body, hy, hf, fun c cs _ => hR c cs (room_wide _)⟩

theorem round_wide {P : Program} {l m : Nat} {f : FuncId} {tmps : Array Value} {assign body : Code} {W : World} {R : Ending → World → Prop} (m' : Nat) (h : RoundIn Fence.wide m P l f tmps assign body W R) : RoundIn Fence.wide m' P l f tmps assign body W R :=
  ⟨h.1, fun c cs _ => h.2 c cs (room_wide _)⟩
theorem round_in {P : Program} {l m : Nat} {f : FuncId} {tmps : Array Value} {assign body : Code} {W : World} {R : Ending → World → Prop} (k m' : Nat) (h : RoundIn Fence.wide m P l f tmps assign body W R) : RoundIn (Fence.wide.inRound k) m' P l f tmps assign body W R :=
  ⟨h.1, fun c cs _ => h.2 c cs (room_wide _)⟩
/-- a round's end. -/
def endO {α : Type} (B H : Nat) (I : Nat → List α → World → Prop) (Ix : Nat → Code → List α → World → Prop) (xs : List α) (W : World) : Exit → Act → World → Prop
  | .normal, _, W' => Stays B H W W' ∧ I H xs W'
  | .ret, _, W' => Stays B H W W' ∧ Ix H .ret xs W'
  | .exit id, _, W' => Stays B H W W' ∧ Ix H (.exit id) xs W'
  | .goto t, _, W' => Stays B H W W' ∧ Ix H (.goto t) xs W'
  | .panic _, _, _ => False
  | .outgrown, _, _ => False

/-- THE CALLER's LAW. -/
theorem wpIn_range_o {α : Type} {n : Nat} {P : Program} {g : Operand} {ps : Array Tmp} {assign body : Code} {Q : Exit → Act → World → Prop} {a : Act} {w : World}
    {gf : Nat} {lb : Array Value} (hg : a.eval g = .func (.func gf) #[] lb) (eg : ∀ args w, (callFunc gf args).run P w = .ok (.enter gf args) w)
    {encs : α → Array Value} {K : World → Prop} {xs : List α} {w0 : World} (hseq : SeqO n P gf lb encs K xs w0) (hb0 : Below w0.heap.size w0 w) (hps : ∀ x, (encs x).size = ps.size)
    (I : Nat → List α → World → Prop) (Ix : Nat → Code → List α → World → Prop) (hI : ∀ H, OwnFrom w.heap.size (I H)) (hIx : ∀ H c, OwnFrom w.heap.size (Ix H c)) (hK : ∀ H pre W, I H pre W → K W) (h0 : ∀ H, I H [] w) (a₁ : α → Act)
    (hassign : ∀ (l : Nat) (x : α) (W : World) (K : Act → World → Prop), K (a₁ x) W →
      assign.wpIn (Fence.wide.inRound l) n P (Exit.then K (fun _ _ _ => False)) { tmps := (ps.zip (encs x)).foldl (fun t (p, v) => t.setIfInBounds p v) a.tmps, defers := [] } W)
    (hbody : ∀ (l H : Nat) (pre : List α) (x : α) (W : World), w.heap.size < H → H ≤ W.heap.size → I H pre W → pre ++ [x] <+: xs → body.wpIn (Fence.wide.inRound l) n P (endO w.heap.size H I Ix (pre ++ [x]) W) (a₁ x) W)
    (hdone : ∀ (D H : Nat) (W : World), w.heap.size ≤ D → I H xs W → W.heap[D]? = some (.deferred (some [])) → Q .normal { a with defers := { target := .collected D, args := #[] } :: a.defers } W)
    (hstop : ∀ (D H : Nat) (c : Code) (pre : List α) (W : World), w.heap.size ≤ D → Ix H c pre W → W.heap[D]? = some (.deferred (some [])) → c.wpIn Fence.wide n P Q { a with defers := { target := .collected D, args := #[] } :: a.defers } W) :
    (Code.rangeFunc g ps assign body).wpIn Fence.wide n P Q a w := by
  refine wpIn_rangeFunc ?_
  intro fn hfn
  -- the loop's record, by its state and its pending jump
  obtain ⟨rec, hrec⟩ : ∃ rec : LoopState → Option Code → Loop, rec = fun st pe => { state := st, pending := pe, fn, tmps := a.tmps, params := ps, assign, body, defers := w.heap.size } := ⟨_, rfl⟩
  obtain ⟨V, hV⟩ : ∃ V, (w.alloc (.deferred (some []))).alloc (.loop (rec .ready none)) = V := ⟨_, rfl⟩
  have vsz : V.heap.size = w.heap.size + 2 := by rw [← hV]; simp
  have vl : V.heap[w.heap.size + 1]? = some (.loop (rec .ready none)) := by
    rw [← hV]
    have := World.alloc_heap_new (w.alloc (.deferred (some []))) (.loop (rec .ready none))
    rwa [World.size_alloc] at this
  have vd : V.heap[w.heap.size]? = some (.deferred (some [])) := by
    rw [← hV]
    exact (Below.heap_alloc _ _ _ (by simp)).trans (World.alloc_heap_new w _)
  have vI : ∀ H, I H [] V := fun H => by rw [← hV]; exact (hI H).alloc _ ((hI H).alloc _ (h0 H))
  have vb : Below w0.heap.size w0 V := by
    rw [← hV]
    exact hb0.trans ((((Below.refl _ w).alloc (Nat.le_refl _) _).alloc (by simp) _).mono hb0.size)
  -- a block that is held stays as it is where one from V's end on turns
  have stay : ∀ {A B : World} {row : Option Nat} {k : Nat} {o : Obj}, A.grownBy B row → (∀ r, row = some r → V.heap.size ≤ r ∧ ∃ o : Obj, A.heap[r]? = some o ∧ o.isCells = false) → k < V.heap.size → A.heap[k]? = some o → B.heap[k]? = some o := by
    intro A B row k o hgr hr hk ha
    exact (hgr.block k (Array.getElem?_eq_some_iff.1 ha).1 (fun e => by have := (hr k e.symm).1; omega)).trans ha
  have wide : ∀ {A : World} {row : Option Nat}, (∀ r, row = some r → V.heap.size ≤ r ∧ ∃ o : Obj, A.heap[r]? = some o ∧ o.isCells = false) → (∀ r, row = some r → w.heap.size ≤ r ∧ ∃ o : Obj, A.heap[r]? = some o ∧ o.isCells = false) :=
    fun hr r e => ⟨by have := (hr r e).1; omega, (hr r e).2⟩
  refine ⟨w.heap.size + 1, [{ target := .collected w.heap.size, args := #[] }], V, { target := .fn (.func gf) lb, args := #[.func (.yield (w.heap.size + 1)) #[] #[]] }, V, gf,
    #[.func (.yield (w.heap.size + 1)) #[] #[]] ++ lb, V, ?_, ?_, ?_, ?_, ?_, ?_⟩
  · rw [← hV, hrec]; exact run_enterLoop_outer _ _ _ _ _
  · simp only [resolve, hg]
    simp [go_sem]
  · intro f' hf'; trivial
  · simp [invoke, go_sem, eg]
  · intro h; cases h
  · refine CallsIn.mono (callsIn_wide.2 (callsIn_wide.1 (hseq (w.heap.size + 1)
      (fun H pre W => I H pre W ∧ W.heap[w.heap.size + 1]? = some (.loop (rec .ready none)) ∧ W.heap[w.heap.size]? = some (.deferred (some [])))
      (fun H pre W => ∃ c, Ix H c pre W ∧ W.heap[w.heap.size + 1]? = some (.loop (rec .done (some c))) ∧ W.heap[w.heap.size]? = some (.deferred (some [])))
      V vb
      (fun H s A B row hs hgr hr => ⟨hI H s A B row hs.1 hgr (wide hr), stay hgr hr (by omega) hs.2.1, stay hgr hr (by omega) hs.2.2⟩)
      (fun H s A B row hs hgr hr => by
        obtain ⟨c, hc, hl, hd⟩ := hs
        exact ⟨c, hIx H c s A B row hc hgr (wide hr), stay hgr hr (by omega) hl, stay hgr hr (by omega) hd⟩)
      (fun H pre W hs => hK H pre W hs.1)
      ?_ (fun H => ⟨vI H, vl, vd⟩)))) ?_
    · rintro H pre x W hVH hHW ⟨hi, hl, hd⟩ hpre
      have hlt : w.heap.size + 1 < W.heap.size := (Array.getElem?_eq_some_iff.1 hl).1
      have hy := run_yield (P := P) (args := encs x) hl (by rw [hrec]; exact hps x)
      rw [hrec] at hy
      refine ⟨fn, _, assign, body, hy, roundIn_of_wpIn hfn (hassign _ x W _ ⟨_, run_beginRound hl (by rw [hrec]), ?_⟩)⟩
      obtain ⟨X, hX⟩ : ∃ X, W.putObj (w.heap.size + 1) (.loop { rec .ready none with state := .busy }) = X := ⟨_, rfl⟩
      rw [hX]
      have xl : X.heap[w.heap.size + 1]? = some (.loop { rec .ready none with state := .busy }) := by rw [← hX]; exact World.putObj_heap_same hlt
      have xd : X.heap[w.heap.size]? = some (.deferred (some [])) := by rw [← hX]; exact (World.putObj_heap_other (by omega)).trans hd
      have xI : I H pre X := by rw [← hX]; exact (hI H).putObj _ hi (by omega) hl rfl
      have xk : Stays V.heap.size H W X := by
        rw [← hX]
        exact Stays.of_grown (grownBy_putObj' W _ _) hHW (fun j e => by cases e; omega)
      have xs1 : W.heap.size ≤ X.heap.size := xk.1
      refine wpIn_mono (hbody _ H pre x _ (by omega) (by omega) xI hpre) ?_
      have fin : ∀ (jump : Option Code) (Y : World), Stays w.heap.size H X Y →
          (Instr.endRound (w.heap.size + 1) jump).run P Y = .ok (.bool jump.isNone) (Y.putObj (w.heap.size + 1) (.loop (rec (if jump.isNone then .ready else .done) jump))) ∧
          Y.heap[w.heap.size + 1]? = some (.loop { rec .ready none with state := .busy }) ∧
          (Y.putObj (w.heap.size + 1) (.loop (rec (if jump.isNone then .ready else .done) jump))).heap[w.heap.size + 1]? = some (.loop (rec (if jump.isNone then .ready else .done) jump)) ∧
          (Y.putObj (w.heap.size + 1) (.loop (rec (if jump.isNone then .ready else .done) jump))).heap[w.heap.size]? = some (.deferred (some [])) ∧
          Stays V.heap.size H W (Y.putObj (w.heap.size + 1) (.loop (rec (if jump.isNone then .ready else .done) jump))) := fun jump Y hk => by
        have ys := hk.1
        have yl := (hk.2 (w.heap.size + 1) (by omega) (by omega)).trans xl
        have yd := (hk.2 w.heap.size (Nat.le_refl _) (by omega)).trans xd
        have hr := run_endRound (P := P) jump yl
        rw [hrec] at hr ⊢
        rw [hrec] at yl
        refine ⟨hr, yl, World.putObj_heap_same (Array.getElem?_eq_some_iff.1 yl).1, (World.putObj_heap_other (by omega)).trans yd, ?_⟩
        exact (xk.trans (hk.higher (by omega))).trans (Stays.of_grown (grownBy_putObj' Y _ _) (by omega) (fun j e => by cases e; omega))
      rintro e b Y hp
      cases e with
      | normal =>
        obtain ⟨hk, hi3⟩ := hp
        obtain ⟨hr, yl, zl, zd, zk⟩ := fin none Y hk
        exact ⟨_, _, hr, zk, .inl ⟨rfl, (hI H).putObj _ hi3 (by omega) yl rfl, zl, zd⟩⟩
      | ret =>
        obtain ⟨hk, hi3⟩ := hp
        obtain ⟨hr, yl, zl, zd, zk⟩ := fin (some .ret) Y hk
        exact ⟨_, _, hr, zk, .inr ⟨rfl, .ret, (hIx H _).putObj _ hi3 (by omega) yl rfl, zl, zd⟩⟩
      | exit id =>
        obtain ⟨hk, hi3⟩ := hp
        obtain ⟨hr, yl, zl, zd, zk⟩ := fin (some (.exit id)) Y hk
        exact ⟨_, _, hr, zk, .inr ⟨rfl, .exit id, (hIx H _).putObj _ hi3 (by omega) yl rfl, zl, zd⟩⟩
      | goto t =>
        obtain ⟨hk, hi3⟩ := hp
        obtain ⟨hr, yl, zl, zd, zk⟩ := fin (some (.goto t)) Y hk
        exact ⟨_, _, hr, zk, .inr ⟨rfl, .goto t, (hIx H _).putObj _ hi3 (by omega) yl rfl, zl, zd⟩⟩
      | panic ch => exact hp.elim
      | outgrown => exact hp.elim
    · rintro e Y ⟨⟨v, rfl⟩, (⟨H, hi, hl, hd⟩ | ⟨H, pre, c, hi, hl, hd⟩)⟩
      · exact ⟨none, _, by have := run_endLoop (P := P) hl (by rw [hrec]; simp); rw [hrec] at this; exact this, hdone _ H _ (Nat.le_refl _) ((hI H).putObj _ hi (by omega) hl rfl) ((World.putObj_heap_other (by omega)).trans hd)⟩
      · exact ⟨some c, _, by have := run_endLoop (P := P) hl (by rw [hrec]; simp); rw [hrec] at this; exact this, hstop _ H c pre _ (Nat.le_refl _) ((hIx H c).putObj _ hi (by omega) hl rfl) ((World.putObj_heap_other (by omega)).trans hd)⟩
end Go.Proofs.YtdjfakampjbgeaaGreatDoor
