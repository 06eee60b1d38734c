/- A build file that a call puts together in memory of its own. -/
import Derived.Test.YtdaejggcjjdhkaaGreatDoorCkWi
namespace Go.Proofs.YtdaejggcjjdhkaaGreatDoor
open Go Go.RowKit
/-- rows of unlike types lie in unlike blocks. -/
theorem own_apart {w : World} {b b' : Nat} {e e' : TypeId} {k k' n n' : Nat} {v v' : Value} {xs xs' : List Value} (h : w.ownsRow b e k v n xs) (h' : w.ownsRow b' e' k' v' n' xs') (hne : e ≠ e') : v.ownBlock = none ∨ v.ownBlock ≠ v'.ownBlock := by
  rcases h.2 with ⟨rfl, _⟩ | ⟨g, cap, cur, rfl, _, hg, _⟩
  · exact .inl rfl
  · refine .inr (fun q => ?_)
    rcases h'.2 with ⟨rfl, _⟩ | ⟨g', cap', cur', rfl, _, hg', _⟩
    · cases q
    · injection q with q
      have q' : g = g' := q
      subst q'
      have h1 := Option.some.inj (hg.symm.trans hg')
      injection h1 with _ h2 _
      exact hne h2
theorem own_set {w : World} {b G i : Nat} {e : TypeId} {k n : Nat} {v : Value} {xs : List Value} (h : w.ownsRow b e k v n xs) (hG : G < b) (u : Value) : (w.setCell ⟨G, i, none⟩ u).ownsRow b e k v n xs :=
  h.kept (setCell_grown_ w ⟨G, i, none⟩ u) (by
    rcases hx : v.ownBlock with _ | g
    · exact .inl rfl
    · refine .inr (fun q => ?_)
      injection q with q
      have q' : g = G := q
      have := (h.lt g hx).1
      omega)
theorem step_stage : 41 ≠ 53 := by decide
/-- a file that is put together; its rows from base on. -/
structure FB (w0 : World) (base G : Nat) (e : UInt8) (vA vS : Value) (lA : List SM) (lS : List GM) (w : World) : Prop where
  blk : Blk w G 25 #[.int .u8 (e.toNat : Int), vA, vS]
  rA : w.ownsRow base 41 10 vA lA.length (smC lA)
  rS : w.ownsRow base 53 4 vS lS.length (gmC lS)
  each : ∀ g ∈ lS, w.ownsRow base 41 10 g.vs g.ms.length (smC g.ms)
  okA : ∀ m ∈ lA, m.Ok w0
  okS : ∀ g ∈ lS, ∀ m ∈ g.ms, m.Ok w0
  hG : G < base
  h0 : Below w0.heap.size w0 w
  hw0 : w0.heap.size ≤ G
  size : base ≤ w.heap.size
section
variable {w0 w w' : World} {base G : Nat} {e : UInt8} {vA vS : Value} {lA : List SM} {lS : List GM}
theorem FB.new (h : FB w0 base G e vA vS lA lS w) (k : Below w.heap.size w w') : FB w0 base G e vA vS lA lS w' :=
  ⟨h.blk.below k h.blk.lt, own_below h.rA k, own_below h.rS k, fun g hg => own_below (h.each g hg) k, h.okA, h.okS, h.hG, h.h0.trans (k.mono h.h0.size), h.hw0, Nat.le_trans h.size k.size⟩
theorem FB.alloc (h : FB w0 base G e vA vS lA lS w) (o : Obj) : FB w0 base G e vA vS lA lS (w.alloc o) := h.new ((Below.refl _ _).alloc (Nat.le_refl _) o)
theorem FB.drew (h : FB w0 base G e vA vS lA lS w) : FB w0 base G e vA vS lA lS w.drew := h.new (Below.refl _ _).drew
theorem blk_set_oth {g b i : Nat} {t : TypeId} {cs : Array Value} (h : Blk w g t cs) (v : Value) (hne : g ≠ b) : Blk (w.setCell ⟨b, i, none⟩ v) g t cs := (RowKit.Below.heap_setCell _ _ _ _ hne).trans h
/-- an arg more, behind its append, stored. -/
theorem FB.pushA {vA' : Value} {m : SM} (h : FB w0 base G e vA vS lA [] w) (hm : m.Ok w0) (ho : w'.ownsRow base 41 10 vA' (lA.length + 1) (smC lA ++ smL m)) (hb : Below base w w') (hg : w.grownBy w' vA.ownBlock) :
    FB w0 base G e vA' vS (lA ++ [m]) [] (w'.setCell ⟨G, 1, none⟩ vA') := by
  have hk := h.blk.below hb h.hG
  have hr : w'.ownsRow base 53 4 vS 0 [] := h.rS.kept hg (own_apart h.rS h.rA (fun q => step_stage q.symm))
  have e1 : smC (lA ++ [m]) = smC lA ++ smL m := by simp [smC]
  refine ⟨by have q := hk.set_ 1 vA'; simpa using q, ?_, own_set hr h.hG _, (fun g hg => by cases hg), fun x hx => ?_, (fun g hg => by cases hg), h.hG, ?_, h.hw0, by rw [setCell_size]; exact Nat.le_trans h.size hb.size⟩
  · rw [e1, List.length_append]
    exact own_set ho h.hG _
  · rcases List.mem_append.1 hx with hx | hx
    · exact h.okA x hx
    · rw [List.mem_singleton] at hx; subst hx; exact hm
  · exact (h.h0.trans (hb.mono (by have := h.hG; have := h.hw0; omega))).setCell (p := ⟨G, 1, none⟩) h.hw0 _
/-- a stage more, behind its append, stored. -/
theorem FB.pushS {vS' : Value} {g : GM} (h : FB w0 base G e vA vS lA lS w) (hr : w.ownsRow base 41 10 g.vs g.ms.length (smC g.ms)) (hm : ∀ m ∈ g.ms, m.Ok w0) (ho : w'.ownsRow base 53 4 vS' (lS.length + 1) (gmC lS ++ gmL g)) (hb : Below base w w') (hg : w.grownBy w' vS.ownBlock) :
    FB w0 base G e vA vS' lA (lS ++ [g]) (w'.setCell ⟨G, 2, none⟩ vS') := by
  have hk := h.blk.below hb h.hG
  have hkeep : ∀ {n : Nat} {v : Value} {xs : List Value}, w.ownsRow base 41 10 v n xs → (w'.setCell ⟨G, 2, none⟩ vS').ownsRow base 41 10 v n xs := fun q => own_set (q.kept hg (own_apart q h.rS step_stage)) h.hG _
  have e1 : gmC (lS ++ [g]) = gmC lS ++ gmL g := by simp [gmC]
  refine ⟨by have q := hk.set_ 2 vS'; simpa using q, hkeep h.rA, ?_, fun x hx => ?_, h.okA, fun x hx => ?_, h.hG, ?_, h.hw0, by rw [setCell_size]; exact Nat.le_trans h.size hb.size⟩
  · rw [e1, List.length_append]
    exact own_set ho h.hG _
  · rcases List.mem_append.1 hx with hx | hx
    · exact hkeep (h.each x hx)
    · rw [List.mem_singleton] at hx; subst hx; exact hkeep hr
  · rcases List.mem_append.1 hx with hx | hx
    · exact h.okS x hx
    · rw [List.mem_singleton] at hx; subst hx; exact hm
  · exact (h.h0.trans (hb.mono (by have := h.hG; have := h.hw0; omega))).setCell (p := ⟨G, 2, none⟩) h.hw0 _
/-- another block of the call's turns. -/
theorem FB.oth (h : FB w0 base G e vA vS lA lS w) {b : Nat} (k : w.grownBy w' (some b)) (hb : b < base) (hG : b ≠ G) (h0 : w0.heap.size ≤ b) : FB w0 base G e vA vS lA lS w' := by
  have hrow : ∀ {e' : TypeId} {n j : Nat} {v : Value} {xs : List Value}, w.ownsRow base e' j v n xs → w'.ownsRow base e' j v n xs := fun q => q.kept k (by
    rename_i v _
    rcases hx : v.ownBlock with _ | g
    · exact .inl rfl
    · refine .inr (fun r => ?_)
      injection r with r
      have := (q.lt g hx).1
      omega)
  exact ⟨(k.block G h.blk.lt (fun r => hG (by injection r with r; exact r.symm))).trans h.blk, hrow h.rA, hrow h.rS, fun g hg => hrow (h.each g hg), h.okA, h.okS, h.hG, h.h0.trans ((Fx.of_grown k).to_below h.h0.size (fun c r => by injection r with r; omega)), h.hw0, Nat.le_trans h.size k.size⟩
/-- what was put together, as a file in memory. -/
theorem FB.file (h : FB w0 base G e vA vS lA lS w) : FM.Ok w ⟨e, vA, lA, vS, lS⟩ :=
  ⟨⟨SlA.own h.rA, fun m hm => (h.okA m hm).new h.h0⟩, ⟨SlA.own h.rS, fun g hg => ⟨SlA.own (h.each g hg), fun m hm => (h.okS g hg m hm).new h.h0⟩⟩⟩
theorem own_nil (w : World) (base k : Nat) (e : TypeId) : w.ownsRow base e k (.slice none 0 0) 0 [] := ⟨by simp, .inl ⟨rfl, rfl⟩⟩
end
end Go.Proofs.YtdaejggcjjdhkaaGreatDoor
