/- glob.names. -/
import Derived.Test.YtdjfakampjbgeaaDoorGbJ
import Derived.Maps.OwnIn
namespace Go.Proofs.YtdjfakampjbgeaaDoor
open Go Go.RowKit Go.Shelf
attribute [local go_sem] Oper.semAt_some

theorem pieces_in (n : Nat) (s : List UInt8) (w : World) : CallsIn Fence.wide n Tryd.prog 55 #[.string (bs s)] w fun e w' => e = .returned (.func (.func 79) #[] #[.pointer (some ⟨w.heap.size, 0, none⟩)]) ∧ w' = w.alloc (.cells #[.string (bs s)] 9) := by
  refine callsIn_of_wp Tryd.func55 rfl trivial ?_ rfl
  simp only [Tryd.ntmps55, List.size_toArray, List.length_cons, List.length_nil, Nat.reduceAdd, Nat.reduceSub, Array.replicate_succ, Array.replicate_zero, List.push_toArray, List.append_toArray, List.nil_append, List.cons_append]
  gi_wp2
  go_ret
  exact ⟨rfl, rfl⟩
theorem info_str : (Tryd.prog.info? 9).map (fun i => (i.zero, i.size, i.bytes)) = some (some (.string ⟨#[]⟩), 1, 16) := by kernel_rfl
theorem alloc_grown (W : World) (o : Obj) : W.grownBy (W.alloc o) none := ⟨rfl, rfl, rfl, by simp, fun k hk _ => Below.heap_alloc W o k hk⟩
set_option maxRecDepth 100000 in
set_option maxHeartbeats 2000000 in
theorem names_in (n : Nat) (s : List UInt8) (w : World) (hs : s.length < 1000000000) (hm : Maxl w) :
    CallsIn Fence.wide n Tryd.prog 36 #[.string (bs s)] w fun e W' => ∃ v, e = .returned v ∧ W'.ownsRow w.heap.size 9 1 v (Gl.namesL s).length (sc (Gl.namesL s)) ∧ Below w.heap.size w W' := by
  obtain ⟨i0, hi, hz0, hz1, hz2⟩ := info_parts info_str
  have hln := Gl.namesL_length s
  refine callsIn_of_wp_marks Tryd.func36 rfl trivial ?_ rfl
  simp only [Tryd.ntmps36, List.size_toArray, List.length_cons, List.length_nil, Nat.reduceAdd, Nat.reduceSub, Array.replicate_succ, Array.replicate_zero, List.push_toArray, List.append_toArray, List.nil_append, List.cons_append]
  gi_wp2_with (refine ⟨trivial, (fun h => by cases h), ?_⟩; gi_at_call 55; refine (pieces_in _ s _).mono ?_; rintro e w' ⟨rfl, rfl⟩)
  have bO := Boxed.new w 28 (.slice none 0 0)
  have bS := Boxed.new (w.alloc (.cells #[.slice none 0 0] 28)) 9 (.string (bs s))
  rw [World.size_alloc] at bS
  obtain ⟨w2, hw2⟩ : ∃ w2, (w.alloc (.cells #[.slice none 0 0] 28)).alloc (.cells #[.string (bs s)] 9) = w2 := ⟨_, rfl⟩
  have hB2 : Below w.heap.size w w2 := by rw [← hw2]; exact ((Below.refl _ w).alloc (Nat.le_refl _) _).alloc (by simp) _
  have hzw : w2.heap.size = w.heap.size + 2 := by rw [← hw2]; simp
  have bO2 : Boxed w2 w.heap.size 28 (.slice none 0 0) := by rw [← hw2]; exact bO.alloc _
  rw [hw2] at bS ⊢
  clear hw2 bO
  refine wpIn_range_o (gf := 79) (lb := #[.pointer (some ⟨w.heap.size + 1, 0, none⟩)]) rfl (enters_of Tryd.func79 (by kernel_rfl) rfl) (pieces_seq n s (w.heap.size + 1) w2 hs bS.cell) (Below.refl _ _) (fun _ => rfl)
    (fun H pre W => (∃ v, Boxed W w.heap.size 28 v ∧ W.ownsRow w.heap.size 9 1 v pre.length (sc pre) ∧ ∀ g, v.ownBlock = some g → H ≤ g) ∧ Below w.heap.size w W)
    (fun _ _ _ _ => False)
    (fun H => OwnFrom.and (Own.from (holdsRow_own w.heap.size w.heap.size 28 9 1 (fun pre => pre.length) (fun pre => sc pre) (fun _ v => ∀ g, v.ownBlock = some g → H ≤ g)) _) (ownFrom_below (Nat.le_refl _) (by omega)))
    (fun _ _ _ _ _ _ hs _ _ => hs)
    (fun H pre W hs => hm.below hs.2 hm.lt)
    (fun H => ⟨⟨_, bO2, World.ownsRow_nil _ _ _ _, fun g e => by cases e⟩, hB2⟩)
    (fun x => { tmps := #[.string (bs s), undef, .slice none 0 0, .pointer (some ⟨w.heap.size, 0, none⟩), .string (bs x), .string (bs s), .func (.func 79) #[] #[.pointer (some ⟨w.heap.size + 1, 0, none⟩)], .string (bs x), undef, undef, undef, undef, undef], defers := [] }) ?assign ?body ?done ?stop
  case assign =>
    intro l x W K hK
    gi_wp2
    exact hK
  case body =>
    rintro l H pre x W hwH hHW ⟨⟨v, hv, hrow, hown⟩, hB⟩ hpre
    have hpl : pre.length + 1 ≤ (Gl.namesL s).length := by have := hpre.length_le; simpa using this
    have hc := hv.cell
    have hmx : maxLen = 9223372036854775807 := rfl
    gi_wp2_with (gi_at_builtin; refine wpListIn_append_own_at _ rfl _ _ 28 rfl w.heap.size 9 i0 (.string ⟨#[]⟩) 1 16 Tryd.underlying28 hi hz0 hz1 hz2 rfl (by decide) _ _ _ rfl (hrow.alloc _) ⟨W.heap.size, 0, none⟩ 1 1 [.string (bs x)] rfl rfl (cell_one_new _ _ _) (by simp [Value.oneCell']) (by omega) (by omega) (by have := hB.size; simp; omega) ?_; intro v' w1 hown' hgrow _ hat; obtain ⟨g', cap', rfl⟩ := ownsRow_succ hown'; obtain ⟨hv1, hv2, hr2, hk2, hb2⟩ := hv.appended (by decide) hrow hB.size (Nat.le_refl _) hown' hgrow; have hc1 := hv1.cell; have hf1 := hv1.frozen)
    have hg1 : (W.alloc (.cells #[.string (bs x)] 9)).grownBy w1 v.ownBlock := hgrow
    have hat1 : some g' = v.ownBlock ∨ some g' = some (W.alloc (.cells #[.string (bs x)] 9)).heap.size := hat
    refine ⟨?_, ⟨⟨_, hv2, ?_, ?_⟩, hB.trans hb2⟩⟩
    · exact ((Stays.of_grown (alloc_grown W _) hHW (fun r e => by cases e)).trans (Stays.of_grown hg1 (by simp; omega) (fun r e => .inr (hown r e)))).trans (Stays.of_grown (grownBy_setCell' w1 w.heap.size _) (by have := hg1.size; simp at this; omega) (fun r e => by cases e; exact .inl (by omega)))
    · rw [List.length_append, sc_append]
      exact hr2
    · intro g e
      obtain rfl : g' = g := by injection e
      rcases hat1 with h | h
      · exact hown _ h.symm
      · have : g' = W.heap.size + 1 := by simpa using h
        omega
  case done =>
    rintro D H W hD ⟨⟨v, hv, hrow, _⟩, hB⟩ hk
    have hc := hv.cell
    gi_wp2
    refine ⟨by simp, .inl ⟨_, _, rfl, run_takeDeferred hk, ?_⟩⟩
    exact ⟨_, results_tmp rfl _ _ _, v, rfl, ownsRow_putObj hrow _ hk rfl, hB.trans (belowK_b (w := w) (Nat.le_refl _) W D _ _ (by omega) hk rfl rfl)⟩
  case stop =>
    rintro D H c pre W _ h _
    exact h.elim
/-- the names of a text. -/
theorem names_any (s : ByteArray) (w : World) (hs : s.size < 1000000000) (hm : Maxl w) :
    Calls Tryd.prog 36 #[.string s] w fun e W' => ∃ v, e = .returned v ∧ W'.ownsRow w.heap.size 9 1 v (Gl.namesL (bl s)).length (sc (Gl.namesL (bl s))) ∧ Below w.heap.size w W' := by
  have := names_in 3 (bl s) w (by rw [bl_length]; exact hs) hm
  rw [bs_bl] at this
  exact callsIn_wide.1 this
end Go.Proofs.YtdjfakampjbgeaaDoor
