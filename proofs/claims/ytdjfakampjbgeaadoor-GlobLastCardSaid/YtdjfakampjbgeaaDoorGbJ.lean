/- path.Pieces as an iterator; glob.names. -/
import Derived.Test.YtdjfakampjbgeaaDoorGbI
namespace Go.Proofs.YtdjfakampjbgeaaDoor
open Go Go.RowKit Go.Shelf
attribute [local go_sem] Oper.semAt_some

theorem all_in (n : Nat) (s : List UInt8) (w : World) : CallsIn Fence.wide n Tryd.prog 80 #[.string (bs s)] w fun e w' => e = .returned (.func (.func 96) #[] #[.pointer (some ⟨w.heap.size, 0, none⟩)]) ∧ w' = w.alloc (.cells #[.string (bs s)] 9) := by
  refine callsIn_of_wp Tryd.func80 rfl trivial ?_ rfl
  simp only [Tryd.ntmps80, List.size_toArray, List.length_cons, List.length_nil, Nat.reduceAdd, Nat.reduceSub, Array.replicate_succ, Array.replicate_zero, List.push_toArray, List.append_toArray, List.nil_append, List.cons_append]
  gi_wp2
  go_ret
  exact ⟨rfl, rfl⟩
def flt (l : List (List UInt8)) : List (List UInt8) := l.filter fun x => !x.isEmpty
theorem flt_snoc_no (l : List (List UInt8)) : flt (l ++ [[]]) = flt l := by simp [flt]
theorem flt_snoc {l : List (List UInt8)} {x : List UInt8} (h : x ≠ []) : flt (l ++ [x]) = flt l ++ [x] := by
  simp only [flt, List.filter_append]
  cases x with
  | nil => exact absurd rfl h
  | cons c x => rfl
theorem flt_prefix {a b : List (List UInt8)} (h : a <+: b) : flt a <+: flt b := by
  obtain ⟨c, rfl⟩ := h
  exact ⟨flt c, by simp [flt]⟩
theorem own_flt {B B' : Nat} {J : List (List UInt8) → World → Prop} (h : OwnFrom B J) (hb : B ≤ B') : OwnFrom B' (fun pre W => J (flt pre) W) :=
  fun s X Y row hs hg hr => h (flt s) X Y row hs hg (fun r e => ⟨Nat.le_trans hb (hr r e).1, (hr r e).2⟩)
theorem bs_empty (x : List UInt8) : (bs x).toList.isEmpty = x.isEmpty := by
  have : (bs x).toList = x := by rw [ByteArray.toList_eq]; rfl
  rw [this]
set_option maxRecDepth 100000 in
set_option maxHeartbeats 1000000 in
theorem pieces_seq (n : Nat) (s : List UInt8) (B : Nat) (w : World) (hs : s.length < 1000000000) (hc : w.cell? ⟨B, 0, none⟩ = some (.string (bs s))) :
    SeqO n Tryd.prog 79 #[.pointer (some ⟨B, 0, none⟩)] (fun x : List UInt8 => #[Value.string (bs x)]) Maxl (Gl.namesL s) w := by
  intro l J Jx V hV hJ hJx hK hY h0
  have hlt : B < w.heap.size := World.block_lt_of_cell? w _ hc
  have hltV : B < V.heap.size := Nat.lt_of_lt_of_le hlt hV.size
  have hcV : V.cell? ⟨B, 0, none⟩ = some (.string (bs s)) := (hV.cell (p := ⟨B, 0, none⟩) hlt).trans hc
  refine callsIn_of_wp_marks Tryd.func79 rfl trivial ?_ rfl
  simp only [Tryd.ntmps79, List.size_toArray, List.length_cons, List.length_nil, Nat.reduceAdd, Nat.reduceSub, Array.replicate_succ, Array.replicate_zero, List.push_toArray, List.append_toArray, List.nil_append, List.cons_append]
  gi_wp2_with (refine ⟨trivial, (fun h => by cases h), ?_⟩; gi_at_call 80; refine (all_in _ s _).mono ?_; rintro e w' ⟨rfl, rfl⟩)
  have bY := Boxed.new V 36 (.func (.yield l) #[] #[])
  have bS := Boxed.new (V.alloc (.cells #[.func (.yield l) #[] #[]] 36)) 9 (.string (bs s))
  rw [World.size_alloc] at bS
  obtain ⟨w2, hw2⟩ : ∃ w2, (V.alloc (.cells #[.func (.yield l) #[] #[]] 36)).alloc (.cells #[.string (bs s)] 9) = w2 := ⟨_, rfl⟩
  have hB2 : Below V.heap.size V w2 := by rw [← hw2]; exact ((Below.refl _ V).alloc (Nat.le_refl _) _).alloc (by simp) _
  have hz2 : w2.heap.size = V.heap.size + 2 := by rw [← hw2]; simp
  have h02 : ∀ H, J H [] w2 := fun H => by rw [← hw2]; exact (hJ H).alloc _ ((hJ H).alloc _ (h0 H))
  have bY2 : Boxed w2 V.heap.size 36 (.func (.yield l) #[] #[]) := by rw [← hw2]; exact bY.alloc _
  rw [hw2] at bS ⊢
  clear hw2 bY
  refine wpIn_range_o (gf := 96) (lb := #[.pointer (some ⟨V.heap.size + 1, 0, none⟩)]) rfl (enters_of Tryd.func96 (by kernel_rfl) rfl) (all_seq n s (V.heap.size + 1) w2 hs bS.cell) (Below.refl _ _) (fun _ => rfl)
    (fun H pre W => J H (flt pre) W ∧ Boxed W V.heap.size 36 (.func (.yield l) #[] #[]))
    (fun H c pre W => c = Code.ret ∧ Jx H (flt pre) W)
    (fun H => OwnFrom.and (own_flt (hJ H) (by omega)) (Own.from (boxed_own _ _ (fun _ => .func (.yield l) #[] #[])) _))
    (fun H c => OwnFrom.and (ownFrom_pure _ _) (own_flt (hJx H) (by omega)))
    (fun H pre W hs => hK H _ W hs.1)
    (fun H => ⟨h02 H, bY2⟩)
    (fun x => { tmps := #[.func (.yield l) #[] #[], .pointer (some ⟨B, 0, none⟩), .pointer (some ⟨V.heap.size, 0, none⟩), .string (bs x), .string (bs s), .func (.func 96) #[] #[.pointer (some ⟨V.heap.size + 1, 0, none⟩)], .string (bs x), undef, undef, undef, undef, undef, undef, undef, undef], defers := [] }) ?assign ?body ?done ?stop
  case assign =>
    intro l x W K hK
    gi_wp2
    exact hK
  case body =>
    rintro l' H pre x W hwH hHW ⟨hJp, hbox⟩ hpre
    by_cases hx : x = []
    · subst hx
      have tx : (bs ([] : List UInt8)).toList.isEmpty = true := bs_empty []
      gi_wp2
      refine ⟨fun _ h => (by cases h), ?_⟩
      gi_wp2
      exact ⟨Stays.refl _ _ _, by rw [flt_snoc_no]; exact hJp, hbox⟩
    · have tx : (bs x).toList.isEmpty = false := by rw [bs_empty]; simpa using hx
      have hcb := hbox.cell
      have hp2 : flt pre ++ [x] <+: Gl.namesL s := by rw [← flt_snoc hx]; exact flt_prefix hpre
      obtain ⟨fn, tmps, assign, body, hy, hR⟩ := hY H (flt pre) x W (by omega) hHW hJp hp2
      gi_wp2
      refine ⟨(fun h => by cases h), (round_in l' _ hR).mono ?_⟩
      rintro e W3 ⟨hst, (⟨rfl, hJ3⟩ | ⟨rfl, hJx3⟩)⟩
      · gi_wp2
        exact ⟨hst.higher (by omega), by rw [flt_snoc hx]; exact hJ3, (hst.2 _ (Nat.le_refl _) (by omega)).trans hbox⟩
      · gi_wp2
        exact ⟨hst.higher (by omega), rfl, by rw [flt_snoc hx]; exact hJx3⟩
  case done =>
    rintro D H W hD ⟨hi, _⟩ hk
    gi_wp2
    have hJe : J H (Gl.namesL s) (W.putObj D (.deferred none)) := (hJ H).putObj _ hi (by omega) hk rfl
    refine ⟨by simp, .inl ⟨_, _, rfl, run_takeDeferred hk, ?_⟩⟩
    exact ⟨_, results_none rfl _ _ _, ⟨_, rfl⟩, .inl ⟨H, hJe⟩⟩
  case stop =>
    rintro D H c pre W hD ⟨rfl, hi⟩ hk
    gi_wp2
    have hJe : Jx H (flt pre) (W.putObj D (.deferred none)) := (hJx H).putObj _ hi (by omega) hk rfl
    refine ⟨by simp, .inl ⟨_, _, rfl, run_takeDeferred hk, ?_⟩⟩
    exact ⟨_, results_none rfl _ _ _, ⟨_, rfl⟩, .inr ⟨H, _, hJe⟩⟩
end Go.Proofs.YtdjfakampjbgeaaDoor
