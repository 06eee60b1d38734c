/- stratalaw02.below, walked. -/
import Derived.Test.YtdjfakampjbgeaaDoorGtD
namespace Go.Proofs.YtdjfakampjbgeaaDoor
open Go Go.RowKit

/-- is there something below that is not out? -/
def Gl.overL (rs : List Gl.Rl) (es : List En) (d : List UInt8) : Bool := es.any fun y => Gl.belowP d y.path && Gl.inB rs y
set_option maxRecDepth 100000 in
set_option maxHeartbeats 8000000 in
theorem under_hid (rs : List Gl.Rl) (B : Nat) (es : List En) (d : ByteArray) (At : Option Addr) (ct : Nat) (w : World) {S S2 : Nat → Prop} (hL : ListAt w S B rs) (hz : rs.length ≤ 256) {m : Nat} (hok : ∀ r ∈ rs, Gl.RlOk m r) (hd : d.size ≤ 2000000) (hR : RE w S2 (.slice At es.length ct) es) (hn : es.length ≤ 1100000) (hp : ∀ x ∈ es, x.path.length ≤ 1100000) (hmx : Maxl w) {r : Bool} (H : Hid (Gl.overL rs es (bl d) = r)) :
    Calls Tryd.prog 33 #[.pointer (some ⟨B, 0, none⟩), .slice At es.length ct, .string d] w fun e w' => e = .returned (.bool r) ∧ Below w.heap.size w w' := by
  have HR := Lib.hid hR
  have HP := Lib.hid hp
  have HL := Lib.hid hL
  have HM := Lib.hid hmx
  have HOK := Lib.hid hok
  clear hR hp hL hmx hok
  go_enter Tryd.func33, Tryd.ntmps33
  go_wp2_with fail
  go_loopw [7] (fun t7 wr => ∃ i : Nat, i ≤ es.length ∧ t7 = .int .i64 (i : Int) ∧ Hid (Gl.overL rs (es.take i) (bl d) = false) ∧ Below w.heap.size w wr) (fun t7 _ => es.length - (intOf t7).toNat)
  case atStart => exact ⟨0, by omega, rfl, Lib.hid (by simp [Gl.overL]), Below.refl _ _⟩
  case round =>
    obtain ⟨i, hi, rfl, HT, hB⟩ := hrel
    have j0 : (0 : Int) ≤ (i : Int) := by omega
    rcases Nat.lt_or_ge i es.length with hin | hin
    · have i0 : decide ((i : Int) < (es.length : Int)) = true := by rw [decide_eq_true_eq]; omega
      have i1 : (i : Int) < (es.length : Int) := by omega
      obtain ⟨g, o, c, hvl, c0, _⟩ := (HR.out.below hB).at_ hin
      obtain ⟨hA, hcc⟩ : At = some ⟨g, o, none⟩ ∧ ct = c := by injection hvl with e1 _ e3; exact ⟨e1, e3⟩
      subst hA hcc
      have hpx := HP.out _ (List.getElem_mem hin)
      have hsn : Gl.overL rs (es.take (i + 1)) (bl d) = (Gl.overL rs (es.take i) (bl d) || (Gl.belowP (bl d) es[i].path && Gl.inB rs es[i])) := by
        unfold Gl.overL
        rw [List.take_add_one, List.getElem?_eq_getElem hin, List.any_append]
        simp
      have hmem : Gl.belowP (bl d) es[i].path = true → Gl.inB rs es[i] = true → Gl.overL rs es (bl d) = true := fun h1 h2 => List.any_eq_true.2 ⟨_, List.getElem_mem hin, by rw [h1, h2]; rfl⟩
      obtain ⟨x, hx⟩ : ∃ x, es[i] = x := ⟨_, rfl⟩
      rw [hx] at c0 hpx hsn hmem
      rw [HT.out, Bool.false_or] at hsn
      have zx : (bs x.path).size ≤ 2000000 := by rw [bs_size]; omega
      obtain ⟨b1, hb1⟩ : ∃ b, Hid (Gl.belowP (bl d) (bl (bs x.path)) = b) := ⟨_, Lib.hid rfl⟩
      obtain ⟨b2, hb2⟩ : ∃ b, Hid (Gl.outL rs (Gl.namesL (bl (bs x.path))) = b) := ⟨_, Lib.hid rfl⟩
      have q1 : Gl.belowP (bl d) x.path = b1 := by rw [← hb1.out, bl_bs]
      have q2 : Gl.inB rs x = !b2 := by rw [Gl.inB, ← hb2.out, bl_bs]
      rw [q1, q2] at hsn hmem
      have HSN := Lib.hid hsn
      have HMEM := Lib.hid hmem
      have hL5 := HL.out.below hB
      have hM5 := HM.out.below hB HM.out.lt
      clear hvl hsn hmem hx q1 q2
      cases b1 with
      | false =>
        have HN : Hid (Gl.overL rs (es.take (i + 1)) (bl d) = false) := Lib.hid HSN.out
        go_wp2_with fail
        refine (below_hid d (bs x.path) _ hd hb1).mono ?_
        rintro e w1 ⟨rfl, rfl⟩
        go_wp2_with fail
        go_roundw
        case rel => exact ⟨i + 1, by omega, by go_num, HN, hB⟩
        case measure => simp [intOf]; omega
      | true =>
        go_wp2_with fail
        refine (below_hid d (bs x.path) _ hd hb1).mono ?_
        rintro e w1 ⟨rfl, rfl⟩
        go_wp2_with fail
        refine (out_any rs B (bs x.path) _ hL5 hz HOK.out zx hM5 hb2).mono ?_
        rintro e w2 ⟨rfl, bx⟩
        have hB2 := below_of_below hB bx hB.size
        clear bx c0 hB
        cases b2 with
        | false =>
          have hR : Hid (r = true) := Lib.hid (by rw [← H.out]; exact HMEM.out (by first | rfl | trivial) (by first | rfl | trivial))
          go_wp2_with fail
          go_ret
          exact ⟨by rw [hR.out]; rfl, hB2⟩
        | true =>
          have HN : Hid (Gl.overL rs (es.take (i + 1)) (bl d) = false) := Lib.hid HSN.out
          go_wp2_with fail
          go_roundw
          case rel => exact ⟨i + 1, by omega, by go_num, HN, hB2⟩
          case measure => simp [intOf]; omega
    · have i0 : decide ((i : Int) < (es.length : Int)) = false := by rw [decide_eq_false_iff_not]; omega
      have hR : Hid (r = false) := Lib.hid (by rw [← H.out, ← HT.out, List.take_of_length_le hin])
      go_wp2_with fail
      go_ret
      exact ⟨by rw [hR.out]; rfl, hB⟩
end Go.Proofs.YtdjfakampjbgeaaDoor
/- What stays of a tree is one, plain. -/
namespace Go.Proofs.YtdjfakampjbgeaaDoor.Gl
open Go

theorem stay_over (rs : List Rl) (es : List En) (x : En) : stayB rs es x = (inB rs x || overL rs es x.path) := by
  unfold stayB overL
  congr 1
  congr 1
  funext y
  exact Bool.and_comm _ _
theorem mem_keep {rs : List Rl} {es : List En} {x : En} : x ∈ keepL rs es ↔ x ∈ es ∧ stayB rs es x = true := List.mem_filter
/-- what is not out stays. -/
theorem over_keep (rs : List Rl) (es : List En) (d : List UInt8) : overL rs (keepL rs es) d = overL rs es d := by
  rw [Bool.eq_iff_iff]
  unfold overL
  rw [List.any_eq_true, List.any_eq_true]
  constructor
  · rintro ⟨y, hy, h⟩
    exact ⟨y, (mem_keep.1 hy).1, h⟩
  · rintro ⟨y, hy, h⟩
    refine ⟨y, mem_keep.2 ⟨hy, ?_⟩, h⟩
    rw [Bool.and_eq_true] at h
    rw [stay_over, h.2, Bool.true_or]
theorem keep_keep (rs : List Rl) (es : List En) : keepL rs (keepL rs es) = keepL rs es := by
  show (keepL rs es).filter (stayB rs (keepL rs es)) = keepL rs es
  rw [List.filter_eq_self]
  intro x hx
  rw [stay_over, over_keep, ← stay_over]
  exact (mem_keep.1 hx).2
end Go.Proofs.YtdjfakampjbgeaaDoor.Gl
/- What stays of a tree rises, plain. -/
namespace Go.Proofs.YtdjfakampjbgeaaDoor.Gl
open Go

theorem house_stays {rs : List Rl} {es : List En} {x f : En} (hx : x ∈ es) (hs : stayB rs es x = true) (hf : f.path = parentL x.path) (hn : parentL x.path ≠ []) : stayB rs es f = true := by
  rw [stay_over, Bool.or_eq_true] at hs ⊢
  right
  rw [hf]
  unfold overL at hs ⊢
  rw [List.any_eq_true] at hs ⊢
  rcases hs with h | ⟨y, hy, h⟩
  · exact ⟨x, hx, by rw [parent_below hn, h]; rfl⟩
  · rw [Bool.and_eq_true] at h
    exact ⟨y, hy, by rw [below_trans hn (parent_below hn) h.1, h.2]; rfl⟩
/-- the directories lie ahead, by parts. -/
def Housed (es : List En) : Prop := ∀ a x b, es = a ++ x :: b → parentL x.path = [] ∨ ∃ f ∈ a, f.path = parentL x.path ∧ f.kind = 1
theorem housed_iff {es : List En} {i : Nat} (hi : i < es.length) : housed es i = true ↔ (parentL es[i].path = [] ∨ ∃ f ∈ es.take i, f.path = parentL es[i].path ∧ f.kind = 1) := by
  unfold housed
  rw [List.getElem?_eq_getElem hi]
  simp [List.isEmpty_iff]
theorem keep_housed {rs : List Rl} {es : List En} (h : Housed es) : Housed (keepL rs es) := by
  intro a x b e
  obtain ⟨a1, l2, rfl, ha, hl⟩ := List.filter_eq_append_iff.1 e
  obtain ⟨c, d, rfl, hc, hx, _⟩ := List.filter_eq_cons_iff.1 hl
  rcases h (a1 ++ c) x d (by simp) with h1 | ⟨f, hf, h2, h3⟩
  · exact .inl h1
  · by_cases hn : parentL x.path = []
    · exact .inl hn
    · refine .inr ⟨f, ?_, h2, h3⟩
      have hsf := house_stays (x := x) (f := f) (by simp) hx h2 hn
      rcases List.mem_append.1 hf with hf | hf
      · rw [← ha]; exact List.mem_filter.2 ⟨hf, hsf⟩
      · exact absurd hsf (hc f hf)
def Up (f e : En) : Prop := cmpL (cutL 47 f.path) (cutL 47 e.path) < 0
theorem up_of {es : List En} (h : risesL es = true) : ∀ (i j : Nat) (hij : j < i) (hi : i < es.length), Up (es[j]'(by omega)) es[i]
  | 0, _, h, _ => by omega
  | i + 1, j, hij, hi => by
    have hb := (rises_at h hi).1
    rw [behind_at hi (by omega : i < es.length) rfl, decide_eq_true_eq] at hb
    by_cases e : j = i
    · subst e; exact hb
    · exact cmp_trans _ _ _ (up_of h i j (by omega) (by omega)) hb
theorem rises_parts {es : List En} (h : risesL es = true) : es.Pairwise Up ∧ Housed es := by
  constructor
  · rw [List.pairwise_iff_getElem]
    intro j i hj hi hji
    exact up_of h i j hji hi
  · intro a x b e
    subst e
    have hi : a.length < (a ++ x :: b).length := by simp
    have hg : (a ++ x :: b)[a.length] = x := by simp
    have := (housed_iff hi).1 (rises_at h hi).2
    rwa [hg, List.take_left'] at this
    rfl
theorem rises_of {es : List En} (h1 : es.Pairwise Up) (h2 : Housed es) : risesL es = true := by
  refine rises_yes fun i hi => ⟨?_, ?_⟩
  · cases i with
    | zero => exact behind_zero es
    | succ m =>
      rw [behind_at hi (by omega : m < es.length) rfl, decide_eq_true_eq]
      exact List.pairwise_iff_getElem.1 h1 m (m + 1) (by omega) hi (by omega)
  · rw [housed_iff hi]
    exact h2 (es.take i) es[i] (es.drop (i + 1)) (by rw [← List.drop_eq_getElem_cons hi, List.take_append_drop])
theorem keep_rises {rs : List Rl} {es : List En} (h : risesL es = true) : risesL (keepL rs es) = true :=
  rises_of ((rises_parts h).1.filter _) (keep_housed (rises_parts h).2)
end Go.Proofs.YtdjfakampjbgeaaDoor.Gl
