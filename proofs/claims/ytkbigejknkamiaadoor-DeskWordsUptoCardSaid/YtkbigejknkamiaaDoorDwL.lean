/- DeskWords, walked: of all lines, true. -/
import Derived.Test.YtkbigejknkamiaaDoorDkT
import Derived.Test.YtkbigejknkamiaaDoorApartT
import Derived.Test.YtkbigejknkamiaaDoorErrNum
import Derived.Test.YtkbigejknkamiaaDoorWrapDesk
namespace Go.Proofs.YtkbigejknkamiaaDoor
open Go.RowKit

def listOf (o : Option (List (List UInt8))) : List (List UInt8) := o.getD []
def codeOf (o : Option (List (List UInt8))) : Int := if o = none then 6 else 0
def errOf (o : Option (List (List UInt8))) : Value := if o = none then wordsFault else .nilIface

theorem words_u (s : ByteArray) (w : World) (hs : s.size ≤ 1000000000000) {U : Option (List (List UInt8))} (h : Hid (Dk.words (bl s) = U)) :
    Calls Tryd.prog 5 #[.string s] w fun e w' => ∃ A c, e = .returned (.tuple #[.slice A (listOf U).length c, errOf U]) ∧ w'.ownsRow w.heap.size 9 1 (.slice A (listOf U).length c) (listOf U).length (sc (listOf U)) ∧ Below w.heap.size w w' := by
  have := words_any s w hs
  rw [h.out] at this
  refine this.mono fun e w' ⟨he, hb⟩ => ?_
  cases U with
  | none => exact ⟨none, 0, he, World.ownsRow_nil _ _ _ _, hb⟩
  | some l =>
    obtain ⟨v, he, hown⟩ := he
    obtain ⟨A, c, rfl⟩ := own_form hown
    exact ⟨A, c, he, hown, hb⟩
theorem refWords_u (s : ByteArray) (w : World) (hs : s.size ≤ 1000000000000) {U : Option (List (List UInt8))} (h : Hid (Dk.words (bl s) = U)) :
    Calls Tryd.prog 4 #[.string s] w fun e w' => ∃ A c, e = .returned (.tuple #[.slice A (listOf U).length c, .int .i64 (codeOf U)]) ∧ w'.ownsRow w.heap.size 9 1 (.slice A (listOf U).length c) (listOf U).length (sc (listOf U)) ∧ Below w.heap.size w w' := by
  have := refWords_any s w hs
  rw [h.out] at this
  refine this.mono fun e w' ⟨he, hb⟩ => ?_
  cases U with
  | none => exact ⟨none, 0, he, World.ownsRow_nil _ _ _ _, hb⟩
  | some l =>
    obtain ⟨v, he, hown⟩ := he
    obtain ⟨A, c, rfl⟩ := own_form hown
    exact ⟨A, c, he, hown, hb⟩
theorem plain_u (U : Option (List (List UInt8))) (w : World) (hg : ErrVar w) :
    Calls Tryd.prog 6 #[errOf U, .int .i64 (codeOf U)] w fun e w' => e = .returned (.bool true) ∧ Below w.heap.size w w' := by
  cases U with
  | none => exact plain_of _ _ 6 (fun b w => isDesk _ 6 b w) (fun t w h => asDesk _ 6 t w h) (by omega) (by omega) 6 w hg
  | some l => exact plain_nil 0 w
theorem same_u (A B : Option Addr) (l : List (List UInt8)) (c d : Nat) (w : World) (h1 : Reads w w.heap.size A l.length (sc l)) (h2 : Reads w w.heap.size B l.length (sc l)) (hn : l.length ≤ 9000000000000000000) :
    Calls Tryd.prog 7 #[.slice A l.length c, .slice B l.length d] w fun e w' => e = .returned (.bool true) ∧ Below w.heap.size w w' := by
  refine (sameTexts_any A B l l _ _ c d _ w h1 h2 hn).mono fun e w' ⟨he, q, hw⟩ => ?_
  have hbt : (l == l) = true := by simp
  rw [hbt] at he
  subst hw
  exact ⟨he, below_drewN (Below.refl _ _) q⟩

/-- no more words than bytes. -/
theorem wordsF_length (n : Nat) : ∀ (s : List UInt8) (acc l : List (List UInt8)), Dk.wordsF n s acc = some l → l.length ≤ acc.length + n := by
  induction n with
  | zero => intro s acc l h; simp [Dk.wordsF] at h; subst h; omega
  | succ n ih =>
    intro s acc l h
    cases s with
    | nil => simp [Dk.wordsF] at h; subst h; omega
    | cons c r =>
      rw [wordsF_cons] at h
      split at h
      · have := ih _ _ _ h; omega
      split at h
      · injection h with h; subst h; omega
      split at h
      · split at h
        · cases h
        · split at h
          · have := ih _ _ _ h; simp at this; omega
          · split at h
            · have := ih _ _ _ h; simp at this; omega
            · cases h
      · have := ih _ _ _ h; simp at this; omega
theorem listOf_length (s : ByteArray) : (listOf (Dk.words (bl s))).length ≤ s.size := by
  cases h : Dk.words (bl s) with
  | none => simp [listOf]
  | some l =>
    have := wordsF_length _ _ _ _ h
    simp [listOf, bl_length] at *
    omega

theorem own_base {w : World} {b b' : Nat} {e : TypeId} {size : Nat} {v : Value} {n : Nat} {xs : List Value} (h : w.ownsRow b e size v n xs) (hb : b' ≤ b) : w.ownsRow b' e size v n xs := by
  obtain ⟨h1, h2⟩ := h
  refine ⟨h1, ?_⟩
  rcases h2 with h2 | ⟨g, cap, cur, hv, hg, r⟩
  · exact .inl h2
  · exact .inr ⟨g, cap, cur, hv, by omega, r⟩
set_option maxRecDepth 100000 in
set_option maxHeartbeats 4000000 in
theorem law_walk (line other : ByteArray) (w : World) (h1 : line.size ≤ 1048576) (h2 : other.size ≤ 1048576) (hg : ErrVar w) :
    Calls Tryd.prog 3 #[.string line, .string other] w fun e w' => e = .returned (.bool true) ∧ Below w.heap.size w w' := by
  have hl1 := listOf_length line
  have hl2 := listOf_length other
  obtain ⟨U1, hU1⟩ : ∃ U, Dk.words (bl line) = U := ⟨_, rfl⟩
  obtain ⟨U2, hU2⟩ : ∃ U, Dk.words (bl other) = U := ⟨_, rfl⟩
  rw [hU1] at hl1
  rw [hU2] at hl2
  have HU1 := Lib.hid hU1
  have HU2 := Lib.hid hU2
  have HG := Lib.hid hg
  clear hU1 hU2 hg
  obtain ⟨l1, hL1⟩ : ∃ l, l = listOf U1 := ⟨_, rfl⟩
  go_enter Tryd.func3, Tryd.ntmps3
  go_wp2_with fail
  refine (refWords_u _ _ (by omega) HU1).mono ?_
  rintro e w1 ⟨A1, c1, rfl, o1, b1⟩
  go_wp2_with fail
  refine (refWords_u _ _ (by omega) HU2).mono ?_
  rintro e w2 ⟨A2, c2, rfl, o2, b2⟩
  go_wp2_with fail
  refine (words_u _ _ (by omega) HU1).mono ?_
  rintro e w3 ⟨A3, c3, rfl, o3, b3⟩
  go_wp2_with fail
  refine (words_u _ _ (by omega) HU2).mono ?_
  rintro e w4 ⟨A4, c4, rfl, o4, b4⟩
  go_wp2_with fail
  refine (words_u _ _ (by omega) HU1).mono ?_
  rintro e w5 ⟨A5, c5, rfl, o5, b5⟩
  have s1 := b1.size
  have s2 := b2.size
  have s3 := b3.size
  have s4 := b4.size
  have s5 := b5.size
  have B2 := below_of_below b1 b2 (by omega)
  have B3 := below_of_below B2 b3 (by omega)
  have B4 := below_of_below B3 b4 (by omega)
  have B5 := below_of_below B4 b5 (by omega)
  have G5 := HG.out.below B5 HG.out.lt
  go_wp2_with fail
  refine (plain_u U1 _ G5).mono ?_
  rintro e w6 ⟨rfl, b6⟩
  have s6 := b6.size
  have B6 := below_of_below B5 b6 (by omega)
  go_wp2_with fail
  refine (plain_u U2 _ (HG.out.below B6 HG.out.lt)).mono ?_
  rintro e w7 ⟨rfl, b7⟩
  have s7 := b7.size
  have B7 := below_of_below B6 b7 (by omega)
  go_wp2_with fail
  refine (plain_u U1 _ (HG.out.below B7 HG.out.lt)).mono ?_
  rintro e w8 ⟨rfl, b8⟩
  have s8 := b8.size
  have B8 := below_of_below B7 b8 (by omega)
  have C8 := (below_of_below (below_of_below b6 b7 (by omega)) b8 (by omega))
  have o1' := own_below (own_below (own_below (own_below (own_below o1 b2) b3) b4) b5) C8
  have o2' := own_below (own_below (own_below (own_below o2 b3) b4) b5) C8
  have o3' := own_below (own_below (own_below o3 b4) b5) C8
  have o4' := own_below (own_below o4 b5) C8
  have o5' := own_below o5 C8
  go_wp2_with fail
  refine (same_u _ _ _ _ _ _ (Reads.of_own o3') (Reads.of_own o1') (by omega)).mono ?_
  rintro e w9 ⟨rfl, b9⟩
  have s9 := b9.size
  have B9 := below_of_below B8 b9 (by omega)
  go_wp2_with fail
  refine (same_u _ _ _ _ _ _ (Reads.of_own (own_below o4' b9)) (Reads.of_own (own_below o2' b9)) (by omega)).mono ?_
  rintro e w10 ⟨rfl, b10⟩
  have s10 := b10.size
  have B10 := below_of_below B9 b10 (by omega)
  have C10 := below_of_below b9 b10 (by omega)
  go_wp2_with fail
  refine (same_u _ _ _ _ _ _ (Reads.of_own (own_below o5' C10)) (Reads.of_own (own_below o1' C10)) (by omega)).mono ?_
  rintro e w11 ⟨rfl, b11⟩
  have s11 := b11.size
  have B11 := below_of_below B10 b11 (by omega)
  have C11 := below_of_below C10 b11 (by omega)
  have p3 := own_below o3' C11
  have p4 := own_below o4' C11
  have p5 := own_below o5' C11
  go_wp2_with fail
  have bW := (Below.refl w11.heap.size w11).alloc (Nat.le_refl _) (.cells #[.slice A3 (listOf U1).length c3, .slice A4 (listOf U2).length c4, .slice A5 (listOf U1).length c5] 22)
  have q3 := own_below p3 bW
  have q4 := own_below p4 bW
  have q5 := own_below p5 bW
  have z3 : ∀ b, (Value.slice A3 (listOf U1).length c3).ownBlock = some b → w2.heap.size ≤ b ∧ b < w3.heap.size := fun b hb => o3.lt b hb
  have z4 : ∀ b, (Value.slice A4 (listOf U2).length c4).ownBlock = some b → w3.heap.size ≤ b ∧ b < w4.heap.size := fun b hb => o4.lt b hb
  have z5 : ∀ b, (Value.slice A5 (listOf U1).length c5).ownBlock = some b → w4.heap.size ≤ b ∧ b < w5.heap.size := fun b hb => o5.lt b hb
  have lw1 : (sc (listOf U1)).length = (listOf U1).length := sc_length _
  have lw2 : (sc (listOf U2)).length = (listOf U2).length := sc_length _
  refine (apart_any w.heap.size 3 _ _ 0 #[.slice A3 (listOf U1).length c3, .slice A4 (listOf U2).length c4, .slice A5 (listOf U1).length c5]
    (fun j => if j = 0 then .slice A3 (listOf U1).length c3 else if j = 1 then .slice A4 (listOf U2).length c4 else .slice A5 (listOf U1).length c5)
    (fun j => if j = 0 then (listOf U1).length else if j = 1 then (listOf U2).length else (listOf U1).length)
    (fun j => if j = 0 then sc (listOf U1) else if j = 1 then sc (listOf U2) else sc (listOf U1))
    (fun b => if b < w3.heap.size then 0 else if b < w4.heap.size then 1 else 2) _ ?_ ?_ (heap_alloc_new w11 _) ?_ (by omega) (by omega) ?_ ?_).mono ?_
  · intro j hj
    rcases (show j = 0 ∨ j = 1 ∨ j = 2 by omega) with rfl | rfl | rfl
    · refine ⟨own_base q3 (by omega), fun b hb => ?_⟩
      have := z3 b hb
      rw [if_pos (by omega)]
    · refine ⟨own_base q4 (by omega), fun b hb => ?_⟩
      have := z4 b hb
      rw [if_neg (by omega), if_pos (by omega)]
    · refine ⟨own_base q5 (by omega), fun b hb => ?_⟩
      have := z5 b hb
      rw [if_neg (by omega), if_neg (by omega)]
  · intro j hj
    rcases (show j = 0 ∨ j = 1 ∨ j = 2 by omega) with rfl | rfl | rfl
    · exact lw1
    · exact lw2
    · exact lw1
  · intro j hj
    rcases (show j = 0 ∨ j = 1 ∨ j = 2 by omega) with rfl | rfl | rfl <;> rfl
  · intro j hj
    rcases (show j = 0 ∨ j = 1 ∨ j = 2 by omega) with rfl | rfl | rfl
    · show (listOf U1).length ≤ _
      omega
    · show (listOf U2).length ≤ _
      omega
    · show (listOf U1).length ≤ _
      omega
  · simp; omega
  · rintro e w12 ⟨rfl, b12⟩
    go_wp2_with fail
    go_ret
    exact ⟨rfl, (B11.trans (bW.mono (by omega))).trans b12⟩
end Go.Proofs.YtkbigejknkamiaaDoor
