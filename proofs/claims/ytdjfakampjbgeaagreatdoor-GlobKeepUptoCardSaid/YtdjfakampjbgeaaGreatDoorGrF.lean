/- strataref02.Pattern, walked; a pattern's pieces, one by one. -/
import Derived.Test.YtdjfakampjbgeaaGreatDoorGrE
import Derived.Test.YtdjfakampjbgeaaGreatDoorGqB
namespace Go.Proofs.YtdjfakampjbgeaaGreatDoor
open Go.RowKit
namespace Gl
/-- a piece's text and what it is read as. -/
def PcOf (x : List UInt8) (q : Pc) : Prop := (x = [42, 42] ∧ q = ⟨true, []⟩) ∨ (x ≠ [42, 42] ∧ q.deep = false ∧ pieceL x = some q.marks)
def PcsOf : List (List UInt8) → List Pc → Prop
  | [], qs => qs = []
  | x :: l, qs => ∃ q r, qs = q :: r ∧ PcOf x q ∧ PcsOf l r
theorem PcsOf.len : ∀ {l : List (List UInt8)} {qs : List Pc}, PcsOf l qs → qs.length = l.length
  | [], _, h => by rw [show _ = [] from h]; rfl
  | _ :: l, _, ⟨_, _, e, _, h⟩ => by rw [e, List.length_cons, List.length_cons, PcsOf.len h]
theorem PcsOf.at_ : ∀ {l : List (List UInt8)} {qs : List Pc}, PcsOf l qs → ∀ k (h1 : k < l.length) (h2 : k < qs.length), PcOf l[k] qs[k]
  | [], _, _, _, h1, _ => absurd h1 (by simp)
  | _ :: _, _, ⟨_, _, e, h, _⟩, 0, _, _ => by subst e; exact h
  | _ :: l, _, ⟨_, _, e, _, h⟩, k + 1, h1, h2 => by subst e; exact PcsOf.at_ h k (by simpa using h1) (by simpa using h2)
theorem readA_of : ∀ (l : List (List UInt8)) (out ps : List Pc), readA l out = some ps → ∃ qs, ps = out ++ qs ∧ PcsOf l qs
  | [], out, ps, h => ⟨[], by rw [readA] at h; injection h with h; rw [h, List.append_nil], rfl⟩
  | x :: l, out, ps, h => by
    rw [readA] at h
    by_cases hx : x = [42, 42]
    · rw [if_pos hx] at h
      obtain ⟨qs, e, hq⟩ := readA_of l _ _ h
      exact ⟨⟨true, []⟩ :: qs, by rw [e, List.append_assoc]; rfl, _, _, rfl, .inl ⟨hx, rfl⟩, hq⟩
    · rw [if_neg hx] at h
      cases hp : pieceL x with
      | none => rw [hp] at h; cases h
      | some ms =>
        rw [hp] at h
        obtain ⟨qs, e, hq⟩ := readA_of l _ _ h
        exact ⟨⟨false, ms⟩ :: qs, by rw [e, List.append_assoc]; rfl, _, _, rfl, .inr ⟨hx, rfl, hp⟩, hq⟩
theorem readL_of {pat : List UInt8} {ps : List Pc} (h : readL pat = some ps) : PcsOf (namesL pat) ps := by
  unfold readL at h
  split at h
  · cases h
  · obtain ⟨qs, e, hq⟩ := readA_of _ _ _ h
    rw [e, List.nil_append]
    exact hq
theorem stars_some : (pieceL [42, 42]).isSome = true := by decide +kernel
theorem readA_isSome : ∀ (l : List (List UInt8)) (out : List Pc), (readA l out).isSome = l.all fun p => (pieceL p).isSome
  | [], out => rfl
  | x :: l, out => by
    rw [readA, List.all_cons]
    by_cases hx : x = [42, 42]
    · rw [if_pos hx, readA_isSome l, hx, stars_some, Bool.true_and]
    · rw [if_neg hx]
      cases hp : pieceL x with
      | none => rfl
      | some ms => simp only [Option.isSome_some, Bool.true_and]; exact readA_isSome l _
theorem readL_isSome (pat : List UInt8) : (readL pat).isSome = if 1020 < pat.length ∨ namesL pat = [] then false else (namesL pat).all fun p => (pieceL p).isSome := by
  unfold readL
  split
  · rfl
  · exact readA_isSome _ _
end Gl
theorem refNames_pat (p : ByteArray) (hl : p.size ≤ 2000000) (w : World) {ns : List (List UInt8)} (H : Hid (Gl.namesL (bl p) = ns)) : Calls Tryz.prog 40 #[.string p] w fun e w' => ∃ A c, e = .returned (.slice A ns.length c) ∧ RC w' (fun g => w.heap.size ≤ g ∧ g < w'.heap.size) (.slice A ns.length c) ns.length (sc ns) ∧ Below w.heap.size w w' := by
  refine (refNames_any p hl w).mono ?_
  rintro e w' ⟨v, rfl, hv, hb⟩
  rw [H.out] at hv
  obtain ⟨A, c, rfl⟩ := own_form hv
  exact ⟨A, c, rfl, RC.own hv (fun g e => hv.lt g e), hb⟩
theorem parts_at (s : List UInt8) (hs : s.length ≤ 2000000) (w : World) : Calls Tryz.prog 41 #[.string (bs s)] w fun e w' => (∃ v, e = .returned (.tuple #[v, .bool (Gl.pieceL s).isSome])) ∧ Below w.heap.size w w' := by
  refine (parts_any (bs s) (by rw [bs_size]; exact hs) w).mono ?_
  rintro e w' ⟨hS, hb⟩
  refine ⟨?_, hb⟩
  rcases hS with ⟨hno, rfl⟩ | ⟨ms, v, hso, rfl, _⟩
  · rw [bl_bs] at hno
    exact ⟨_, by rw [hno]; rfl⟩
  · rw [bl_bs] at hso
    exact ⟨_, by rw [hso]; rfl⟩
set_option maxRecDepth 100000 in
set_option maxHeartbeats 2000000 in
theorem pattern_any (p : ByteArray) (hp : p.size ≤ 2000000) (w : World) {b : Bool} (H : Hid ((Gl.readL (bl p)).isSome = b)) :
    Calls Tryz.prog 20 #[.string p] w fun e w' => e = .returned (.bool b) ∧ Below w.heap.size w w' := by
  obtain ⟨l, hl⟩ : ∃ l, Hid (Gl.namesL (bl p) = l) := ⟨_, rfl⟩
  have hll : l.length ≤ 2000001 := by have := Gl.namesL_length (bl p); rw [hl.out, bl_length] at this; omega
  have hx : Hid (∀ x ∈ l, x.length ≤ 2000000) := fun x hx => by
    rw [← hl.out] at hx
    have := Gl.namesL_piece hx
    rw [bl_length] at this
    omega
  have hRes := H.out
  rw [Gl.readL_isSome, bl_length, hl.out] at hRes
  go_enter Tryz.func20, Tryz.ntmps20
  go_wp2_with fail
  refine (refNames_pat p hp _ hl).mono ?_
  rintro e w1 ⟨A, c, rfl, hQ, b1⟩
  have HQ := Lib.hid hQ
  clear hQ
  by_cases hbig : 1020 < p.size
  · have t0 : decide ((1020 : Int) < (p.size : Int)) = true := by rw [decide_eq_true_eq]; omega
    have hR : Hid (b = false) := by show _ = _; rw [← hRes, if_pos (.inl hbig)]
    clear hRes
    go_wp2_with fail
    go_ret
    exact ⟨by rw [hR.out]; rfl, b1⟩
  · have t0 : decide ((1020 : Int) < (p.size : Int)) = false := by rw [decide_eq_false_iff_not]; omega
    by_cases hnil : l = []
    · have t1 : ((l.length : Int) == 0) = true := by rw [hnil]; rfl
      have hR : Hid (b = false) := by show _ = _; rw [← hRes, if_pos (.inr hnil)]
      clear hRes hnil
      go_wp2_with fail
      go_ret
      exact ⟨by rw [hR.out]; rfl, b1⟩
    · have t1 : ((l.length : Int) == 0) = false := by simpa using hnil
      have hF0 : Hid ((l.all fun p => (Gl.pieceL p).isSome) = b) := by show _ = _; rw [← hRes, if_neg (by rintro (a | a); exact hbig a; exact hnil a)]
      clear hRes hnil hbig
      go_wp2_with fail
      go_loopw [4, 5, 6] (fun t4 _ _ wr => ∃ k : Nat, k ≤ l.length ∧ t4 = .int .i64 (k : Int) ∧ Hid (((l.drop k).all fun p => (Gl.pieceL p).isSome) = b) ∧ Below w1.heap.size w1 wr) (fun t4 _ _ _ => l.length - (intOf t4).toNat)
      case atStart => exact ⟨0, by omega, rfl, by rw [List.drop_zero]; exact hF0, Below.refl _ _⟩
      case round =>
        clear hF0
        obtain ⟨k, hk, rfl, HF, hB⟩ := hrel
        have j0 : (0 : Int) ≤ (k : Int) := by omega
        rcases Nat.lt_or_ge k l.length with hkn | hkn
        · have i0 : decide ((k : Int) < (l.length : Int)) = true := by rw [decide_eq_true_eq]; omega
          have i0n : decide (k < l.length) = true := by rw [decide_eq_true_eq]; omega
          have i1 : (k : Int) < (l.length : Int) := by omega
          have hQ := HQ.out.below hB
          obtain ⟨g, o, c', hvl, d0⟩ := hQ.str hkn
          obtain ⟨hA, hcc⟩ : A = some ⟨g, o, none⟩ ∧ c = c' := by injection hvl with e1 _ e3; exact ⟨e1, e3⟩
          subst hA hcc
          clear hvl hQ
          have hlx := hx.out _ (List.getElem_mem hkn)
          have hd := HF.out
          rw [List.drop_eq_getElem_cons hkn, List.all_cons] at hd
          obtain ⟨x, hxe⟩ : ∃ x, l[k] = x := ⟨_, rfl⟩
          rw [hxe] at d0 hlx hd
          clear hxe
          cases hpx : (Gl.pieceL x).isSome with
          | true =>
            rw [hpx, Bool.true_and] at hd
            have HF2 := Lib.hid hd
            have HP := Lib.hid hpx
            clear hd HF hpx
            go_wp2_with fail
            refine (parts_at x hlx _).mono ?_
            rintro e w7 ⟨⟨v, rfl⟩, b7⟩
            rw [HP.out]
            have hB7 := below_of_below hB b7 hB.size
            clear hB
            go_wp2_with fail
            go_roundw
            case rel => exact ⟨k + 1, by omega, by go_num, HF2, hB7⟩
            case measure => simp [intOf]; omega
          | false =>
            rw [hpx, Bool.false_and] at hd
            have HR := Lib.hid hd
            have HP := Lib.hid hpx
            clear hd HF hpx
            go_wp2_with fail
            refine (parts_at x hlx _).mono ?_
            rintro e w7 ⟨⟨v, rfl⟩, b7⟩
            rw [HP.out]
            have hB7 := below_of_below hB b7 hB.size
            clear hB
            go_wp2_with fail
            go_ret
            exact ⟨by rw [← HR.out]; rfl, below_of_below b1 hB7 b1.size⟩
        · have i0 : decide ((k : Int) < (l.length : Int)) = false := by rw [decide_eq_false_iff_not]; omega
          have i0n : decide (k < l.length) = false := by rw [decide_eq_false_iff_not]; omega
          have hR : Hid (b = true) := by show _ = _; rw [← HF.out, List.drop_eq_nil_of_le hkn]; rfl
          clear HF
          go_wp2_with fail
          go_ret
          exact ⟨by rw [hR.out]; rfl, below_of_below b1 hB b1.size⟩
end Go.Proofs.YtdjfakampjbgeaaGreatDoor
