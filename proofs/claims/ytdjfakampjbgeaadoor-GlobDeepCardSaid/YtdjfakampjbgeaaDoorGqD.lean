/- GlobDeep, walked: true. -/
import Derived.Test.YtdjfakampjbgeaaDoorGqC
import Derived.Test.YtdjfakampjbgeaaDoorGbD
namespace Go.Proofs.YtdjfakampjbgeaaDoor
open Go.RowKit
namespace Gl
theorem names_ok (s : List UInt8) : ∀ x ∈ namesL s, x ≠ [] ∧ ∀ c ∈ x, c ≠ 47 := fun _ h => ⟨namesL_ne h, namesL_slash h⟩
theorem match_join {a : List UInt8} {ps : List Pc} {l : List (List UInt8)} (h : readL a = some ps) (hl : ∀ x ∈ l, x ≠ [] ∧ ∀ c ∈ x, c ≠ 47) (i j : Nat) : matchL a (joinL (part l i j)) = some (takesAll ps (part l i j)) := by
  rw [matchL, h, names_join _ (fun x hx => hl x (part_mem hx))]
  rfl
theorem join_len {l : List (List UInt8)} (h : l.length ≤ 401) (hx : ∀ x ∈ l, x.length ≤ 400) (i j : Nat) : (joinL (part l i j)).length ≤ 160801 := by
  have h1 := joinL_length 400 (part l i j) (fun x m => hx x (part_mem m))
  have h2 : (part l i j).length ≤ 401 := by rw [part, List.length_take, List.length_drop]; omega
  have h3 : (part l i j).length * (400 + 1) ≤ 401 * 401 := Nat.mul_le_mul h2 (Nat.le_refl _)
  omega
def aheadN (ps : List Pc) (l : List (List UInt8)) (k : Nat) : Bool := (List.range k).any fun i => takesAll ps (part l i l.length)
def behindN (ps : List Pc) (l : List (List UInt8)) (k : Nat) : Bool := (List.range k).any fun i => takesAll ps (part l 0 i)
theorem ahead_succ (ps : List Pc) (l : List (List UInt8)) (k : Nat) : aheadN ps l (k + 1) = (aheadN ps l k || takesAll ps (part l k l.length)) := by
  rw [aheadN, List.range_succ, List.any_append]; simp [aheadN]
theorem behind_succ (ps : List Pc) (l : List (List UInt8)) (k : Nat) : behindN ps l (k + 1) = (behindN ps l k || takesAll ps (part l 0 k)) := by
  rw [behindN, List.range_succ, List.any_append]; simp [behindN]
theorem ahead_end (ps : List Pc) (l : List (List UInt8)) : takesAll (deepPc :: ps) l = aheadN ps l (l.length + 1) := by
  rw [Bool.eq_iff_iff, takes_ahead, aheadN, List.any_eq_true]
  constructor
  · rintro ⟨k, hk, h⟩
    exact ⟨k, List.mem_range.2 (by omega), by rw [part_all]; exact h⟩
  · rintro ⟨k, hk, h⟩
    rw [part_all] at h
    exact ⟨k, by have := List.mem_range.1 hk; omega, h⟩
theorem behind_end (ps : List Pc) (l : List (List UInt8)) : takesAll (ps ++ [deepPc]) l = behindN ps l (l.length + 1) := by
  rw [Bool.eq_iff_iff, takes_behind, behindN, List.any_eq_true]
  constructor
  · rintro ⟨k, hk, h⟩
    exact ⟨k, List.mem_range.2 (by omega), by rw [part_zero]; exact h⟩
  · rintro ⟨k, hk, h⟩
    rw [part_zero] at h
    exact ⟨k, by have := List.mem_range.1 hk; omega, h⟩
end Gl
theorem head_1000 (s : ByteArray) (w : World) : Calls Tryd.prog 9 #[.string s, .int .i64 1000] w fun e w' => e = .returned (.string (bs ((bl s).take 1000))) ∧ w = w' := head_any s 1000 (by decide) (by decide) w
theorem head_400 (s : ByteArray) (w : World) : Calls Tryd.prog 9 #[.string s, .int .i64 400] w fun e w' => e = .returned (.string (bs ((bl s).take 400))) ∧ w = w' := head_any s 400 (by decide) (by decide) w
theorem joined_at (l : List (List UInt8)) (A : Option Addr) (c : Nat) (w : World) {S : Nat → Prop} (hq : RC w S (.slice A l.length c) l.length (sc l)) (hl : l.length ≤ 401) (hx : ∀ x ∈ l, x.length ≤ 400) (i j : Nat) (hij : i ≤ j) (hj : j ≤ l.length) {t : List UInt8} (H : Hid (Gl.joinL (Gl.part l i j) = t)) :
    Calls Tryd.prog 16 #[.slice A l.length c, .int .i64 (i : Int), .int .i64 (j : Int)] w fun e w' => e = .returned (.string (bs t)) ∧ w = w' := by
  rw [← H.out]
  exact joined_any l _ w hq hl hx i j hij hj
set_option maxRecDepth 100000 in
set_option maxHeartbeats 2000000 in
theorem lawDeep (p q : ByteArray) (w : World) (hg : ErrVar w) (hm : Maxl w) : Calls Tryd.prog 4 #[.string p, .string q] w fun e w' => e = .returned (.bool true) ∧ Below w.heap.size w w' := by
  have HG := Lib.hid hg
  clear hg
  obtain ⟨a, ha⟩ : ∃ a, (bl p).take 1000 = a := ⟨_, rfl⟩
  obtain ⟨b, hb⟩ : ∃ b, (bl q).take 400 = b := ⟨_, rfl⟩
  have la : a.length ≤ 1000 := by rw [← ha, List.length_take]; omega
  have lb : b.length ≤ 400 := by rw [← hb, List.length_take]; omega
  have hp1 := head_1000 p
  have hq1 := head_400 q
  rw [ha] at hp1
  rw [hb] at hq1
  clear ha hb
  obtain ⟨R, hR⟩ : ∃ R, Hid (Gl.readL a = R) := ⟨_, rfl⟩
  cases R with
  | none =>
    have H1 : Hid (Gl.matchL a b = none) := by show _ = _; rw [Gl.matchL, hR.out]; rfl
    clear hR
    go_enter Tryd.func4, Tryd.ntmps4
    go_wp2_with (go_at_call 9; (first | (with_reducible refine (hp1 _).mono ?_) | (with_reducible refine (hq1 _).mono ?_)); rintro e w1 ⟨rfl, rfl⟩)
    refine (match_none a b (by omega) (by omega) _ hm H1).mono ?_
    rintro e w1 ⟨rfl, b1⟩
    have hm1 := hm.below b1 hm.lt
    have G1 := HG.out.below b1 HG.out.lt
    go_wp2_with fail
    refine (plain_24 _ G1).mono ?_
    rintro e w4 ⟨rfl, b4⟩
    have B4 := below_of_below b1 b4 b1.size
    have G4 := HG.out.below B4 HG.out.lt
    have hm4 := hm.below B4 hm.lt
    go_wp2_with fail
    refine (works_any _ G4 hm4).mono ?_
    rintro e w5 ⟨rfl, b5⟩
    go_wp2_with fail
    go_ret
    exact ⟨rfl, below_of_below B4 b5 B4.size⟩
  | some ps =>
    obtain ⟨l, hl⟩ : ∃ l, Hid (Gl.namesL b = l) := ⟨_, rfl⟩
    have hok : Hid (∀ x ∈ l, x ≠ [] ∧ ∀ c ∈ x, c ≠ 47) := by rw [← hl.out]; exact Gl.names_ok b
    have hxl : Hid (∀ x ∈ l, x.length ≤ 400) := fun x hx => by
      rw [← hl.out] at hx
      have := Gl.namesL_piece hx
      omega
    have hll : l.length ≤ 401 := by have := Gl.namesL_length b; rw [hl.out] at this; omega
    obtain ⟨r0, hr0⟩ : ∃ r, Hid (Gl.takesAll ps l = r) := ⟨_, rfl⟩
    have H1 : Hid (Gl.matchL a b = some r0) := by show _ = _; rw [Gl.matchL, hR.out, hl.out, ← hr0.out]; rfl
    have H3 : Hid (Gl.matchL ([42, 42, 47] ++ a) b = some (Gl.aheadN ps l (l.length + 1))) := by
      show _ = _
      rw [← Gl.ahead_end, Gl.matchL, show [42, 42, 47] ++ a = [42, 42] ++ 47 :: a from rfl, Gl.read_ahead la hR.out, hl.out]
      rfl
    have H4 : Hid (Gl.matchL (a ++ [47, 42, 42]) b = some (Gl.behindN ps l (l.length + 1))) := by
      show _ = _
      rw [← Gl.behind_end, Gl.matchL, show a ++ [47, 42, 42] = a ++ 47 :: [42, 42] from rfl, Gl.read_behind la hR.out, hl.out]
      rfl
    clear hr0
    have za : (bs a).size ≤ 1000 := by rw [bs_size]; exact la
    have z2 : (⟨#[42, 42, 47]⟩ : ByteArray).size = 3 := rfl
    have z3 : (⟨#[47, 42, 42]⟩ : ByteArray).size = 3 := rfl
    go_enter Tryd.func4, Tryd.ntmps4
    go_wp2_with (go_at_call 9; (first | (with_reducible refine (hp1 _).mono ?_) | (with_reducible refine (hq1 _).mono ?_)); rintro e w1 ⟨rfl, rfl⟩)
    refine (match_some a b (by omega) (by omega) _ hm H1).mono ?_
    rintro e w1 ⟨rfl, b1⟩
    clear hp1 hq1 H1
    go_wp2_with fail
    refine (refNames_at b (by omega) _ hl).mono ?_
    rintro e w2 ⟨A, c, rfl, hv, b2⟩
    have B2 := Lib.hid (below_of_below b1 b2 b1.size)
    have HQ := Lib.hid (show RC w2 (· < w2.heap.size) (.slice A l.length c) l.length (sc l) from RC.own hv (fun g e => own_lt hv g e))
    clear b1 b2 hv
    go_wp2_with fail
    go_loopw [8, 9, 10] (fun t8 t9 t10 wr => ∃ (k : Nat) (x8 x9 : Bool), k ≤ l.length + 1 ∧ Hid (x8 = Gl.aheadN ps l k) ∧ Hid (x9 = Gl.behindN ps l k) ∧ t8 = .bool x8 ∧ t9 = .bool x9 ∧ t10 = .int .i64 (k : Int) ∧ Hid (Below w2.heap.size w2 wr)) (fun _ _ t10 _ => l.length + 1 - (intOf t10).toNat)
    case atStart => exact ⟨0, false, false, Nat.zero_le _, rfl, rfl, rfl, rfl, rfl, Below.refl _ _⟩
    case round =>
      obtain ⟨k, x8, x9, hk, H8, H9, rfl, rfl, rfl, HB⟩ := hrel
      rcases Nat.lt_or_ge l.length k with hkn | hkn
      · have i0n : decide (k ≤ l.length) = false := by rw [decide_eq_false_iff_not]; omega
        have i0 : decide ((k : Int) ≤ (l.length : Int)) = false := by rw [decide_eq_false_iff_not]; omega
        have M3 : Hid (Gl.matchL ([42, 42, 47] ++ a) b = some x8) := by show _ = _; rw [H3.out, H8.out, show k = l.length + 1 by omega]
        have M4 : Hid (Gl.matchL (a ++ [47, 42, 42]) b = some x9) := by show _ = _; rw [H4.out, H9.out, show k = l.length + 1 by omega]
        have C3 := match_some ([42, 42, 47] ++ a) b (by simp; omega) (by omega)
        have C4 := match_some (a ++ [47, 42, 42]) b (by simp; omega) (by omega)
        rw [show bs ([42, 42, 47] ++ a) = ⟨#[42, 42, 47]⟩ ++ bs a from (bs_append ..).symm] at C3
        rw [show bs (a ++ [47, 42, 42]) = bs a ++ ⟨#[47, 42, 42]⟩ from (bs_append ..).symm] at C4
        have B3 := below_of_below B2.out HB.out B2.out.size
        have hm3 := hm.below B3 hm.lt
        clear H3 H4 H8 H9 hk hkn hok hxl HQ hR hl
        go_wp2_with fail
        refine (C3 _ hm3 M3).mono ?_
        rintro e w4 ⟨rfl, b4⟩
        have B4 := below_of_below B3 b4 B3.size
        have hm4 := hm.below B4 hm.lt
        go_wp2_with fail
        refine (C4 _ hm4 M4).mono ?_
        rintro e w5 ⟨rfl, b5⟩
        have B5 := below_of_below B4 b5 B4.size
        have hm5 := hm.below B5 hm.lt
        have G5 := HG.out.below B5 HG.out.lt
        clear M3 M4 C3 C4 b4 b5 B3 B4
        cases x8 <;> cases x9 <;> (
          go_wp2_with fail
          refine (works_any _ G5 hm5).mono ?_
          rintro e w6 ⟨rfl, b6⟩
          go_wp2_with fail
          go_ret
          exact ⟨rfl, below_of_below B5 b6 B5.size⟩)
      · have i0n : decide (k ≤ l.length) = true := by rw [decide_eq_true_eq]; omega
        have i0 : decide ((k : Int) ≤ (l.length : Int)) = true := by rw [decide_eq_true_eq]; omega
        obtain ⟨ta, hta⟩ : ∃ t, Hid (Gl.joinL (Gl.part l k l.length) = t) := ⟨_, rfl⟩
        obtain ⟨tb, htb⟩ : ∃ t, Hid (Gl.joinL (Gl.part l 0 k) = t) := ⟨_, rfl⟩
        obtain ⟨xa, hxa⟩ : ∃ t, Hid (Gl.takesAll ps (Gl.part l k l.length) = t) := ⟨_, rfl⟩
        obtain ⟨xb, hxb⟩ : ∃ t, Hid (Gl.takesAll ps (Gl.part l 0 k) = t) := ⟨_, rfl⟩
        have Ma : Hid (Gl.matchL a ta = some xa) := by show _ = _; rw [← hta.out, ← hxa.out]; exact Gl.match_join hR.out hok.out _ _
        have Mb : Hid (Gl.matchL a tb = some xb) := by show _ = _; rw [← htb.out, ← hxb.out]; exact Gl.match_join hR.out hok.out _ _
        have K8 : Hid ((x8 || xa) = Gl.aheadN ps l (k + 1)) := by show _ = _; rw [Gl.ahead_succ, ← H8.out, hxa.out]
        have K9 : Hid ((x9 || xb) = Gl.behindN ps l (k + 1)) := by show _ = _; rw [Gl.behind_succ, ← H9.out, hxb.out]
        have lta : ta.length ≤ 160801 := by rw [← hta.out]; exact Gl.join_len hll hxl.out _ _
        have ltb : tb.length ≤ 160801 := by rw [← htb.out]; exact Gl.join_len hll hxl.out _ _
        have B3 := below_of_below B2.out HB.out B2.out.size
        have hm3 := hm.below B3 hm.lt
        have HQ3 := Lib.hid (HQ.out.keep (Lies.of_below HB.out))
        clear hxa hxb H8 H9 z2 z3
        go_wp2_with fail
        refine (joined_at l A c _ HQ3.out hll hxl.out k l.length hkn (Nat.le_refl _) hta).mono ?_
        rintro e w4 ⟨rfl, rfl⟩
        go_wp2_with fail
        refine (match_some a ta (by omega) (by omega) _ hm3 Ma).mono ?_
        rintro e w4 ⟨rfl, b4⟩
        have HB4 := below_of_below HB.out b4 HB.out.size
        have B4 := below_of_below B2.out HB4 B2.out.size
        have hm4 := hm.below B4 hm.lt
        have HQ4 := Lib.hid (HQ.out.keep (Lies.of_below HB4))
        clear b4
        go_wp2_with fail
        refine (joined_at l A c _ HQ4.out hll hxl.out 0 k (Nat.zero_le _) hkn htb).mono ?_
        rintro e w5 ⟨rfl, rfl⟩
        go_wp2_with fail
        refine (match_some a tb (by omega) (by omega) _ hm4 Mb).mono ?_
        rintro e w5 ⟨rfl, b5⟩
        have HB5 := Lib.hid (below_of_below HB4 b5 HB4.size)
        clear b5 HB4 B4 HQ4 HQ3 B3 hta htb Ma Mb
        cases x8 <;> cases x9 <;> (
          go_wp2_with fail
          go_roundw
          case rel => exact ⟨k + 1, _, _, by omega, K8, K9, rfl, rfl, by go_num, HB5⟩
          case measure => simp [intOf]; omega)
end Go.Proofs.YtdjfakampjbgeaaDoor
