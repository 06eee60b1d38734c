/- strings.IndexAny, ContainsAny of a pattern's bytes; glob.Meta, strataref02.Meta, walked. -/
import Derived.Test.YtdjfakampjbgeaaDoorGrM
namespace Go.Proofs.YtdjfakampjbgeaaDoor
open Go Go.RowKit Go.Shelf

theorem noAny_high {s : ByteArray} {i K : Nat} (h : Lib.NoAny s.data.toList [42, 63, 91] i) (hk : ∀ j, j < K → i + j < s.size ∧ 128 ≤ (s.get! (i + j)).toNat) : Lib.NoAny s.data.toList [42, 63, 91] (i + K) := fun j b hj hb => by
  by_cases e : j < i
  · exact h j b e hb
  · obtain ⟨m, rfl⟩ : ∃ m, j = i + m := ⟨j - i, by omega⟩
    obtain ⟨h1, h2⟩ := hk m (by omega)
    have e1 := Lib.data_getElem? s (i + m) h1
    rw [hb] at e1
    injection e1 with e1
    have e2 := get_at s (i + m) h1
    rw [Nat.add_zero, ← e1] at e2
    rw [e2] at h2
    have n1 : b ≠ 42 := fun e => by rw [e] at h2; exact absurd h2 (by decide)
    have n2 : b ≠ 63 := fun e => by rw [e] at h2; exact absurd h2 (by decide)
    have n3 : b ≠ 91 := fun e => by rw [e] at h2; exact absurd h2 (by decide)
    simp [n1, n2, n3]
set_option maxRecDepth 100000 in
set_option maxHeartbeats 4000000 in
theorem idxAny_short (s : ByteArray) (h8 : s.size ≤ 8) (w : World) : Calls Tryd.prog 63 #[.string s, .string ⟨#[42, 63, 91]⟩] w fun e w' => e = .returned (.int .i64 (Lib.indexAny s.data.toList [42, 63, 91])) ∧ Below w.heap.size w w' := by
  have h8z : decide ((8 : Int) < (s.size : Int)) = false := decide_eq_false (by omega)
  go_enter Tryd.func63, Tryd.ntmps63
  go_wp2_with (go_at_call 87; refine (should_any _ _).mono ?_; rintro e w' ⟨rfl, rfl⟩; rw [h8z])
  go_loopg [9, 10] s.size (fun g _ _ wr => ∃ i : Nat, i ≤ s.size ∧ s.size ≤ i + g ∧ wr.heap[w.heap.size]? = some (.stringIter s i) ∧ Below w.heap.size w wr ∧ Lib.NoAny s.data.toList [42, 63, 91] i)
  case atStart => exact ⟨0, by omega, by omega, World.iter_heap w s 0, (Below.refl _ _).alloc (Nat.le_refl _) _, Lib.NoAny.zero _ _⟩
  case round =>
    obtain ⟨i, hi, hig, hit, hB, hno⟩ := hrel
    have HN := Lib.hid hno
    clear hno
    rcases Nat.lt_or_ge i s.size with hlt | hge
    · obtain ⟨g', rfl⟩ : ∃ g', gk = g' + 1 := ⟨gk - 1, by omega⟩
      by_cases ha : (s[i]).toNat < 128
      · have hnx := fun ty => Lib.run_next_ascii_at (P := Tryd.prog) wr w.heap.size s i ty hit hlt ha
        have hit2 := Lib.iterAt_heap wr w.heap.size s i (i + 1) hit
        have hB2 := Lib.below_iterAt hB (k := w.heap.size) (Nat.le_refl _) s (i + 1)
        obtain ⟨x, hx⟩ : ∃ x : UInt8, s[i]'hlt = x := ⟨_, rfl⟩
        have hxl : Hid (s.data.toList[i]? = some x) := by show _ = _; rw [← hx]; exact Lib.data_getElem? s i hlt
        rw [hx] at hnx ha
        have hcon := Lib.contains_iff_indexByte [42, 63, 91] x
        have hback : ((x.toNat : Int)).toNat.toUInt8 = x := by simp
        obtain ⟨W, hW⟩ : ∃ W, wr.iterAt w.heap.size s (i + 1) = W := ⟨_, rfl⟩
        rw [hW] at hnx hit2 hB2
        clear hx hit hB hW
        obtain ⟨m, hm⟩ : ∃ m, Lib.indexByte [42, 63, 91] x = m := ⟨_, rfl⟩
        have hlow := idxRune_low ⟨#[42, 63, 91]⟩ (x.toNat : Int) W (by omega) (by omega)
        rw [hback, show (⟨#[42, 63, 91]⟩ : ByteArray).data.toList = [42, 63, 91] from rfl, hm] at hlow
        rw [hm] at hcon
        clear hm hback
        cases hin : ([42, 63, 91] : List UInt8).contains x
        · rw [hin] at hcon
          have hnn : decide ((0 : Int) ≤ m) = false := hcon.symm
          have HIN := Lib.hid (HN.out.succ hxl.out hin)
          clear hcon hin HN
          go_wp2_with (go_at_call 86; refine hlow.mono ?_; rintro e w' ⟨rfl, rfl⟩)
          go_roundg g'
          case measure => omega
          case rel => exact ⟨i + 1, by omega, by omega, hit2, hB2, HIN.out⟩
        · rw [hin] at hcon
          have hnn : decide ((0 : Int) ≤ m) = true := hcon.symm
          have HIN := Lib.hid (Lib.indexAny_hit HN.out hxl.out hin)
          clear hcon hin HN
          go_wp2_with (go_at_call 86; refine hlow.mono ?_; rintro e w' ⟨rfl, rfl⟩)
          go_ret
          exact ⟨by rw [HIN.out]; rfl, hB2⟩
      · have hnx := fun ty => Lib.run_next_any_at (P := Tryd.prog) wr w.heap.size s i ty hit hlt
        obtain ⟨d1, d2, d3, d4, d5⟩ := dec_high s i hlt (by omega)
        have HIN := Lib.hid (noAny_high HN.out d5)
        have hlast : i + (Utf8.decode s i).2 ≤ s.size := by
          have := d5 ((Utf8.decode s i).2 - 1) (by omega)
          omega
        clear d5 HN
        obtain ⟨R, hR⟩ : ∃ R, (Utf8.decode s i).1 = R := ⟨_, rfl⟩
        obtain ⟨K, hK⟩ : ∃ K, (Utf8.decode s i).2 = K := ⟨_, rfl⟩
        rw [hR] at d1 d2 d3
        rw [hK] at d4 hlast HIN
        rw [hR, hK] at hnx
        clear hR hK
        have hit2 := Lib.iterAt_heap wr w.heap.size s i (i + K) hit
        have hB2 := Lib.below_iterAt hB (k := w.heap.size) (Nat.le_refl _) s (i + K)
        have hszW := Lib.iterAt_size wr w.heap.size s (i + K)
        have hwr : w.heap.size < wr.heap.size := (Array.getElem?_eq_some_iff.1 hit).1
        obtain ⟨W, hW⟩ : ∃ W, wr.iterAt w.heap.size s (i + K) = W := ⟨_, rfl⟩
        rw [hW] at hnx hit2 hB2 hszW
        have hlW : w.heap.size < W.heap.size := by omega
        clear hit hB hW hszW hwr ha
        have hhi := idxRune_high R d1 d2 d3 W
        go_wp2_with (go_at_call 86; refine hhi.mono ?_; rintro e w9 ⟨rfl, hb9⟩; have hit9 := (hb9.block _ hlW).trans hit2; have hB9 := below_of_below hB2 hb9 hB2.size)
        go_roundg g'
        case measure => omega
        case rel => exact ⟨i + K, hlast, by omega, hit9, hB9, HIN.out⟩
    · have hnx := fun ty => Lib.run_next_end_at (P := Tryd.prog) wr w.heap.size s i ty hit (by omega)
      have HIN := Lib.hid (Lib.indexAny_none (by rw [← Lib.size_eq, show s.size = i by omega]; exact HN.out))
      clear HN
      go_wp2_with fail
      go_ret
      exact ⟨by rw [HIN.out]; rfl, hB⟩
theorem idxAny_any (s : ByteArray) (hs : s.size ≤ 2000000) (w : World) : Calls Tryd.prog 63 #[.string s, .string ⟨#[42, 63, 91]⟩] w fun e w' => e = .returned (.int .i64 (Lib.indexAny s.data.toList [42, 63, 91])) ∧ Below w.heap.size w w' := by
  by_cases h8 : s.size ≤ 8
  · exact idxAny_short s h8 w
  · have h116 : (Tryd.prog.info? (Tryd.lays150_ren.t 116)).map (fun i => (i.zero, i.size)) = some (some (.agg (Array.replicate 256 (.bool false))), 256) := by kernel_rfl
    refine Calls.mono (Any.strings_IndexAny_long { Tryd.lays150 with } (zero_of_info h116).1 (zero_of_info h116).2 s ⟨#[42, 63, 91]⟩ w (by decide) (by omega) (by omega) (by decide) ?_) fun e w' ⟨h1, h2⟩ => ⟨h1, ?_⟩
    · intro j b hb
      have : b ∈ [(42 : UInt8), 63, 91] := List.mem_of_getElem? hb
      simp at this
      rcases this with rfl | rfl | rfl <;> decide
    · rw [h2]
      exact ((Below.refl _ _).alloc (Nat.le_refl _) _).alloc (by simp) _
theorem meta_idx : ∀ l : List UInt8, decide ((0 : Int) ≤ Lib.indexAny l [42, 63, 91]) = Gl.metaL l
  | [] => rfl
  | b :: l => by
    have ih := meta_idx l
    have hg := Lib.indexAny_ge [42, 63, 91] l
    rw [Lib.indexAny, Gl.metaL, List.any_cons]
    rw [Gl.metaL] at ih
    have hc : ([42, 63, 91] : List UInt8).contains b = (b == 42 || b == 63 || b == 91) := by rw [Bool.eq_iff_iff]; simp [or_assoc]
    rw [hc, ← ih]
    by_cases h : (b == 42 || b == 63 || b == 91) = true
    · rw [if_pos h, h, Bool.true_or]; rfl
    · rw [if_neg h, show (b == 42 || b == 63 || b == 91) = false by simpa using h, Bool.false_or]
      by_cases h2 : Lib.indexAny l [42, 63, 91] = -1
      · rw [h2]; rfl
      · rw [if_neg (by simpa using h2), decide_eq_true (by omega), decide_eq_true (by omega)]
set_option maxRecDepth 100000 in
theorem hasAny_any (s : ByteArray) (hs : s.size ≤ 2000000) (w : World) {b : Bool} (H : Hid (Gl.metaL (bl s) = b)) : Calls Tryd.prog 41 #[.string s, .string ⟨#[42, 63, 91]⟩] w fun e w' => e = .returned (.bool b) ∧ Below w.heap.size w w' := by
  have h := idxAny_any s hs w
  have hm := meta_idx s.data.toList
  rw [show Gl.metaL s.data.toList = b from H.out] at hm
  obtain ⟨m, e⟩ : ∃ m, Lib.indexAny s.data.toList [42, 63, 91] = m := ⟨_, rfl⟩
  rw [e] at h hm
  clear e H
  go_enter Tryd.func41, Tryd.ntmps41
  go_wp2_with (go_at_call 63; refine h.mono ?_; rintro e w' ⟨rfl, hb⟩)
  go_ret
  exact ⟨by first | rfl | (rw [← hm]; rfl), hb⟩
set_option maxRecDepth 100000 in
theorem meta_any (s : ByteArray) (hs : s.size ≤ 2000000) (w : World) {b : Bool} (H : Hid (Gl.metaL (bl s) = b)) : Calls Tryd.prog 18 #[.string s] w fun e w' => e = .returned (.bool b) ∧ Below w.heap.size w w' := by
  have h := hasAny_any s hs w H
  go_enter Tryd.func18, Tryd.ntmps18
  go_wp2_with (go_at_call 41; refine h.mono ?_; rintro e w' ⟨rfl, hb⟩)
  go_ret
  exact ⟨rfl, hb⟩
set_option maxRecDepth 100000 in
set_option maxHeartbeats 1000000 in
theorem refMeta_any (s : ByteArray) (hs : s.size ≤ 2000000) (w : World) {b : Bool} (H : Hid (Gl.metaL (bl s) = b)) : Calls Tryd.prog 19 #[.string s] w fun e w' => e = .returned (.bool b) ∧ w = w' := by
  have hF0 : Hid (Gl.metaL ((bl s).drop 0) = b) := by show _ = _; rw [List.drop_zero]; exact H.out
  go_enter Tryd.func19, Tryd.ntmps19
  go_wp2_with fail
  go_loopw [3] (fun t3 wr => ∃ k : Nat, k ≤ s.size ∧ t3 = .int .i64 (k : Int) ∧ Hid (Gl.metaL ((bl s).drop k) = b) ∧ w = wr) (fun t3 _ => s.size - (intOf t3).toNat)
  case atStart => exact ⟨0, by omega, rfl, hF0, by first | rfl | trivial⟩
  case round =>
    clear hF0
    obtain ⟨k, hk, rfl, HF, rfl⟩ := hrel
    have j0 : (0 : Int) ≤ (k : Int) := by omega
    rcases Nat.lt_or_ge k s.size with hkn | hkn
    · have i0 : decide ((k : Int) < (s.size : Int)) = true := by rw [decide_eq_true_eq]; omega
      have i1 : (k : Int) < (s.size : Int) := by omega
      have hb : (s[k]).toNat < 256 := (s[k]).toNat_lt
      have hd := HF.out
      rw [bl_drop_cons s k hkn, Gl.metaL, List.any_cons] at hd
      have q : ∀ c : UInt8, (((s[k]).toNat : Int) == (c.toNat : Int)) = (s[k] == c) := fun c => by
        rw [Bool.eq_iff_iff, beq_iff_eq, beq_iff_eq]
        exact ⟨fun e => UInt8.toNat_inj.1 (by omega), fun e => by rw [e]⟩
      have q1 := q 42
      have q2 := q 63
      have q3 := q 91
      rw [show (((42 : UInt8).toNat : Nat) : Int) = 42 from rfl] at q1
      rw [show (((63 : UInt8).toNat : Nat) : Int) = 63 from rfl] at q2
      rw [show (((91 : UInt8).toNat : Nat) : Int) = 91 from rfl] at q3
      clear q HF
      generalize (s[k] == 42) = x1 at *
      generalize (s[k] == 63) = x2 at *
      generalize (s[k] == 91) = x3 at *
      cases hx : (x1 || x2 || x3) with
      | true =>
        rw [hx, Bool.true_or] at hd
        have HR := Lib.hid hd
        clear hd
        cases x1 <;> cases x2 <;> cases x3 <;> first | (cases hx; done) | (
          clear hx
          go_wp2_with fail
          go_ret
          exact ⟨by rw [← HR.out]; rfl, by first | rfl | trivial⟩)
      | false =>
        rw [hx, Bool.false_or] at hd
        have HF2 : Hid (Gl.metaL ((bl s).drop (k + 1)) = b) := hd
        clear hd
        cases x1 <;> cases x2 <;> cases x3 <;> first | (cases hx; done) | (
          clear hx
          go_wp2_with fail
          go_roundw
          case rel => exact ⟨k + 1, by omega, by go_num, HF2, by first | rfl | trivial⟩
          case measure => simp [intOf]; omega)
    · have i0 : decide ((k : Int) < (s.size : Int)) = false := by rw [decide_eq_false_iff_not]; omega
      have hR : Hid (b = false) := by show _ = _; rw [← HF.out, List.drop_eq_nil_of_le (by rw [bl_length]; exact hkn)]; rfl
      clear HF
      go_wp2_with fail
      go_ret
      exact ⟨by rw [hR.out]; rfl, by first | rfl | trivial⟩
end Go.Proofs.YtdjfakampjbgeaaDoor
