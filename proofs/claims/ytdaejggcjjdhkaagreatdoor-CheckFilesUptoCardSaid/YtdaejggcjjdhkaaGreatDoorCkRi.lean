/- strataref15: Word, Doc; strataref18.word: walked. -/
import Derived.Test.YtdaejggcjjdhkaaGreatDoorMkK
import Derived.Test.YtdaejggcjjdhkaaGreatDoorCkRd
import Derived.Test.YtdaejggcjjdhkaaGreatDoorCkRg
import Derived.Test.YtdaejggcjjdhkaaGreatDoorCkRh
namespace Go.Proofs.YtdaejggcjjdhkaaGreatDoor
open Go Go.RowKit
theorem plain15_all {s : List UInt8} {e : UInt8} (hs : s.length ≤ 2000000) : ∀ (N : Nat) (b : Bool) (p0 R : Nat) (v : Value) (w : World), s.length - p0 < N → p0 ≤ s.length → RS15 w R s p0 e 0 v →
    Calls Tryz.prog 157 #[.pointer (some ⟨R, 0, none⟩), .bool b] w (Ans15 (if b then .braces else .plain) w R s p0 e v (Ex.er (Ex.readL e (if b then .braces else .plain) (s.drop p0))))
  | 0, _, _, _, _, _, h, _, _ => absurd h (by omega)
  | N + 1, b, p0, R, v, w, hN, hp0, h => by
    have hv : ∀ (p : Nat) (R : Nat) (v : Value) (w : World), p0 ≤ p → p < s.length → RS15 w R s p e 0 v → Calls Tryz.prog 182 #[.pointer (some ⟨R, 0, none⟩)] w (VAns15 w R s p e v (Ex.er (Ex.vR e (s.drop (p + 1))))) := fun p R v w h1 h2 h3 =>
      variable15_any hs h2 (fun p' R v w h4 h5 h6 => plain15_all hs N true p' R v w (by omega) h5 h6) h3 (Lib.hid rfl)
    exact plain15_step hs hp0 hv (fun q R v w h1 h2 h3 => quoted15_any hs h2 (fun p R v w h4 h5 h6 => hv p R v w (by omega) h5 h6) h3 (Lib.hid rfl)) rfl h (Lib.hid rfl)
theorem var15_all {s : List UInt8} {e : UInt8} (hs : s.length ≤ 2000000) (p : Nat) (R : Nat) (v : Value) (w : World) (h2 : p < s.length) (h3 : RS15 w R s p e 0 v) : Calls Tryz.prog 182 #[.pointer (some ⟨R, 0, none⟩)] w (VAns15 w R s p e v (Ex.er (Ex.vR e (s.drop (p + 1))))) :=
  variable15_any hs h2 (fun p' R v w h4 h5 h6 => plain15_all hs (s.length + 1) true p' R v w (by omega) h5 h6) h3 (Lib.hid rfl)
theorem own_lower15 {w : World} {base n k : Nat} {e : TypeId} {v : Value} {xs : List Value} (h : w.ownsRow base e k v n xs) : w.ownsRow 0 e k v n xs := by
  refine ⟨h.1, ?_⟩
  rcases h.2 with h1 | ⟨g, cap, cur, e1, h2, h3⟩
  · exact .inl h1
  · exact .inr ⟨g, cap, cur, e1, Nat.zero_le _, h3⟩
/-- what told answers behind a reading. -/
theorem told15_ans {k : Ex.Kd} {s : List UInt8} {e : UInt8} {w w1 w2 : World} {R p' n : Nat} {no : Int} {v v' lv : Value} {xs : List Value} (hL : L15 w1 w2 R s p' e no v v' lv n xs) (hn : n ≤ p' + 1) (hs : s.length ≤ 2000000) (hd : done15 k s (Ex.er (Ex.readL e k s)) no p') (hB : Below w.heap.size w w1) (hR : w.heap.size ≤ R) (hv : v.ownBlock = none) :
    Calls Tryz.prog 156 #[.pointer (some ⟨R, 0, none⟩), lv, .slice none 0 0] w2 fun r w' => (∃ (t : ByteArray) (q : Int), r = .returned (.tuple #[.string t, .int .i64 q]) ∧ (Ck.errR (Ex.readL e k s) = 0 → q = 0 ∨ q = 5) ∧ (Ck.errR (Ex.readL e k s) ≠ 0 → q = (Ck.errR (Ex.readL e k s) : Nat))) ∧ Below w.heap.size w w' := by
  have hp' : p' ≤ s.length + 1 := by
    cases hr : Ex.readL e k s with
    | inl z => rw [hr] at hd; have := hd.2.2.2; omega
    | inr pr => rw [hr] at hd; have := hd.2; omega
  refine (told15_any s p' e no v' R n xs lv w2 hL.rs.1 (own_lower15 hL.own) (hL.pc.fx (S := fun _ => False) Fx.refl (fun b hb h => h.elim False.elim fun h => absurd h (by show ¬ _ ≤ b; omega))) (by omega)).mono ?_
  rintro r w' ⟨⟨t, q, rfl, h1, h2⟩, hb⟩
  have hb2 : Below w.heap.size w w2 := hB.trans (hL.fx.to_below hB.size (fun b h => by
    rcases h with h | h
    · omega
    · rw [hv] at h; cases h))
  refine ⟨⟨t, q, rfl, fun h => ?_, fun h => ?_⟩, below_of_below hb2 hb hb2.size⟩
  · cases hr : Ex.readL e k s with
    | inl z => rw [hr] at hd h; exact absurd h hd.2.1
    | inr pr => rw [hr] at hd; exact h1 hd.1
  · cases hr : Ex.readL e k s with
    | inl z => rw [hr] at hd h; rw [h2 (by rw [hd.1]; have := hd.2.1; omega), hd.1]; rfl
    | inr pr => rw [hr] at h; exact absurd rfl h
theorem rs15_new (w : World) (s : List UInt8) (e : UInt8) : RS15 (w.alloc (.cells (rd15 s 0 e 0 (.slice none 0 0)) 180)) w.heap.size s 0 e 0 (.slice none 0 0) :=
  ⟨Blk.new _ _ _, ⟨0, [], World.ownsRow_nil _ _ _ _, Nat.zero_le _, by simp⟩, by intro h; cases h⟩
set_option maxRecDepth 100000 in
set_option maxHeartbeats 1000000 in
theorem word15_any (s : List UInt8) (hs : s.length ≤ 2000000) (e : UInt8) (w : World) : Calls Tryz.prog 128 #[.string (bs s), .int .u8 (e.toNat : Int), .slice none 0 0] w fun r w' => (∃ (t : ByteArray) (q : Int), r = .returned (.tuple #[.string t, .int .i64 q]) ∧ (Ck.wordL e s = 0 → q = 0 ∨ q = 5) ∧ (Ck.wordL e s ≠ 0 → q = (Ck.wordL e s : Nat))) ∧ Below w.heap.size w w' := by
  have H1 := Lib.hid (rs15_new w s e)
  have HB1 := Lib.hid ((Below.refl w.heap.size w).alloc (Nat.le_refl _) (.cells (rd15 s 0 e 0 (.slice none 0 0)) 180))
  go_enter Tryz.func128, Tryz.ntmps128
  go_upto_region 2 with fail
  obtain ⟨w1, hw1⟩ : ∃ y, w.alloc (.cells (rd15 s 0 e 0 (.slice none 0 0)) 180) = y := ⟨_, rfl⟩
  rw [hw1] at H1 HB1
  have hw1' : w.alloc (.cells #[.string (bs s), .int .i64 0, .int .u8 (e.toNat : Int), .int .i64 0, .slice none 0 0] 180) = w1 := hw1
  rw [hw1']
  clear hw1 hw1'
  have HC := Lib.hid (plain15_all hs (s.length + 1) false 0 w.heap.size _ w1 (by omega) (Nat.zero_le _) H1.out)
  go_wp2_with fail
  refine HC.out.mono ?_
  rintro a w2 ⟨p', no, v', lv, n, xs, rfl, hL, hn, hd⟩
  have HT := Lib.hid (told15_ans (k := .plain) hL (by omega) hs hd HB1.out (Nat.le_refl _) rfl)
  clear hL hn hd HC H1
  go_wp2_with fail
  refine HT.out.mono ?_
  rintro a w3 ⟨⟨t, q, rfl, h1, h2⟩, hb⟩
  have HF := Lib.hid (And.intro (And.intro h1 h2) hb)
  clear HT h1 h2 hb HB1
  go_wp2_with fail
  go_ret2
  exact ⟨⟨t, q, rfl, HF.out.1.1, HF.out.1.2⟩, HF.out.2⟩
set_option maxRecDepth 100000 in
set_option maxHeartbeats 1000000 in
theorem doc15_any (s : List UInt8) (hs : s.length ≤ 2000000) (e : UInt8) (w : World) : Calls Tryz.prog 127 #[.string (bs s), .int .u8 (e.toNat : Int), .slice none 0 0] w fun r w' => (∃ (t : ByteArray) (q : Int), r = .returned (.tuple #[.string t, .int .i64 q]) ∧ (Ck.docL e s = 0 → q = 0 ∨ q = 5) ∧ (Ck.docL e s ≠ 0 → q = (Ck.docL e s : Nat))) ∧ Below w.heap.size w w' := by
  have H1 := Lib.hid (rs15_new w s e)
  have HB1 := Lib.hid ((Below.refl w.heap.size w).alloc (Nat.le_refl _) (.cells (rd15 s 0 e 0 (.slice none 0 0)) 180))
  go_enter Tryz.func127, Tryz.ntmps127
  go_upto_region 2 with fail
  obtain ⟨w1, hw1⟩ : ∃ y, w.alloc (.cells (rd15 s 0 e 0 (.slice none 0 0)) 180) = y := ⟨_, rfl⟩
  rw [hw1] at H1 HB1
  have hw1' : w.alloc (.cells #[.string (bs s), .int .i64 0, .int .u8 (e.toNat : Int), .int .i64 0, .slice none 0 0] 180) = w1 := hw1
  rw [hw1']
  clear hw1 hw1'
  have HC := Lib.hid (document15_any (X := Ex.er (Ex.readL e .document (s.drop 0))) hs (p0 := 0) (Nat.zero_le _) (fun p R v w _ h2 h3 => var15_all hs p R v w h2 h3) H1.out (Lib.hid rfl))
  go_wp2_with fail
  refine HC.out.mono ?_
  rintro a w2 ⟨p', no, v', lv, n, xs, rfl, hL, hn, hd⟩
  have HT := Lib.hid (told15_ans (k := .document) hL (by omega) hs hd HB1.out (Nat.le_refl _) rfl)
  clear hL hn hd HC H1
  go_wp2_with fail
  refine HT.out.mono ?_
  rintro a w3 ⟨⟨t, q, rfl, h1, h2⟩, hb⟩
  have HF := Lib.hid (And.intro (And.intro h1 h2) hb)
  clear HT h1 h2 hb HB1
  go_wp2_with fail
  go_ret2
  exact ⟨⟨t, q, rfl, HF.out.1.1, HF.out.1.2⟩, HF.out.2⟩
theorem word_err (e : UInt8) (s : List UInt8) : Ck.wordL e s = 0 ∨ Ck.wordL e s = 4 ∨ Ck.wordL e s = 18 := by
  unfold Ck.wordL
  cases h : Ex.readL e .plain s with
  | inl z => exact .inr (Ex.readL_err h)
  | inr pr => exact .inl rfl
theorem doc_err (e : UInt8) (s : List UInt8) : Ck.docL e s = 0 ∨ Ck.docL e s = 4 ∨ Ck.docL e s = 18 := by
  unfold Ck.docL
  cases h : Ex.readL e .document s with
  | inl z => exact .inr (Ex.readL_err h)
  | inr pr => exact .inl rfl
set_option maxRecDepth 100000 in
set_option maxHeartbeats 1000000 in
/-- strataref18.word. -/
theorem word18_any (s : List UInt8) (hs : s.length ≤ 2000000) (e : UInt8) (w : World) {x : Nat} (H : Hid (Ck.wordL e s = x)) : Calls Tryz.prog 87 #[.string (bs s), .int .u8 (e.toNat : Int)] w fun r w' => r = .returned (.int .i64 (x : Int)) ∧ Below w.heap.size w w' := by
  have hx := word_err e s
  rw [H.out] at hx
  have HC := Lib.hid (word15_any s hs e w)
  rw [H.out] at HC
  clear H
  go_enter Tryz.func87, Tryz.ntmps87
  go_wp2_with fail
  refine HC.out.mono ?_
  rintro a w3 ⟨⟨t, q, rfl, h1, h2⟩, hb⟩
  have HB := Lib.hid hb
  clear hb HC
  by_cases hx0 : x = 0
  · subst hx0
    rcases h1 rfl with rfl | rfl
    · clear h1 h2
      go_wp2_with fail
      go_ret
      exact ⟨rfl, HB.out⟩
    · clear h1 h2
      go_wp2_with fail
      go_ret
      exact ⟨rfl, HB.out⟩
  · have hq := h2 hx0
    subst hq
    clear h1 h2
    have k5 : ((x : Int) == 5) = false := by rw [beq_eq_false_iff_ne]; omega
    have k5n : (x == 5) = false := by rw [beq_eq_false_iff_ne]; omega
    clear hx hx0
    go_wp2_with fail
    go_ret
    exact ⟨rfl, HB.out⟩
end Go.Proofs.YtdaejggcjjdhkaaGreatDoor
