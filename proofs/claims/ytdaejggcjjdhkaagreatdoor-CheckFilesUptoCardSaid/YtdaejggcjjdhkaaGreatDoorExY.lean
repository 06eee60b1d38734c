/- expand.Word, Doc without variables; check.word: walked. -/
import Derived.Test.YtdaejggcjjdhkaaGreatDoorExW
import Derived.Test.YtdaejggcjjdhkaaGreatDoorMkD
import Derived.Test.YtdaejggcjjdhkaaGreatDoorMkB
namespace Go.Proofs.YtdaejggcjjdhkaaGreatDoor
open Go Go.RowKit
def errV (n : Nat) : Value := if n = 0 then .nilIface else eno (n : Int)
theorem errV_z {z : Nat} (h : z = 4 ∨ z = 18) : errV z = eno (z : Int) := by
  unfold errV
  rw [if_neg (by omega)]
theorem Rx.own2 {w : World} {base n c : Nat} {e : TypeId} {A : Option Addr} {xs : List Value} (h : w.ownsRow base e 1 (.slice A n c) n xs) : Rx w (fun b => w.heap.size ≤ b) A n xs := by
  refine ⟨by have := h.1; omega, fun hn => ?_⟩
  obtain ⟨g, cap, hv, hb, hlt⟩ := h.form hn
  have hA : A = some ⟨g, 0, none⟩ := by injection hv
  subst hA
  exact ⟨g, rfl, by omega, hlt, fun j u hu => by have := h.cells (g := g) rfl j u hu; rwa [Addr.add_lit, Nat.zero_add] at this⟩
/-- what expand answers, no variable being told. -/
def TdAns (w : World) (x : Ex.R) (r : Ending) (w' : World) : Prop := ∃ (t : ByteArray) (n : Nat), r = .returned (.tuple #[.string t, errV n]) ∧ (match x with | .inl z => n = z | .inr _ => n = 0 ∨ n = 5) ∧ Below w.heap.size w w'
set_option maxRecDepth 100000 in
set_option maxHeartbeats 1000000 in
theorem told_any (s : List UInt8) (e : UInt8) (k : Ex.Kd) (hs : s.length ≤ exMax) (w : World) : Calls Tryz.prog 139 #[.string (bs s), .int .u8 (e.toNat : Int), .int .i64 (kdI k), .slice none 0 0] w (TdAns w (Ex.readL e k s)) := by
  obtain ⟨x, hx⟩ : ∃ x, Hid (Ex.readL e k s = x) := ⟨_, Lib.hid rfl⟩
  rw [hx.out]
  obtain ⟨K, hK⟩ : ∃ K, Hid (kdI k = K) := ⟨_, Lib.hid rfl⟩
  rw [hK.out]
  have hb : e.toNat < 256 := UInt8.toNat_lt _
  have hal := (Below.refl w.heap.size w).alloc (Nat.le_refl _) (.cells #[.string (bs s), .int .i64 0, .int .u8 (e.toNat : Int)] 187)
  have hrd := Blk.new w 187 #[.string (bs s), .int .i64 0, .int .u8 (e.toNat : Int)]
  obtain ⟨w1, hw1⟩ : ∃ x, w.alloc (.cells #[.string (bs s), .int .i64 0, .int .u8 (e.toNat : Int)] 187) = x := ⟨_, rfl⟩
  rw [hw1] at hal hrd
  have HW1 := Lib.hid hw1
  have HB1 := Lib.hid hal
  have HRD : Hid (Rdr w1 w.heap.size s 0 e) := Lib.hid hrd
  have hcall := read_any hs (s.length + 1) k w.heap.size 0 w1 (by omega) (Nat.zero_le _) HRD.out
  rw [List.drop_zero, hx.out, hK.out] at hcall
  have HC := Lib.hid hcall
  have hsz1 : w.heap.size < w1.heap.size := Blk.lt hrd
  clear hw1 hal hrd hcall
  go_enter Tryz.func139, Tryz.ntmps139
  go_upto_region 2 with fail
  rw [HW1.out]
  go_wp2_with fail
  cases x with
  | inl z =>
    have hz := Ex.readL_err hx.out
    refine HC.out.mono ?_
    rintro r w2 ⟨rfl, k2⟩
    have HB2 := Lib.hid ((Fx.of_below HB1.out).then k2 (fun b hb h => by have h2 : b = w.heap.size := h; omega) |>.to_below (Nat.le_refl _) (fun b h => h))
    clear k2
    go_wp2_with fail
    go_ret2
    exact ⟨_, z, by rw [errV_z hz]; rfl, rfl, HB2.out⟩
  | inr pr =>
    obtain ⟨l, t⟩ := pr
    refine HC.out.mono ?_
    rintro r w2 ⟨v, xs, rfl, ho, hp, hrd2, hlen, k2⟩
    obtain ⟨A, c, rfl⟩ := ownk_form ho
    have HB2 := Lib.hid ((Fx.of_below HB1.out).then k2 (fun b hb h => by have h2 : b = w.heap.size := h; omega) |>.to_below (Nat.le_refl _) (fun b h => h))
    have HO2 := Lib.hid ho
    have HP2 := Lib.hid hp
    have hxs : xs.length ≤ exMax := by unfold exMax at hs ⊢; omega
    clear k2 ho hp hrd2
    have hmm := @run_makeMap Tryz.prog
    go_wp2_with fail
    go_loopw [15, 33] (fun _ t33 wr => t33 = .int .i64 0 ∧ w2.alloc (.map #[] 0) = wr) (fun _ _ _ => 0)
    case atStart => exact ⟨rfl, rfl⟩
    case round =>
      obtain ⟨rfl, rfl⟩ := hrel
      have hem := heap_alloc_new w2 (.map #[] 0)
      have b3 := (Below.refl w2.heap.size w2).alloc (Nat.le_refl _) (.map #[] 0)
      obtain ⟨w3, hw3⟩ : ∃ x, w2.alloc (.map #[] 0) = x := ⟨_, rfl⟩
      have hz3 : w3.heap.size = w2.heap.size + 1 := by rw [← hw3, World.size_alloc]
      rw [hw3] at hem b3
      rw [hw3]
      have b4 := (Below.refl w3.heap.size w3).alloc (Nat.le_refl _) (.cells #[.pointer none, .slice none 0 0] 194)
      have hbd := Bd.fresh w3
      obtain ⟨w4, hw4⟩ : ∃ x, w3.alloc (.cells #[.pointer none, .slice none 0 0] 194) = x := ⟨_, rfl⟩
      have hz4 : w4.heap.size = w3.heap.size + 1 := by rw [← hw4, World.size_alloc]
      rw [hw4] at b4 hbd
      have HW4 := Lib.hid hw4
      have HZ3 := Lib.hid hz3
      have hB4 : w3.heap.size ≤ w4.heap.size := by omega
      have hMB : w2.heap.size < w3.heap.size := by omega
      have HEM : Hid (EM w4 w2.heap.size) := Lib.hid (EM.below (w := w3) hem b4 hMB)
      have b24 : Below w2.heap.size w2 w4 := b3.trans (b4.mono (by omega))
      have HRX : Hid (Rx w4 (fun g => w3.heap.size ≤ g) A xs.length xs) := Lib.hid ((Rx.own2 HO2.out).fx (S := fun _ => False) (Fx.new b24) (fun b _ h => h.elim False.elim fun h => by have h2 : w3.heap.size ≤ b := h; show w2.heap.size ≤ b; omega))
      have HPX : Hid (PL w4 (fun g => w3.heap.size ≤ g) l xs) := Lib.hid (HP2.out.fx (S := fun _ => False) (Fx.new b24) (fun b hb h => h.elim False.elim fun h => by have h2 : w3.heap.size ≤ b := h; omega))
      have HBD := Lib.hid hbd
      have HB4 := Lib.hid (HB2.out.trans (b24.mono HB2.out.size))
      have hsz4 : w.heap.size ≤ w3.heap.size := by have := HB2.out.size; omega
      obtain ⟨d, hd⟩ := HPX.out
      have HCA := Lib.hid (all_any d _ _ _ _ _ _ c _ _ _ HBD.out (by simp) hB4 HEM.out hMB HRX.out hxs hd)
      clear hem b3 hw3 hz3 b4 hbd hw4 hz4 b24 hd hmm
      go_upto_region 12 with fail
      rw [HW4.out]
      go_wp2_with fail
      refine HCA.out.mono ?_
      rintro r w5 ⟨q, l5, rfl, h5, hl5, p5⟩
      have HB5 := Lib.hid (HB4.out.trans (p5.mono hsz4))
      have HBD5 := Lib.hid h5
      have hB5 : w3.heap.size ≤ w5.heap.size := Nat.le_trans hB4 p5.size
      clear h5 p5
      cases q with
      | false =>
        go_wp2_with fail
        go_ret2
        exact ⟨_, 5, rfl, .inr rfl, HB5.out⟩
      | true =>
        go_wp2_with fail
        refine (string_any _ _ _ _ HBD5.out hB5).mono ?_
        rintro r w6 ⟨rfl, h6, p6⟩
        have HB6 := Lib.hid (HB5.out.trans (p6.mono hsz4))
        clear h6 p6
        go_wp2_with fail
        go_ret2
        exact ⟨_, 0, rfl, .inl rfl, HB6.out⟩
set_option maxRecDepth 100000 in
theorem exWord_any (s : List UInt8) (e : UInt8) (hs : s.length ≤ exMax) (w : World) : Calls Tryz.prog 102 #[.string (bs s), .int .u8 (e.toNat : Int), .slice none 0 0] w (TdAns w (Ex.readL e .plain s)) := by
  have HC := Lib.hid (told_any s e .plain hs w)
  have hb : e.toNat < 256 := UInt8.toNat_lt _
  go_enter Tryz.func102, Tryz.ntmps102
  go_wp2_with fail
  refine HC.out.mono ?_
  rintro r w1 ⟨t, n, rfl, hn, p1⟩
  have HN := Lib.hid (And.intro hn p1)
  clear hn p1
  go_wp2_with fail
  go_ret2
  exact ⟨t, n, rfl, HN.out.1, HN.out.2⟩
set_option maxRecDepth 100000 in
theorem exDoc_any (s : List UInt8) (e : UInt8) (hs : s.length ≤ exMax) (w : World) : Calls Tryz.prog 100 #[.string (bs s), .int .u8 (e.toNat : Int), .slice none 0 0] w (TdAns w (Ex.readL e .document s)) := by
  have HC := Lib.hid (told_any s e .document hs w)
  have hb : e.toNat < 256 := UInt8.toNat_lt _
  go_enter Tryz.func100, Tryz.ntmps100
  go_wp2_with fail
  refine HC.out.mono ?_
  rintro r w1 ⟨t, n, rfl, hn, p1⟩
  have HN := Lib.hid (And.intro hn p1)
  clear hn p1
  go_wp2_with fail
  go_ret2
  exact ⟨t, n, rfl, HN.out.1, HN.out.2⟩
/-- one number: what is told of it, the sizes let by. -/
theorem td_num {e : UInt8} {k : Ex.Kd} {s : List UInt8} {n : Nat} (h : match Ex.readL e k s with | .inl z => n = z | .inr _ => n = 0 ∨ n = 5) : (n = 0 ∧ Ck.errR (Ex.readL e k s) = 0) ∨ (n = 5 ∧ Ck.errR (Ex.readL e k s) = 0) ∨ (n ≠ 0 ∧ n ≠ 5 ∧ Ck.errR (Ex.readL e k s) = n) := by
  cases hx : Ex.readL e k s with
  | inl z =>
    rw [hx] at h
    have h : n = z := h
    have := Ex.readL_err hx
    exact .inr (.inr ⟨by omega, by omega, h.symm⟩)
  | inr pr =>
    rw [hx] at h
    have h : n = 0 ∨ n = 5 := h
    rcases h with h | h
    · exact .inl ⟨h, rfl⟩
    · exact .inr (.inl ⟨h, rfl⟩)
set_option maxRecDepth 100000 in
set_option maxHeartbeats 1000000 in
theorem word_any (s : List UInt8) (e : UInt8) (hs : s.length ≤ exMax) (w : World) {n : Nat} (H : Hid (Ck.wordL e s = n)) : Calls Tryz.prog 45 #[.string (bs s), .int .u8 (e.toNat : Int)] w fun r w' => r = .returned (errV n) ∧ Below w.heap.size w w' := by
  have HC := Lib.hid (exWord_any s e hs w)
  have hb : e.toNat < 256 := UInt8.toNat_lt _
  go_enter Tryz.func45, Tryz.ntmps45
  go_wp2_with fail
  refine HC.out.mono ?_
  rintro r w1 ⟨t, m, rfl, hn, p1⟩
  have HP := Lib.hid p1
  have hc := td_num hn
  rw [show Ck.errR (Ex.readL e .plain s) = n from H.out] at hc
  clear hn p1 HC
  rcases hc with ⟨rfl, rfl⟩ | ⟨rfl, rfl⟩ | ⟨h0, h5, rfl⟩
  · rw [show errV 0 = .nilIface from rfl]
    go_wp2_with fail
    go_ret
    exact ⟨rfl, HP.out⟩
  · rw [show errV 5 = eno 5 from rfl]
    go_wp2_with fail
    refine (is_eno 5 5 _).mono ?_
    rintro r w2 ⟨rfl, rfl⟩
    go_wp2_with fail
    go_ret
    exact ⟨rfl, HP.out⟩
  · have hE : errV n = eno (n : Int) := by unfold errV; rw [if_neg h0]
    have HE := Lib.hid hE
    rw [hE]
    clear hE
    have hne : ((n : Int) == 5) = false := by rw [beq_eq_false_iff_ne]; omega
    go_wp2_with fail
    refine (is_eno (n : Int) 5 _).mono ?_
    rintro r w2 ⟨rfl, rfl⟩
    go_wp2_with fail
    go_ret
    exact ⟨by rw [HE.out]; rfl, HP.out⟩
end Go.Proofs.YtdaejggcjjdhkaaGreatDoor
