/- expand.Word at words without variables: the very text. (toldB_any, allB_any out of XExY, XExQ.) check.of, walked. check.Ref, walked. Elements of slices of steps and of stages, whole. -/
import Derived.Test.YtnlkmljdcmfogaaGreatDoorBld0
import Derived.Test.YtnlkmljdcmfogaaGreatDoorCkM0
namespace Go.Proofs.YtnlkmljdcmfogaaGreatDoor
open Go Go.RowKit Go.Shelf
theorem map_b_inj : ∀ {a b : List UInt8}, a.map Ex.Tk.b = b.map Ex.Tk.b → a = b
  | [], [], _ => rfl
  | [], _ :: _, h => by cases h
  | _ :: _, [], h => by cases h
  | x :: a, y :: b, h => by
    rw [List.map_cons, List.map_cons] at h
    injection h with h1 h2
    injection h1 with h1
    rw [h1, map_b_inj h2]
/-- a literal put, where there is room. -/
theorem litB_any (s : List UInt8) (hs : s.length ≤ exMax) {B b : Nat} {l : List UInt8} {w : World} (h : Bd w B b l) (hl : l.length + s.length ≤ 65536) (hB : B ≤ w.heap.size) (M : Value) : Calls Tryz.prog 322 #[.string (bs s), .pointer (some ⟨b, 0, none⟩), M] w fun r w' => r = .returned (.bool true) ∧ Bd w' B b (l ++ s) ∧ Below B w w' := by
  have hz : (bs s).size ≤ 2000000 := by rw [bs_size]; exact hs
  have HZ : Hid ((bs s).size = s.length) := Lib.hid (bs_size s)
  have H := Lib.hid h
  have et : decide ((65536 : Int) < (l.length : Int) + ((bs s).size : Int)) = false := by rw [decide_eq_false_iff_not]; have := HZ.out; omega
  clear h
  go_enter Tryz.func322, Tryz.ntmps322
  go_wp2_with fail
  refine (len_any H.out).mono ?_
  rintro e w1 ⟨rfl, rfl⟩
  go_wp2_with fail
  refine (write_any B b l s _ H.out (by omega) hB).mono ?_
  rintro e w1 ⟨rfl, h1, p1⟩
  go_wp2_with fail
  go_ret
  exact ⟨rfl, h1, p1⟩
set_option maxRecDepth 100000 in
set_option maxHeartbeats 1000000 in
theorem allB_any (d B b : Nat) (w : World) (A : Option Addr) (m c : Nat) (xs : List Value) (ls l : List UInt8) (hl : l.length + ls.length ≤ 65536) (h : Bd w B b l) (hB : B ≤ w.heap.size) (hr : Rx w (fun g => B ≤ g) A m xs) (hm : m ≤ exMax) (hp : PVs (PV w (fun g => B ≤ g) d) (ls.map .b) xs) {M : Value} :
    Calls Tryz.prog 238 #[.slice A m c, .pointer (some ⟨b, 0, none⟩), M] w fun r w' => r = .returned (.bool true) ∧ Bd w' B b (l ++ ls) ∧ Below B w w' := by
  have HR := Lib.hid hr
  have HB := Lib.hid h
  have HP := Lib.hid hp
  have HL := Lib.hid hl
  have hm2 : m ≤ 2000000 := hm
  clear hr h hp hl
  go_enter Tryz.func238, Tryz.ntmps238
  go_wp2_with fail
  go_loopw [11] (fun t11 wr => ∃ (i : Nat) (a r : List UInt8), i ≤ m ∧ t11 = .int .i64 (i : Int) ∧ Hid (ls = a ++ r) ∧ Hid (PVs (PV w (fun g => B ≤ g) d) (r.map .b) (xs.drop i)) ∧ Hid (Bd wr B b (l ++ a)) ∧ Hid (Below B w wr)) (fun t11 _ => m - (intOf t11).toNat)
  case atStart => exact ⟨0, [], ls, by omega, rfl, Lib.hid rfl, HP, Lib.hid (by rw [List.append_nil]; exact HB.out), Lib.hid (Below.refl _ _)⟩
  case round =>
    rename World => wr
    clear HP HB
    obtain ⟨i, a, r, hi, rfl, HLS, HP, HBi, HW⟩ := hrel
    rcases Nat.lt_or_ge i m with hin | hin
    · have i0 : decide ((i : Int) < (m : Int)) = true := by rw [decide_eq_true_eq]; omega
      have i1 : (i : Int) < (m : Int) := by omega
      have j0 : (0 : Int) ≤ (i : Int) := by omega
      obtain ⟨g, rfl, hg, hgl, hcell⟩ := HR.out.2 (by omega)
      have hxl : i < xs.length := by rw [HR.out.1]; exact hin
      have c0 : wr.cell? ⟨g, i, none⟩ = some xs[i] := (HW.out.cell (p := ⟨g, i, none⟩) (by show g < B; exact Nat.lt_of_not_le hg)).trans (hcell i _ (List.getElem?_eq_getElem hxl))
      have hpd := HP.out
      rw [List.drop_eq_getElem_cons hxl] at hpd
      obtain ⟨ta, tb, he, hv, hrest⟩ := hpd
      obtain ⟨r1, r2, rfl, q1, q2⟩ := List.map_eq_append_iff.1 he
      subst q1 q2
      obtain ⟨s, hs, hse, hxe⟩ : ∃ s, r1 = s ∧ s.length ≤ exMax ∧ xs[i] = litV s := by
        cases d with
        | zero =>
          obtain ⟨s, e1, e2, e3⟩ := hv
          exact ⟨s, map_b_inj e1, e2, e3⟩
        | succ d =>
          rcases hv with ⟨s, e1, e2, e3⟩ | ⟨n, op, l0, A0, m0, c0, xs0, e1, _⟩
          · exact ⟨s, map_b_inj e1, e2, e3⟩
          · cases r1 with
            | nil => cases e1
            | cons y ys => rw [List.map_cons] at e1; injection e1 with e1; cases e1
      subst hs
      have hBr : B ≤ wr.heap.size := Nat.le_trans hB HW.out.size
      have hml := mLit r1
      rw [hxe] at c0
      replace c0 : wr.cell? ⟨g, i, none⟩ = some (.iface 398 (.string (bs r1))) := c0
      have hlen : (l ++ a).length + r1.length ≤ 65536 := by have h1 := HL.out; have h2 := congrArg List.length HLS.out; simp only [List.length_append] at h2 ⊢; omega
      have HRS := Lib.hid hrest
      have HLS2 : Hid (ls = (a ++ r1) ++ r2) := Lib.hid (by rw [HLS.out, List.append_assoc])
      have HC := Lib.hid (litB_any r1 hse HBi.out hlen hBr M)
      clear hv he hcell hg hgl hxl hrest hxe hlen
      go_wp2_with fail
      refine HC.out.mono ?_
      rintro rr w5 ⟨rfl, h5, p5⟩
      have HW5 := Lib.hid (HW.out.trans p5)
      have HB5 : Hid (Bd w5 B b (l ++ (a ++ r1))) := Lib.hid (by rw [← List.append_assoc]; exact h5)
      clear h5 p5 HC c0
      go_wp2_with fail
      go_roundw
      case rel => exact ⟨i + 1, a ++ r1, r2, by omega, by go_num, HLS2, HRS, HB5, HW5⟩
      case measure => simp [intOf]; omega
    · have i0 : decide ((i : Int) < (m : Int)) = false := by rw [decide_eq_false_iff_not]; omega
      have hr0 : r = [] := by
        have h := HP.out
        rw [List.drop_of_length_le (by rw [HR.out.1]; omega)] at h
        exact List.map_eq_nil_iff.1 h
      have HBE : Hid (Bd wr B b (l ++ ls)) := Lib.hid (by have h := HLS.out; rw [hr0, List.append_nil] at h; rw [h]; exact HBi.out)
      clear hr0
      go_wp2_with fail
      go_ret
      exact ⟨rfl, HBE.out, HW.out⟩
set_option maxRecDepth 100000 in
set_option maxHeartbeats 1000000 in
theorem toldB_any (s : List UInt8) (e : UInt8) (k : Ex.Kd) (hs : s.length ≤ exMax) (l : List UInt8) (t : List UInt8) (hx : Hid (Ex.readL e k s = .inr (l.map .b, t))) (hl : l.length ≤ 65536) (w : World) : Calls Tryz.prog 181 #[.string (bs s), .int .u8 (e.toNat : Int), .int .i64 (kdI k), .slice none 0 0] w fun r w' => r = .returned (.tuple #[.string (bs l), .nilIface]) ∧ Below w.heap.size w w' := by
  obtain ⟨K, hK⟩ : ∃ K, Hid (kdI k = K) := ⟨_, Lib.hid rfl⟩
  rw [hK.out]
  have hb : e.toNat < 256 := UInt8.toNat_lt _
  have hal := (Below.refl w.heap.size w).alloc (Nat.le_refl _) (.cells #[.string (bs s), .int .i64 0, .int .u8 (e.toNat : Int)] 373)
  have hrd := Blk.new w 373 #[.string (bs s), .int .i64 0, .int .u8 (e.toNat : Int)]
  obtain ⟨w1, hw1⟩ : ∃ x, w.alloc (.cells #[.string (bs s), .int .i64 0, .int .u8 (e.toNat : Int)] 373) = x := ⟨_, rfl⟩
  rw [hw1] at hal hrd
  have HW1 := Lib.hid hw1
  have HB1 := Lib.hid hal
  have HRD : Hid (Rdr w1 w.heap.size s 0 e) := Lib.hid hrd
  have hcall := read_any hs (s.length + 1) k w.heap.size 0 w1 (by omega) (Nat.zero_le _) HRD.out
  rw [List.drop_zero, hx.out, hK.out] at hcall
  have HC := Lib.hid hcall
  have hsz1 : w.heap.size < w1.heap.size := Blk.lt hrd
  clear hw1 hal hrd hcall
  go_enter Tryz.func181, Tryz.ntmps181
  go_upto_region 2 with fail
  rw [HW1.out]
  go_wp2_with fail
  refine HC.out.mono ?_
  rintro r w2 ⟨v, xs, rfl, ho, hp, hrd2, hlen, k2⟩
  obtain ⟨A, c, rfl⟩ := ownk_form ho
  have HB2 := Lib.hid ((Fx.of_below HB1.out).then k2 (fun b hb h => by have h2 : b = w.heap.size := h; omega) |>.to_below (Nat.le_refl _) (fun b h => h))
  have HO2 := Lib.hid ho
  have HP2 := Lib.hid hp
  have hxs : xs.length ≤ exMax := by unfold exMax at hs ⊢; omega
  clear k2 ho hp hrd2
  have hmm := @run_makeMap Tryz.prog
  go_wp2_with fail
  go_loopw [15, 33] (fun _ t33 wr => t33 = .int .i64 0 ∧ w2.alloc (.map #[] 0) = wr) (fun _ _ _ => 0)
  case atStart => exact ⟨rfl, rfl⟩
  case round =>
    obtain ⟨rfl, rfl⟩ := hrel
    have hem := heap_alloc_new w2 (.map #[] 0)
    have b3 := (Below.refl w2.heap.size w2).alloc (Nat.le_refl _) (.map #[] 0)
    obtain ⟨w3, hw3⟩ : ∃ x, w2.alloc (.map #[] 0) = x := ⟨_, rfl⟩
    have hz3 : w3.heap.size = w2.heap.size + 1 := by rw [← hw3, World.size_alloc]
    rw [hw3] at hem b3
    rw [hw3]
    have b4 := (Below.refl w3.heap.size w3).alloc (Nat.le_refl _) (.cells #[.pointer none, .slice none 0 0] 379)
    have hbd := Bd.fresh w3
    obtain ⟨w4, hw4⟩ : ∃ x, w3.alloc (.cells #[.pointer none, .slice none 0 0] 379) = x := ⟨_, rfl⟩
    have hz4 : w4.heap.size = w3.heap.size + 1 := by rw [← hw4, World.size_alloc]
    rw [hw4] at b4 hbd
    have HW4 := Lib.hid hw4
    have HZ3 := Lib.hid hz3
    have hB4 : w3.heap.size ≤ w4.heap.size := by omega
    have hMB : w2.heap.size < w3.heap.size := by omega
    have HEM : Hid (EM w4 w2.heap.size) := Lib.hid (EM.below (w := w3) hem b4 hMB)
    have b24 : Below w2.heap.size w2 w4 := b3.trans (b4.mono (by omega))
    have HRX : Hid (Rx w4 (fun g => w3.heap.size ≤ g) A xs.length xs) := Lib.hid ((Rx.own2 HO2.out).fx (S := fun _ => False) (Fx.new b24) (fun b _ h => h.elim False.elim fun h => by have h2 : w3.heap.size ≤ b := h; show w2.heap.size ≤ b; omega))
    have HPX : Hid (PL w4 (fun g => w3.heap.size ≤ g) (l.map .b) xs) := Lib.hid (HP2.out.fx (S := fun _ => False) (Fx.new b24) (fun b hb h => h.elim False.elim fun h => by have h2 : w3.heap.size ≤ b := h; omega))
    have HBD := Lib.hid hbd
    have HB4 := Lib.hid (HB2.out.trans (b24.mono HB2.out.size))
    have hsz4 : w.heap.size ≤ w3.heap.size := by have := HB2.out.size; omega
    obtain ⟨d, hd⟩ := HPX.out
    have HCA := Lib.hid (allB_any d _ _ _ _ _ c _ l [] (by simpa using hl) HBD.out hB4 HRX.out hxs hd (M := .map (some w2.heap.size)))
    clear hem b3 hw3 hz3 b4 hbd hw4 hz4 b24 hd hmm
    go_upto_region 12 with fail
    rw [HW4.out]
    go_wp2_with fail
    refine HCA.out.mono ?_
    rintro r w5 ⟨rfl, h5, p5⟩
    have HB5 := Lib.hid (HB4.out.trans (p5.mono hsz4))
    have HBD5 := Lib.hid h5
    have hB5 : w3.heap.size ≤ w5.heap.size := Nat.le_trans hB4 p5.size
    clear h5 p5
    go_wp2_with fail
    refine (string_any _ _ _ _ HBD5.out hB5).mono ?_
    rintro r w6 ⟨rfl, h6, p6⟩
    have HB6 := Lib.hid (HB5.out.trans (p6.mono hsz4))
    clear h6 p6
    go_wp2_with fail
    go_ret2
    exact ⟨rfl, HB6.out⟩
set_option maxRecDepth 100000 in
theorem wordB_any (s : List UInt8) (e : UInt8) (hs : s.length ≤ exMax) (l : List UInt8) (t : List UInt8) (hx : Hid (Ex.readL e .plain s = .inr (l.map .b, t))) (hl : l.length ≤ 65536) (w : World) : Calls Tryz.prog 114 #[.string (bs s), .int .u8 (e.toNat : Int), .slice none 0 0] w fun r w' => r = .returned (.tuple #[.string (bs l), .nilIface]) ∧ Below w.heap.size w w' := by
  have HC := Lib.hid (toldB_any s e .plain hs l t hx hl w)
  have hb : e.toNat < 256 := UInt8.toNat_lt _
  go_enter Tryz.func114, Tryz.ntmps114
  go_wp2_with fail
  refine HC.out.mono ?_
  rintro r w1 ⟨rfl, p1⟩
  have HN := Lib.hid p1
  clear p1
  go_wp2_with fail
  go_ret2
  exact ⟨rfl, HN.out⟩
end Go.Proofs.YtnlkmljdcmfogaaGreatDoor
namespace Go.Proofs.YtnlkmljdcmfogaaGreatDoor
open Go Go.RowKit
namespace Ck
theorem ix_ge : ∀ (l : List UInt8) (c : UInt8), -1 ≤ Lib.indexByte l c
  | [], _ => by simp [Lib.indexByte]
  | b :: l, c => by
    have := ix_ge l c
    rw [Lib.indexByte]
    split
    · omega
    · split <;> omega
theorem ix_lt : ∀ (l : List UInt8) (c : UInt8), decide (Lib.indexByte l c < 0) = !l.contains c
  | [], _ => by simp [Lib.indexByte]
  | b :: l, c => by
    have ih := ix_lt l c
    have hg := ix_ge l c
    rw [Lib.indexByte, List.contains_cons]
    by_cases h : b = c
    · subst h; simp
    · have h1 : (b == c) = false := by simpa using h
      have h2 : (c == b) = false := by simpa using fun e => h e.symm
      rw [h1, h2, Bool.false_or, ← ih]
      simp only [Bool.false_eq_true, if_false]
      split
      · rename_i h3
        rw [beq_iff_eq] at h3
        rw [h3]
      · rename_i h3
        have h4 : ¬ Lib.indexByte l c = -1 := by simpa using h3
        rw [decide_eq_decide]
        omega
end Ck
set_option maxRecDepth 100000 in
set_option maxHeartbeats 1000000 in
theorem of_any (s others : List UInt8) (cp : Bool) (hs : s.length ≤ 2000000) (w : World) {b : Bool} (H : Hid (Ck.ofL s others cp = b)) : Calls Tryz.prog 174 #[.string (bs s), .string (bs others), .bool cp] w fun e w' => e = .returned (.bool b) ∧ w = w' := by
  have hz := bs_size s
  have HZ := Lib.hid hz
  have hs2 : (bs s).size ≤ 2000000 := by omega
  obtain ⟨n0, en⟩ : ∃ n0, (bs s).toList.isEmpty = n0 := ⟨_, rfl⟩
  obtain ⟨f, hf⟩ : ∃ f : UInt8 → Bool, Hid ((fun c => Ck.small c || Ck.digit c || cp && Ck.big c || others.contains c) = f) := ⟨_, Lib.hid rfl⟩
  have H0 : Hid (((s.drop 0).all f && !n0) = b) := by show _ = _; rw [List.drop_zero, ← en, bs_list, ← H.out, ← hf.out]; rfl
  clear hz H
  go_enter Tryz.func174, Tryz.ntmps174
  go_wp2_with fail
  go_loopw [7, 8, 11] (fun _ _ t11 wr => ∃ i : Nat, i ≤ (bs s).size ∧ t11 = .int .i64 (i : Int) ∧ Hid (((s.drop i).all f && !n0) = b) ∧ w = wr) (fun _ _ t11 _ => (bs s).size - (intOf t11).toNat)
  case atStart => exact ⟨0, by omega, rfl, H0, by first | rfl | trivial⟩
  case round =>
    clear H0
    obtain ⟨i, hi, rfl, HR, rfl⟩ := hrel
    have j0 : (0 : Int) ≤ (i : Int) := by omega
    rcases Nat.lt_or_ge i (bs s).size with hin | hin
    · have i0 : decide ((i : Int) < ((bs s).size : Int)) = true := by rw [decide_eq_true_eq]; omega
      have i1 : (i : Int) < ((bs s).size : Int) := by omega
      have hil : i < s.length := by rw [← HZ.out]; exact hin
      have hR := HR.out
      rw [List.drop_eq_getElem_cons hil, show s[i] = (bs s)[i]'hin from rfl, List.all_cons] at hR
      obtain ⟨c, hc⟩ : ∃ c, (bs s)[i]'hin = c := ⟨_, rfl⟩
      rw [hc] at hR
      have hby : c.toNat < 256 := UInt8.toNat_lt _
      obtain ⟨a1, e1⟩ : ∃ x, decide ((97 : Int) ≤ (c.toNat : Int)) = x := ⟨_, rfl⟩
      obtain ⟨a2, e2⟩ : ∃ x, decide ((c.toNat : Int) ≤ 122) = x := ⟨_, rfl⟩
      obtain ⟨d1, e3⟩ : ∃ x, decide ((48 : Int) ≤ (c.toNat : Int)) = x := ⟨_, rfl⟩
      obtain ⟨d2, e4⟩ : ∃ x, decide ((c.toNat : Int) ≤ 57) = x := ⟨_, rfl⟩
      obtain ⟨g1, e5⟩ : ∃ x, decide ((65 : Int) ≤ (c.toNat : Int)) = x := ⟨_, rfl⟩
      obtain ⟨g2, e6⟩ : ∃ x, decide ((c.toNat : Int) ≤ 90) = x := ⟨_, rfl⟩
      obtain ⟨k, hk⟩ : ∃ k, ((a1 && a2) || (d1 && d2) || (cp && g1 && g2)) = k := ⟨_, rfl⟩
      have hF : f c = (k || others.contains c) := by
        rw [← hf.out]
        show (Ck.small c || Ck.digit c || cp && Ck.big c || others.contains c) = _
        rw [small_is, digit_is, big_is, e1, e2, e3, e4, e5, e6, ← hk, Bool.and_assoc]
      rw [hF] at hR
      have HQ := Lib.hid hk
      have HN := Lib.hid hR
      clear hR HR hk hil hF
      go_upto_region 5 with fail
      go_cut [41] (fun s41 wx => s41 = .bool k ∧ w = wx)
      case first =>
        clear HN
        cases a1 <;> cases a2 <;> cases d1 <;> cases d2 <;> cases cp <;> cases g1 <;> cases g2 <;> (
          go_wp2_with fail
          go_meet
          exact ⟨by rw [← HQ.out]; rfl, by first | rfl | trivial⟩)
      case rest =>
        obtain ⟨rfl, rfl⟩ := hcut
        clear e1 e2 e3 e4 e5 e6 HQ
        cases k with
        | true =>
          have HF : Hid (((s.drop (i + 1)).all f && !n0) = b) := by show _ = _; rw [← HN.out]; rfl
          clear HN
          go_wp2_with fail
          go_roundw
          case rel => exact ⟨i + 1, by omega, by go_num, HF, by first | rfl | trivial⟩
          case measure => simp [intOf]; omega
        | false =>
          obtain ⟨x, hx⟩ : ∃ x, Hid (Lib.indexByte others c = x) := ⟨_, Lib.hid rfl⟩
          obtain ⟨y, ey⟩ : ∃ y, decide (x < 0) = y := ⟨_, rfl⟩
          have HY : Hid (others.contains c = !y) := by show _ = _; rw [← ey, ← hx.out, Ck.ix_lt, Bool.not_not]
          cases y with
          | true =>
            have HF : Hid (b = false) := by show _ = _; rw [← HN.out, HY.out]; rfl
            clear HN HY
            go_wp2_with fail
            refine (indexByte_any others _ c hx).mono ?_
            rintro r w1 ⟨rfl, rfl⟩
            go_wp2_with fail
            go_ret
            exact ⟨by rw [HF.out]; rfl, by first | rfl | trivial⟩
          | false =>
            have HF : Hid (((s.drop (i + 1)).all f && !n0) = b) := by show _ = _; rw [← HN.out, HY.out]; rfl
            clear HN HY
            go_wp2_with fail
            refine (indexByte_any others _ c hx).mono ?_
            rintro r w1 ⟨rfl, rfl⟩
            go_wp2_with fail
            go_roundw
            case rel => exact ⟨i + 1, by omega, by go_num, HF, by first | rfl | trivial⟩
            case measure => simp [intOf]; omega
    · have i0 : decide ((i : Int) < ((bs s).size : Int)) = false := by rw [decide_eq_false_iff_not]; omega
      have hil : s.length ≤ i := by rw [← HZ.out]; exact hin
      have HF : Hid (b = !n0) := by show _ = _; rw [← HR.out, List.drop_eq_nil_of_le hil]; rfl
      clear HR hil
      cases n0 <;> (
        go_wp2_with fail
        go_ret
        exact ⟨by rw [HF.out]; rfl, by first | rfl | trivial⟩)
end Go.Proofs.YtnlkmljdcmfogaaGreatDoor
namespace Go.Proofs.YtnlkmljdcmfogaaGreatDoor
open Go Go.RowKit
namespace Ck
/-- both ways of check.Ref in one. -/
theorem ref_all (s : List UInt8) : ∃ a r h t n, Lib.cut s [58] = (a, r, h) ∧ (h = true → t = r ∧ n = s.length) ∧ (h = false → t = latest ∧ n = s.length + 7) ∧ a.length ≤ s.length ∧ t.length ≤ s.length + 6 ∧
    refR s = (decide (n ≤ 96) && decide (a ≠ scratch) && tagP t && (Gl.cutL 47 a).all pieceP) := by
  rcases Gl.index_byte 58 s with ⟨_, h⟩ | ⟨a, r, rfl, h, _⟩
  · refine ⟨s, [], false, latest, s.length + 7, cut58_no h, (fun e => by cases e), fun _ => ⟨rfl, rfl⟩, Nat.le_refl _, by simp [latest], ?_⟩
    rw [ref_no s h, tag_latest, Bool.and_true]
  · exact ⟨a, r, true, r, _, cut58_yes h, fun _ => ⟨rfl, rfl⟩, (fun e => by cases e), by simp, by simp; omega, ref_cut a r h⟩
end Ck
theorem of_tag (s : List UInt8) (hs : s.length ≤ 2000000) (w : World) {b : Bool} (H : Hid (Ck.ofL s [95, 46, 45] true = b)) : Calls Tryz.prog 174 #[.string (bs s), .string ⟨#[95, 46, 45]⟩, .bool true] w fun e w' => e = .returned (.bool b) ∧ w = w' := of_any s [95, 46, 45] true hs w H
theorem of_piece (s : List UInt8) (hs : s.length ≤ 2000000) (w : World) {b : Bool} (H : Hid (Ck.ofL s [46, 95, 45] false = b)) : Calls Tryz.prog 174 #[.string (bs s), .string ⟨#[46, 95, 45]⟩, .bool false] w fun e w' => e = .returned (.bool b) ∧ w = w' := of_any s [46, 95, 45] false hs w H
theorem bs_at0 (l : List UInt8) (h : 0 < (bs l).size) : l[0]? = some ((bs l)[0]'h) := by
  have h2 : 0 < l.length := by rw [← bs_size]; exact h
  rw [List.getElem?_eq_getElem h2]
  rfl
/-- what is said of a reference. -/
def refV (b : Bool) : Value := if b then .nilIface else .iface 114 (.int .i64 31)
set_option maxRecDepth 100000 in
set_option maxHeartbeats 1000000 in
theorem ckRef_any (s : List UInt8) (hs : s.length ≤ 1100000) (w : World) (hm : Maxl w) {b : Bool} (H : Hid (Ck.refR s = b)) : Calls Tryz.prog 119 #[.string (bs s)] w fun e w' => e = .returned (refV b) ∧ Below w.heap.size w w' := by
  obtain ⟨a, r, h, t, n, hc, hy, hn, hal, htl, hsp⟩ := Ck.ref_all s
  have hz := bs_size s
  have HC := Lib.hid hc
  have HM := Lib.hid hm
  have HT : Hid ((if h then r else Ck.latest) = t) := by
    show _ = _
    cases h with
    | true => exact (hy rfl).1.symm
    | false => exact (hn rfl).1.symm
  have hnn : (n : Int) = if h then ((bs s).size : Int) else ((bs s).size : Int) + 7 := by
    cases h with
    | true => have := (hy rfl).2; simp; omega
    | false => have := (hn rfl).2; simp; omega
  have hn2 : n ≤ 1100007 := by
    cases h with
    | true => have := (hy rfl).2; omega
    | false => have := (hn rfl).2; omega
  have HN := Lib.hid hnn
  have HSP : Hid ((decide (n ≤ 96) && decide (a ≠ Ck.scratch) && Ck.tagP t && (Gl.cutL 47 a).all Ck.pieceP) = b) := Lib.hid (by rw [← hsp]; exact H.out)
  have hss : (bs s).size ≤ 1100000 := by omega
  clear hc hy hn hsp H hm hnn hz
  go_enter Tryz.func119, Tryz.ntmps119
  go_wp2_with fail
  refine (cut58_any s _ (by omega) HM.out HC).mono ?_
  rintro e w1 ⟨rfl, p1⟩
  have HP1 := Lib.hid p1
  have HM1 := Lib.hid (HM.out.grow p1)
  clear p1
  go_upto_if 18 with fail
  go_cut [4, 6] (fun s4 s6 wx => s4 = .string (bs t) ∧ s6 = .int .i64 (n : Int) ∧ w1 = wx)
  case first =>
    cases h with
    | true =>
      have e1 : r = t := HT.out
      subst e1
      have e2 : (n : Int) = ((bs s).size : Int) := HN.out
      go_wp2_with fail
      go_meet
      exact ⟨by first | rfl | trivial, by rw [e2], by first | rfl | trivial⟩
    | false =>
      have e1 : Ck.latest = t := HT.out
      subst e1
      have e2 : (n : Int) = ((bs s).size : Int) + 7 := HN.out
      have e3 : IntKind.i64.wrap (((bs s).size : Int) + 7) = (n : Int) := by rw [IntWalk.i64_in _ (by omega)]; exact e2.symm
      go_wp2_with fail
      go_meet
      exact ⟨rfl, by first | rfl | rw [e2], by first | rfl | trivial⟩
  case rest =>
    obtain ⟨rfl, rfl, rfl⟩ := hcut
    have HP := HP1
    obtain ⟨z1, e1⟩ : ∃ z, decide ((96 : Int) < (n : Int)) = z := ⟨_, rfl⟩
    obtain ⟨z2, e2⟩ : ∃ z, ((bs a).toList == [115, 99, 114, 97, 116, 99, 104]) = z := ⟨_, rfl⟩
    obtain ⟨o, ho⟩ : ∃ o, Hid (Ck.ofL t [95, 46, 45] true = o) := ⟨_, Lib.hid rfl⟩
    have hz2 : decide (a ≠ Ck.scratch) = !z2 := by
      rw [← e2, bs_list, Bool.eq_iff_iff, decide_eq_true_eq, Bool.not_eq_true', beq_eq_false_iff_ne]
      exact Iff.rfl
    have hz1 : decide (n ≤ 96) = !z1 := by rw [← e1, Bool.eq_iff_iff, decide_eq_true_eq, Bool.not_eq_true', decide_eq_false_iff_not]; omega
    have hs3 := HSP.out
    rw [hz1, hz2] at hs3
    have HS3 := Lib.hid hs3
    clear hs3 hz1 hz2 HSP HN HT HC
    cases z1 with
    | true =>
      have HF : Hid (b = false) := by show _ = _; rw [← HS3.out]; rfl
      go_wp2_with fail
      go_ret
      exact ⟨by rw [HF.out]; rfl, HP.out⟩
    | false =>
      cases z2 with
      | true =>
        have HF : Hid (b = false) := by show _ = _; rw [← HS3.out]; rfl
        go_wp2_with fail
        go_ret
        exact ⟨by rw [HF.out]; rfl, HP.out⟩
      | false =>
        cases o with
        | false =>
          have HF : Hid (b = false) := by show _ = _; rw [← HS3.out, Ck.tagP, ho.out]; rfl
          go_wp2_with fail
          refine (of_tag t (by omega) _ ho).mono ?_
          rintro e w3 ⟨rfl, rfl⟩
          go_wp2_with fail
          go_ret
          exact ⟨by rw [HF.out]; rfl, HP.out⟩
        | true =>
          obtain ⟨c, rt, hct⟩ : ∃ c rt, t = c :: rt := by
            cases t with
            | nil => exact absurd ho.out (by decide)
            | cons c rt => exact ⟨c, rt, rfl⟩
          have hpos : 0 < (bs t).size := by rw [bs_size, hct]; simp
          have hposi : (0 : Int) < ((bs t).size : Int) := by omega
          have hc0 : (bs t)[0]'hpos = c := by
            have e0 : t[0]? = some c := by rw [hct]; rfl
            have := bs_at0 t hpos
            rw [e0] at this
            exact (Option.some.inj this).symm
          have hby : c.toNat < 256 := UInt8.toNat_lt _
          obtain ⟨m1, f1⟩ : ∃ m, ((c.toNat : Int) == 46) = m := ⟨_, rfl⟩
          obtain ⟨m2, f2⟩ : ∃ m, ((c.toNat : Int) == 45) = m := ⟨_, rfl⟩
          have hT : Ck.tagP t = (!m1 && !m2) := by
            have g1 : (some c != some (46 : UInt8)) = !m1 := by
              rw [← f1, show (46 : Int) = (((46 : UInt8).toNat : Nat) : Int) from rfl, ← bne, ne_int]
              cases hq : c == 46 <;> simp_all [bne]
            have g2 : (some c != some (45 : UInt8)) = !m2 := by
              rw [← f2, show (45 : Int) = (((45 : UInt8).toNat : Nat) : Int) from rfl, ← bne, ne_int]
              cases hq : c == 45 <;> simp_all [bne]
            rw [Ck.tagP, ho.out, hct, List.head?_cons, g1, g2, Bool.true_and]
          have hs4 := HS3.out
          rw [hT] at hs4
          have HS4 := Lib.hid hs4
          clear hs4 hT hct HS3
          cases m1 with
          | true =>
            have HF : Hid (b = false) := by show _ = _; rw [← HS4.out]; rfl
            go_wp2_with fail
            refine (of_tag t (by omega) _ ho).mono ?_
            rintro e w3 ⟨rfl, rfl⟩
            go_wp2_with fail
            go_ret
            exact ⟨by rw [HF.out]; rfl, HP.out⟩
          | false =>
            cases m2 with
            | true =>
              have HF : Hid (b = false) := by show _ = _; rw [← HS4.out]; rfl
              go_wp2_with fail
              refine (of_tag t (by omega) _ ho).mono ?_
              rintro e w3 ⟨rfl, rfl⟩
              go_wp2_with fail
              go_ret
              exact ⟨by rw [HF.out]; rfl, HP.out⟩
            | false =>
              have HA : Hid ((Gl.cutL 47 a).all Ck.pieceP = b) := by show _ = _; rw [← HS4.out]; rfl
              clear HS4
              obtain ⟨ls, hls⟩ : ∃ ls, Hid (Gl.cutL 47 a = ls) := ⟨_, Lib.hid rfl⟩
              have hN : ls.length ≤ 1100001 := by have := Gl.cutL_length 47 a; rw [hls.out] at this; omega
              have HPL : Hid (∀ x ∈ ls, x.length ≤ 1100000) := Lib.hid fun x hx => by
                rw [← hls.out] at hx
                have := Gl.cutL_piece 47 a x hx
                omega
              rw [hls.out] at HA
              go_wp2_with fail
              refine (of_tag t (by omega) _ ho).mono ?_
              rintro e w3 ⟨rfl, rfl⟩
              go_wp2_with fail
              refine (split47_any a _ (by omega) HM1.out hls).mono ?_
              rintro e w2 ⟨rfl, hbk, p2⟩
              have HBK := Lib.hid hbk
              have HP2 := Lib.hid (below_of_below HP.out p2 HP.out.size)
              have H0 : Hid ((ls.drop 0).all Ck.pieceP = b) := Lib.hid (by rw [List.drop_zero]; exact HA.out)
              clear hbk p2 HA
              go_wp2_with fail
              go_loopw [8, 46] (fun _ t46 wr => ∃ i : Nat, i ≤ ls.length ∧ t46 = .int .i64 (i : Int) ∧ Hid ((ls.drop i).all Ck.pieceP = b) ∧ Hid (Below w2.heap.size w2 wr)) (fun _ t46 _ => ls.length - (intOf t46).toNat)
              case atStart => exact ⟨0, by omega, rfl, H0, Lib.hid (Below.refl _ _)⟩
              case round =>
                clear H0
                rename World => wr
                obtain ⟨i, hi, rfl, HR, HB⟩ := hrel
                have j0 : (0 : Int) ≤ (i : Int) := by omega
                rcases Nat.lt_or_ge i ls.length with hin | hin
                · have i0 : decide ((i : Int) < (ls.length : Int)) = true := by rw [decide_eq_true_eq]; omega
                  have i1 : (i : Int) < (ls.length : Int) := by omega
                  have hR := HR.out
                  rw [List.drop_eq_getElem_cons hin, List.all_cons] at hR
                  obtain ⟨p, hp⟩ : ∃ p, ls[i] = p := ⟨_, rfl⟩
                  have hci : wr.cell? ⟨w1.heap.size, i, none⟩ = some (.string (bs p)) := by
                    rw [Blk.cell (HBK.out.below HB.out HBK.out.lt)]
                    simp [sc, hin, hp]
                  have hpl : p.length ≤ 1100000 := HPL.out p (by rw [← hp]; exact List.getElem_mem hin)
                  rw [hp] at hR
                  obtain ⟨o2, ho2⟩ : ∃ o, Hid (Ck.ofL p [46, 95, 45] false = o) := ⟨_, Lib.hid rfl⟩
                  obtain ⟨tr, htr⟩ : ∃ tr, Hid (Lib.trimS p [46, 95, 45] = tr) := ⟨_, Lib.hid rfl⟩
                  obtain ⟨y, ey⟩ : ∃ y, ((bs tr).toList == (bs p).toList) = y := ⟨_, rfl⟩
                  have hpc : Ck.pieceP p = (o2 && y) := by
                    have hd : decide (tr = p) = (tr == p) := by rw [Bool.eq_iff_iff, decide_eq_true_eq, beq_iff_eq]
                    rw [Ck.pieceP, ho2.out, htr.out, ← ey, bs_list, bs_list, hd]
                  rw [hpc] at hR
                  have HR2 := Lib.hid hR
                  clear hR HR hpc hp
                  cases o2 with
                  | false =>
                    have HF : Hid (b = false) := by show _ = _; rw [← HR2.out]; rfl
                    have HPE := Lib.hid (below_of_below HP2.out HB.out HP2.out.size)
                    go_wp2_with fail
                    refine (of_piece p (by omega) _ ho2).mono ?_
                    rintro e w4 ⟨rfl, rfl⟩
                    go_wp2_with fail
                    go_ret
                    exact ⟨by rw [HF.out]; rfl, HPE.out⟩
                  | true =>
                    cases y with
                    | false =>
                      have HF : Hid (b = false) := by show _ = _; rw [← HR2.out]; rfl
                      go_wp2_with fail
                      refine (of_piece p (by omega) _ ho2).mono ?_
                      rintro e w4 ⟨rfl, rfl⟩
                      go_wp2_with fail
                      refine (trimEdge_any p _ (by omega) htr).mono ?_
                      rintro e w5 ⟨rfl, p5⟩
                      have HB5 := Lib.hid (below_of_below HB.out p5 HB.out.size)
                      go_wp2_with fail
                      go_ret
                      exact ⟨by rw [HF.out]; rfl, below_of_below HP2.out HB5.out HP2.out.size⟩
                    | true =>
                      have HF : Hid ((ls.drop (i + 1)).all Ck.pieceP = b) := by show _ = _; rw [← HR2.out]; rfl
                      go_wp2_with fail
                      refine (of_piece p (by omega) _ ho2).mono ?_
                      rintro e w4 ⟨rfl, rfl⟩
                      go_wp2_with fail
                      refine (trimEdge_any p _ (by omega) htr).mono ?_
                      rintro e w5 ⟨rfl, p5⟩
                      have HB5 := Lib.hid (below_of_below HB.out p5 HB.out.size)
                      clear p5
                      go_wp2_with fail
                      go_roundw
                      case rel => exact ⟨i + 1, by omega, by go_num, HF, HB5⟩
                      case measure => simp [intOf]; omega
                · have i0 : decide ((i : Int) < (ls.length : Int)) = false := by rw [decide_eq_false_iff_not]; omega
                  have HF : Hid (b = true) := by show _ = _; rw [← HR.out, List.drop_eq_nil_of_le hin]; rfl
                  have HPE := Lib.hid (below_of_below HP2.out HB.out HP2.out.size)
                  clear HR
                  go_wp2_with fail
                  go_ret
                  exact ⟨by rw [HF.out]; rfl, HPE.out⟩
end Go.Proofs.YtnlkmljdcmfogaaGreatDoor
namespace Go.Proofs.YtnlkmljdcmfogaaGreatDoor
open Go Go.RowKit
namespace Ck
/-- a step that is within the bounds of the walks. -/
def St.Small (s : St) : Prop := s.words.length + s.exec.length + s.pairs.length + s.docs.length ≤ 1050000 ∧ ∀ t ∈ textsL s, t.length ≤ 1050000
def Sg.Small (g : Sg) : Prop := g.base.length ≤ 1050000 ∧ g.name.length ≤ 1050000 ∧ ∀ s ∈ g.steps, s.Small
def Fl.Small (f : Fl) : Prop := (∀ s ∈ f.args, s.Small) ∧ (∀ g ∈ f.stages, g.Small) ∧ f.stages.length + countL f ≤ 1050000
end Ck
/-- the values of a region's operations, by their numbers. -/
def VL (l : List Value) (i : Nat) (u : Value) (_ : World) : Prop := l[i]? = some u
theorem sm_full {w : World} {v : Value} {l : List SM} (h : StsA w v l) {i : Nat} (hi : i < l.length) : ∃ (g o c : Nat) (s : Ck.St) (Ap Aw Ad Ae : Option Addr) (kp kw kd ke : Nat), v = .slice (some ⟨g, o, none⟩) l.length c ∧ l[i] = ⟨s, .slice Ap s.pairs.length kp, .slice Aw s.words.length kw, .slice Ad s.docs.length kd, .slice Ae s.exec.length ke⟩ ∧
    w.cell? ⟨g, o + i * 10, none⟩ = some (.int .i64 s.op) ∧ w.cell? ⟨g, o + i * 10 + 1, none⟩ = some (.int .i64 s.line) ∧ w.cell? ⟨g, o + i * 10 + 2, none⟩ = some (.string (bs s.from_)) ∧ w.cell? ⟨g, o + i * 10 + 3, none⟩ = some (.string (bs s.mode)) ∧ w.cell? ⟨g, o + i * 10 + 4, none⟩ = some (.bool s.force) ∧
    w.cell? ⟨g, o + i * 10 + 5, none⟩ = some (.slice Ap s.pairs.length kp) ∧ w.cell? ⟨g, o + i * 10 + 6, none⟩ = some (.bool s.bare) ∧ w.cell? ⟨g, o + i * 10 + 7, none⟩ = some (.slice Aw s.words.length kw) ∧ w.cell? ⟨g, o + i * 10 + 8, none⟩ = some (.slice Ad s.docs.length kd) ∧ w.cell? ⟨g, o + i * 10 + 9, none⟩ = some (.slice Ae s.exec.length ke) := by
  have hm := h.2 l[i] (List.getElem_mem hi)
  obtain ⟨g, o, c, hv, hc⟩ := sm_at h.1 hi
  obtain ⟨Ap, kp, e1⟩ := hm.cp.form
  obtain ⟨Aw, kw, e2⟩ := hm.cw.form
  obtain ⟨Ad, kd, e3⟩ := hm.cd.form
  obtain ⟨Ae, ke, e4⟩ := hm.ce.form
  clear hm
  generalize l[i] = m at hc e1 e2 e3 e4 ⊢
  obtain ⟨s, vp, vw, vd, ve⟩ := m
  dsimp only at e1 e2 e3 e4
  subst e1 e2 e3 e4
  exact ⟨g, o, c, s, Ap, Aw, Ad, Ae, kp, kw, kd, ke, hv, rfl, hc 0 (by omega), hc 1 (by omega), hc 2 (by omega), hc 3 (by omega), hc 4 (by omega), hc 5 (by omega), hc 6 (by omega), hc 7 (by omega), hc 8 (by omega), hc 9 (by omega)⟩
theorem gm_full {w : World} {v : Value} {l : List GM} (h : GsA w v l) {i : Nat} (hi : i < l.length) : ∃ (g o c : Nat) (G : GM) (A : Option Addr) (k : Nat), v = .slice (some ⟨g, o, none⟩) l.length c ∧ l[i] = G ∧ G.vs = .slice A G.ms.length k ∧ StsA w G.vs G.ms ∧
    w.cell? ⟨g, o + i * 4, none⟩ = some (.int .i64 G.line) ∧ w.cell? ⟨g, o + i * 4 + 1, none⟩ = some (.string (bs G.base)) ∧ w.cell? ⟨g, o + i * 4 + 2, none⟩ = some (.string (bs G.name)) ∧ w.cell? ⟨g, o + i * 4 + 3, none⟩ = some (.slice A G.ms.length k) := by
  have hm := h.2 l[i] (List.getElem_mem hi)
  obtain ⟨g, o, c, hv, hc⟩ := gm_at h.1 hi
  obtain ⟨A, k, e⟩ := hm.1.form
  exact ⟨g, o, c, l[i], A, k, hv, rfl, e, hm, hc 0 (by omega), hc 1 (by omega), hc 2 (by omega), by rw [hc 3 (by omega), ← e]; rfl⟩
theorem drop_map {α β : Type} {f : α → β} {l : List α} {i : Nat} (hi : i < l.length) : (l.map f).drop i = f l[i] :: (l.map f).drop (i + 1) := by
  rw [List.drop_eq_getElem_cons (by simpa using hi), List.getElem_map]
theorem take_name {l : List GM} {i : Nat} (hi : i < l.length) : (l.map GM.name).take (i + 1) = (l.map GM.name).take i ++ [l[i].name] := by
  rw [List.take_succ_eq_append_getElem (by simpa using hi), List.getElem_map]
theorem sum_take (l : List GM) (i : Nat) (hi : i < l.length) : ((l.take (i + 1)).map fun g => g.ms.length).sum = ((l.take i).map fun g => g.ms.length).sum + l[i].ms.length := by
  rw [List.take_add_one, List.getElem?_eq_getElem hi, List.map_append, List.sum_append]
  simp
theorem sum_take_le : ∀ (l : List GM) (i : Nat), ((l.take i).map fun g => g.ms.length).sum ≤ (l.map fun g => g.ms.length).sum
  | [], _ => by simp
  | _ :: _, 0 => by simp
  | g :: l, i + 1 => by
    have := sum_take_le l i
    simp only [List.take_succ_cons, List.map_cons, List.sum_cons]
    omega
theorem count_fl (f : FM) : Ck.countL f.fl = f.args.length + (f.stages.map fun g => g.ms.length).sum := by
  simp only [Ck.countL, FM.fl, List.length_map, List.map_map]
  congr 2
  exact List.map_congr_left fun g _ => by simp [GM.sg]
end Go.Proofs.YtnlkmljdcmfogaaGreatDoor
