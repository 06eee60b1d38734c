/- stratalaw05.UstarOne, walked: of all inputs, true. -/
import Derived.Test.YtfhfahlocpmdkaaDoorUsY
import Derived.Test.YtfhfahlocpmdkaaDoorUsH
import Derived.Test.YtfhfahlocpmdkaaDoorPick
import Derived.Deep.RegionLaw
import Derived.Deep.RegionWith
import Derived.Deep.DeepCutAuto
namespace Go.Proofs.YtfhfahlocpmdkaaDoor
open Go.RowKit
attribute [local go_sem ↓] Go.wp_at_zero Go.wp_at_succ

theorem pick_h (k n : Int) (hn : n ≤ 1000000000) (h1 : 1 ≤ n) (hk1 : -9223372036854775808 ≤ k) (hk2 : k ≤ 9223372036854775807) {m : Int} (hm : Hid (pick k n = m)) (w : World) :
    Calls Tryd.prog 20 #[.int .i64 k, .int .i64 n] w fun e w' => e = .returned (.int .i64 m) ∧ w = w' := by
  have := pick_any k n hn h1 hk1 hk2 w
  rwa [hm.out] at this
theorem dec_bad0 (s : List UInt8) (h : (Us.dec s).1 ≠ 0) : (Us.dec s).2 = Us.hd0 := by
  unfold Us.dec at h ⊢
  repeat' split
  all_goals first | rfl | (exfalso; simp_all)
theorem slice_l (s : ByteArray) (a : Nat) (ai : Int) (ha : ai = (a : Int)) (has : a ≤ s.size) : ∀ wx, (Instr.slice 9 (.string s) (some (.int .i64 ai)) none none).run Tryd.prog wx = .ok (.string (s.extract a s.size)) wx := by
  subst ha
  intro wx
  rw [run_slice_string_l (ht := Tryd.underlying9) (h0 := by omega) (h1 := by omega)]
  simp
/-- one byte is another: what is read. -/
theorem one_dec {h : Us.Hd} {B : List UInt8} {m : Nat} {c : UInt8} (e : Us.enc h = (0, B)) (hl : B.length = 512) (hm : m < 512) (hne : (bs B)[m]'(by rw [bs_size]; omega) ≠ c) (hat : m < 148 ∨ 156 ≤ m) :
    ∃ N, 1 ≤ N ∧ N ≤ 32 ∧ Us.dec (bl ((bs B).extract 0 m ++ tS c ++ (bs B).extract (m + 1) (bs B).size)) = (N, Us.hd0) := by
  have hb : bl ((bs B).extract 0 m ++ tS c ++ (bs B).extract (m + 1) (bs B).size) = B.take m ++ c :: B.drop (m + 1) := by
    rw [bl_append, bl_append, bl_extract, bl_from, bl_bs, List.drop_zero, Nat.sub_zero, List.append_assoc]
    rfl
  have he : (Us.enc h).1 = 0 := by rw [e]
  have hmB : m < B.length := by omega
  have hs : (Us.enc h).2 = B.take m ++ B[m] :: B.drop (m + 1) := by
    rw [e, List.getElem_cons_drop, List.take_append_drop]
  have hd := Us.dec_one (c := c) he hs hne (by rw [List.length_take]; omega)
  rw [hb]
  exact ⟨_, hd.1, by omega, Prod.ext rfl (dec_bad0 _ (by omega))⟩
theorem dec_bad_lit (s : ByteArray) (w : World) (hs : s.size ≤ 1000000000) {n : Nat} (hn : n ≠ 0) (H : Hid (Us.dec (bl s) = (n, Us.hd0))) : Calls Tryd.prog 18 #[.string s] w fun e w' => e = .returned (.tuple #[.agg #[.string ⟨#[]⟩, .int .i64 0, .int .i64 0, .int .i64 0, .int .i64 0, .int .i64 0, .int .u8 0, .string ⟨#[]⟩, .string ⟨#[]⟩, .string ⟨#[]⟩, .int .i64 0, .int .i64 0], eno (n : Int)]) ∧ Below w.heap.size w w' := dec_bad_at s w hs hn H
theorem one_w1 {w1 w2 : World} {o : Obj} (hb : Below (w1.alloc o).drew.heap.size (w1.alloc o).drew w2) : Below w1.heap.size w1 w2 :=
  ((Below.refl _ _).alloc (Nat.le_refl _) _).drew.trans (hb.mono (by simp))
theorem one_w2 {w1 w2 : World} {o o' : Obj} (hb : Below ((w1.alloc o).alloc o').drew.heap.size ((w1.alloc o).alloc o').drew w2) : Below w1.heap.size w1 w2 :=
  (((Below.refl _ _).alloc (Nat.le_refl _) _).alloc (by simp) _).drew.trans (hb.mono (by simp; omega))
theorem one_a2 {w1 w2 : World} {o : Obj} {cs : Array Value} (hb : Below ((w1.alloc o).alloc (.cells cs 23)).drew.heap.size ((w1.alloc o).alloc (.cells cs 23)).drew w2) : Blk w2 (w1.heap.size + 1) 23 cs := by
  have q := Blk.new (w1.alloc o) 23 cs
  have z : (w1.alloc o).heap.size = w1.heap.size + 1 := by simp
  rw [z] at q
  exact Blk.below (w := ((w1.alloc o).alloc (.cells cs 23)).drew) (by have := q.drewN 1; exact this) hb (by simp)
theorem one_a3 {w1 w2 : World} {o : Obj} {cs : Array Value} (hb : Below ((w1.alloc (.cells cs 23)).alloc o).drew.heap.size ((w1.alloc (.cells cs 23)).alloc o).drew w2) : Blk w2 w1.heap.size 23 cs := by
  have q := (Blk.new w1 23 cs).alloc o
  exact Blk.below (w := ((w1.alloc (.cells cs 23)).alloc o).drew) (by have := q.drewN 1; exact this) hb (by simp; omega)
theorem conv2 (W : World) (c : UInt8) (o : Obj) : (convert 42 9 (.slice (some ⟨W.heap.size, 0, none⟩) 1 1)).run Tryd.prog ((W.alloc (.cells #[.int .u8 (c.toNat : Int)] 5)).alloc o).drew = .ok (.string (tS c)) ((W.alloc (.cells #[.int .u8 (c.toNat : Int)] 5)).alloc o).drew :=
  One.conv (One.new (W := W) (((Below.refl _ _).alloc (Nat.le_refl _) _).drew))
theorem conv3 (W : World) (c : UInt8) (o : Obj) : (convert 42 9 (.slice (some ⟨W.heap.size + 1, 0, none⟩) 1 1)).run Tryd.prog ((W.alloc o).alloc (.cells #[.int .u8 (c.toNat : Int)] 5)).drew = .ok (.string (tS c)) ((W.alloc o).alloc (.cells #[.int .u8 (c.toNat : Int)] 5)).drew := by
  have z : (W.alloc o).heap.size = W.heap.size + 1 := by simp
  have := One.new (W := W.alloc o) (c := c) (T := 5) ((Below.refl _ _).drew)
  rw [z] at this
  exact this.conv
set_option maxRecDepth 100000 in
set_option maxHeartbeats 8000000 in
theorem lawOne (h : Us.Hd) (k : Int) (c : UInt8) (w : World) (hs : Short h) (hk1 : -9223372036854775808 ≤ k) (hk2 : k ≤ 9223372036854775807) (hg : ErrVar w) : Calls Tryd.prog 8 #[.agg (hdC h), .int .i64 k, .int .u8 (c.toNat : Int)] w fun e w' => e = .returned (.bool true) ∧ Below w.heap.size w w' := by
  have HG := Lib.hid hg
  clear hg
  unfold hdC
  rcases enc_cases h with ⟨B, e1, e2, _⟩ | ⟨N, hN, e1⟩
  · have E1 := Lib.hid e1
    have hz : (bs B).size = 512 := by rw [bs_size]; exact e2
    obtain ⟨m, hm, hm2⟩ : ∃ m : Nat, pick k 512 = (m : Int) ∧ m < 512 := by
      have := pick_range k 512 (by omega)
      exact ⟨(pick k 512).toNat, by omega, by omega⟩
    have HM := Lib.hid hm
    have m0 : (0 : Int) ≤ (m : Int) := by omega
    have m1 : (m : Int) < ((bs B).size : Int) := by omega
    have m2 : m < (bs B).size := by omega
    have hby : ((bs B)[m]).toNat < 256 := ((bs B)[m]).toNat_lt
    have hz1 : (bs B).size ≤ 512 := by omega
    have hz2 : 512 ≤ (bs B).size := by omega
    have hzb : (((bs B).size : Int) != 512) = false := by rw [hz]; rfl
    clear hm hz
    by_cases hin : 148 ≤ m ∧ m < 156
    · have t1 : decide ((148 : Int) ≤ (m : Int)) = true := by simp; omega
      have t2 : decide ((m : Int) < 156) = true := by simp; omega
      clear hin e1
      go_enter Tryd.func8, Tryd.ntmps8
      go_wp2_with fail
      refine (enc_ok_at h _ hs E1).mono ?_
      rintro e w1 ⟨rfl, b1⟩
      obtain ⟨hh1, B1⟩ := new_hd w h b1
      have G1 := HG.out.below B1 HG.out.lt
      clear b1
      go_wp2_with (first | (go_at_call 20; refine (pick_h k 512 (by omega) (by omega) hk1 hk2 HM _).mono ?_; rintro e w2 ⟨rfl, rfl⟩) | (go_at_call 16; refine (works_any _ G1).mono ?_; rintro e w5 ⟨rfl, b5⟩))
      go_ret
      exact ⟨rfl, below_of_below B1 b5 B1.size⟩
    · by_cases heq : (bs B)[m] = c
      · have t3 : (((bs B)[m].toNat : Int) == (c.toNat : Int)) = true := by simp [heq]
        rcases (show m < 148 ∨ (148 ≤ m ∧ 156 ≤ m) by omega) with q | ⟨q, q2⟩
        · have t1 : decide ((148 : Int) ≤ (m : Int)) = false := by simp; omega
          clear hin e1 heq
          go_enter Tryd.func8, Tryd.ntmps8
          go_wp2_with fail
          refine (enc_ok_at h _ hs E1).mono ?_
          rintro e w1 ⟨rfl, b1⟩
          obtain ⟨hh1, B1⟩ := new_hd w h b1
          have G1 := HG.out.below B1 HG.out.lt
          clear b1
          go_wp2_with (first | (go_at_call 20; refine (pick_h k 512 (by omega) (by omega) hk1 hk2 HM _).mono ?_; rintro e w2 ⟨rfl, rfl⟩) | (go_at_call 16; refine (works_any _ G1).mono ?_; rintro e w5 ⟨rfl, b5⟩))
          go_ret
          exact ⟨rfl, below_of_below B1 b5 B1.size⟩
        · have t1 : decide ((148 : Int) ≤ (m : Int)) = true := by simp; omega
          have t2 : decide ((m : Int) < 156) = false := by simp; omega
          clear hin e1 heq
          go_enter Tryd.func8, Tryd.ntmps8
          go_wp2_with fail
          refine (enc_ok_at h _ hs E1).mono ?_
          rintro e w1 ⟨rfl, b1⟩
          obtain ⟨hh1, B1⟩ := new_hd w h b1
          have G1 := HG.out.below B1 HG.out.lt
          clear b1
          go_wp2_with (first | (go_at_call 20; refine (pick_h k 512 (by omega) (by omega) hk1 hk2 HM _).mono ?_; rintro e w2 ⟨rfl, rfl⟩) | (go_at_call 16; refine (works_any _ G1).mono ?_; rintro e w5 ⟨rfl, b5⟩))
          go_ret
          exact ⟨rfl, below_of_below B1 b5 B1.size⟩
      · have t3 : (((bs B)[m].toNat : Int) == (c.toNat : Int)) = false := by
          simp only [beq_eq_false_iff_ne, ne_eq]
          exact fun hq => heq (UInt8.toNat_inj.1 (by omega))
        obtain ⟨N, n1, n2, hD⟩ := one_dec e1 e2 hm2 heq (by omega)
        have HD := Lib.hid hD
        have hsl1 := slice_h (bs B) m (m : Int) rfl (by omega)
        have hsl2 := slice_l (bs B) (m + 1) ((m : Int) + 1) (by omega) (by omega)
        rcases (show m < 148 ∨ (148 ≤ m ∧ 156 ≤ m) by omega) with q | ⟨q, q2⟩
        · have t1 : decide ((148 : Int) ≤ (m : Int)) = false := by simp; omega
          clear hin e1 heq hD
          go_enter Tryd.func8, Tryd.ntmps8
          go_wp2_with fail
          refine (enc_ok_at h _ hs E1).mono ?_
          rintro e w1 ⟨rfl, b1⟩
          obtain ⟨hh1, B1⟩ := new_hd w h b1
          have G1 := HG.out.below B1 HG.out.lt
          clear b1
          go_wp2_with (first | (go_at_call 20; refine (pick_h k 512 (by omega) (by omega) hk1 hk2 HM _).mono ?_; rintro e w2 ⟨rfl, rfl⟩) | (go_at_call 16; refine (works_any _ G1).mono ?_; rintro e w5 ⟨rfl, b5⟩))
          have cv1 := conv_drew w1 c 5
          have cv2 := conv2 w1 c
          have cv3 := conv3 w1 c
          have hszd : ((bs B).extract 0 m ++ tS c ++ (bs B).extract (m + 1) (bs B).size).size ≤ 1000000000 := by
            rw [ByteArray.size_append, ByteArray.size_append, ByteArray.size_extract, ByteArray.size_extract, tS_size]; omega
          have HSZ := Lib.hid hszd
          have hts := tS_size
          have le1 := B1.size
          clear hszd e2
          have hwr : IntKind.i64.wrap ((m : Int) + 1) = (m : Int) + 1 := IntWalk.i64_in _ (by omega)
          have hwz : (0 : Int) ≤ (m : Int) + 1 := by omega
          have hwn : (m : Int) + 1 ≤ ((bs B).size : Int) := by omega
          go_cut [10] (fun s10 wx => s10 = eno (N : Int) ∧ Below w.heap.size w wx)
          case first =>
            go_region_with (go_at_call 18; refine (dec_bad_lit _ _ HSZ.out (by omega) HD).mono ?_; rintro e w2 ⟨rfl, hb0⟩; (first | (have hBB := below_of_below B1 (one_w1 hb0) le1) | (have hBB := below_of_below B1 (one_w2 hb0) le1; have hA := one_a2 (cs := hdC Us.hd0) hb0; obtain ⟨c0, c1, c2, c3, c4, c5, c6, c7, c8, c9, c10, c11, f0, f1, f2, f3, f4, f5, f6, f7, f8, f9, f10, f11⟩ := cells12 hA) | (have hBB := below_of_below B1 (one_w2 hb0) le1; have hA := one_a3 (cs := hdC Us.hd0) hb0; obtain ⟨c0, c1, c2, c3, c4, c5, c6, c7, c8, c9, c10, c11, f0, f1, f2, f3, f4, f5, f6, f7, f8, f9, f10, f11⟩ := cells12 hA)))
            all_goals (go_wp2_with fail; go_meet; refine ⟨rfl, ?_⟩; (repeat (with_reducible refine Below.setCell ?_ (by first | exact le1 | exact Nat.le_succ_of_le le1) _)); first | (with_reducible exact hBB) | (with_reducible exact Below.alloc hBB hBB.size _))
          case rest =>
            obtain ⟨rfl, hBB⟩ := hcut
            have GG := HG.out.below hBB HG.out.lt
            have hgt : decide ((0 : Int) < (N : Int)) = true := by simp; omega
            go_wp2_with fail
            refine (num_of _ _ (N : Int) (isNum_eno (N : Int)) (by omega) (by omega) _).mono ?_
            rintro e w6 ⟨rfl, b6⟩
            have B6 := below_of_below hBB b6 hBB.size
            have G6 := HG.out.below B6 HG.out.lt
            go_wp2_with (go_at_call 16; refine (works_any _ G6).mono ?_; rintro e w7 ⟨rfl, b7⟩)
            go_ret
            exact ⟨rfl, below_of_below B6 b7 B6.size⟩
        · have t1 : decide ((148 : Int) ≤ (m : Int)) = true := by simp; omega
          have t2 : decide ((m : Int) < 156) = false := by simp; omega
          clear hin e1 heq hD
          go_enter Tryd.func8, Tryd.ntmps8
          go_wp2_with fail
          refine (enc_ok_at h _ hs E1).mono ?_
          rintro e w1 ⟨rfl, b1⟩
          obtain ⟨hh1, B1⟩ := new_hd w h b1
          have G1 := HG.out.below B1 HG.out.lt
          clear b1
          go_wp2_with (first | (go_at_call 20; refine (pick_h k 512 (by omega) (by omega) hk1 hk2 HM _).mono ?_; rintro e w2 ⟨rfl, rfl⟩) | (go_at_call 16; refine (works_any _ G1).mono ?_; rintro e w5 ⟨rfl, b5⟩))
          have cv1 := conv_drew w1 c 5
          have cv2 := conv2 w1 c
          have cv3 := conv3 w1 c
          have hszd : ((bs B).extract 0 m ++ tS c ++ (bs B).extract (m + 1) (bs B).size).size ≤ 1000000000 := by
            rw [ByteArray.size_append, ByteArray.size_append, ByteArray.size_extract, ByteArray.size_extract, tS_size]; omega
          have HSZ := Lib.hid hszd
          have hts := tS_size
          have le1 := B1.size
          clear hszd e2
          have hwr : IntKind.i64.wrap ((m : Int) + 1) = (m : Int) + 1 := IntWalk.i64_in _ (by omega)
          have hwz : (0 : Int) ≤ (m : Int) + 1 := by omega
          have hwn : (m : Int) + 1 ≤ ((bs B).size : Int) := by omega
          go_cut [10] (fun s10 wx => s10 = eno (N : Int) ∧ Below w.heap.size w wx)
          case first =>
            go_region_with (go_at_call 18; refine (dec_bad_lit _ _ HSZ.out (by omega) HD).mono ?_; rintro e w2 ⟨rfl, hb0⟩; (first | (have hBB := below_of_below B1 (one_w1 hb0) le1) | (have hBB := below_of_below B1 (one_w2 hb0) le1; have hA := one_a2 (cs := hdC Us.hd0) hb0; obtain ⟨c0, c1, c2, c3, c4, c5, c6, c7, c8, c9, c10, c11, f0, f1, f2, f3, f4, f5, f6, f7, f8, f9, f10, f11⟩ := cells12 hA) | (have hBB := below_of_below B1 (one_w2 hb0) le1; have hA := one_a3 (cs := hdC Us.hd0) hb0; obtain ⟨c0, c1, c2, c3, c4, c5, c6, c7, c8, c9, c10, c11, f0, f1, f2, f3, f4, f5, f6, f7, f8, f9, f10, f11⟩ := cells12 hA)))
            all_goals (go_wp2_with fail; go_meet; refine ⟨rfl, ?_⟩; (repeat (with_reducible refine Below.setCell ?_ (by first | exact le1 | exact Nat.le_succ_of_le le1) _)); first | (with_reducible exact hBB) | (with_reducible exact Below.alloc hBB hBB.size _))
          case rest =>
            obtain ⟨rfl, hBB⟩ := hcut
            have GG := HG.out.below hBB HG.out.lt
            have hgt : decide ((0 : Int) < (N : Int)) = true := by simp; omega
            go_wp2_with fail
            refine (num_of _ _ (N : Int) (isNum_eno (N : Int)) (by omega) (by omega) _).mono ?_
            rintro e w6 ⟨rfl, b6⟩
            have B6 := below_of_below hBB b6 hBB.size
            have G6 := HG.out.below B6 HG.out.lt
            go_wp2_with (go_at_call 16; refine (works_any _ G6).mono ?_; rintro e w7 ⟨rfl, b7⟩)
            go_ret
            exact ⟨rfl, below_of_below B6 b7 B6.size⟩
  · have E1 := Lib.hid e1
    clear e1
    go_enter Tryd.func8, Tryd.ntmps8
    go_wp2_with fail
    refine (enc_bad_at h _ hs hN E1).mono ?_
    rintro e w1 ⟨rfl, b1⟩
    obtain ⟨hh1, B1⟩ := new_hd w h b1
    have G1 := HG.out.below B1 HG.out.lt
    clear b1
    go_wp2_with (go_at_call 16; refine (works_any _ G1).mono ?_; rintro e w5 ⟨rfl, b5⟩)
    go_ret
    exact ⟨rfl, below_of_below B1 b5 B1.size⟩
end Go.Proofs.YtfhfahlocpmdkaaDoor
