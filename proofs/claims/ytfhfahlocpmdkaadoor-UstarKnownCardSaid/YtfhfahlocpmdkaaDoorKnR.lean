/- stratalaw05.read, walked. -/
import Derived.Test.YtfhfahlocpmdkaaDoorKnF
import Derived.Test.YtfhfahlocpmdkaaDoorUsQ
import Derived.Deep.RegionHeld3
import Derived.Deep.DeepCutAuto
namespace Go.Proofs.YtfhfahlocpmdkaaDoor
open Go.RowKit

theorem forged_at (p : ByteArray) (w : World) (hp : p.size ≤ 1000000000) {N : Nat} {h : Us.Hd} (H : Hid (Us.dec (forgedL ZA (bl p) 100) = (N, h))) : Calls Tryd.prog 19 #[.string (bs ZA), .int .i64 100, .string p] w fun e w' => ∃ f : ByteArray, e = .returned (.string f) ∧ Hid (Us.dec (bl f) = (N, h)) ∧ f.size ≤ 1000000 ∧ Below w.heap.size w w' := by
  refine (forged_is (bs ZA) 100 p w (by rw [bs_size]; exact ZA_len) (by decide) hp).mono ?_
  rintro e w' ⟨rfl, b⟩
  refine ⟨_, rfl, by rw [bl_bs, bl_bs]; exact H, ?_, b⟩
  have hl : (Us.oct 6 (Us.sumFrom 0 ((List.range 512).map (pieceAt (bl (bs ZA)) (bl p) 100)))).length = 6 := Us.oct_length _ _
  rw [bs_size, forgedL, putSum]
  simp [hl]
theorem plain_k (N : Nat) (k : Int) (hk : k = (N : Int)) (hN : N ≤ 32) (w : World) (hg : ErrVar w) : Calls Tryd.prog 15 #[errN N, .int .i64 k] w fun e w' => e = .returned (.bool true) ∧ Below w.heap.size w w' := by
  subst hk
  exact plain_n N hN w hg
theorem run_neq_lit (h : Us.Hd) (w : World) :
    (binOp .neq 23 (.agg #[.string (bs h.path), .int .i64 h.mode, .int .i64 h.uid, .int .i64 h.gid, .int .i64 h.size, .int .i64 h.time, .int .u8 (h.type.toNat : Int), .string (bs h.link), .string (bs h.user), .string (bs h.group), .int .i64 h.major, .int .i64 h.minor]) (.agg #[.string (bs h.path), .int .i64 h.mode, .int .i64 h.uid, .int .i64 h.gid, .int .i64 h.size, .int .i64 h.time, .int .u8 (h.type.toNat : Int), .string (bs h.link), .string (bs h.user), .string (bs h.group), .int .i64 h.major, .int .i64 h.minor])).run Tryd.prog w = .ok (.bool false) w := by
  show (binOp .neq 23 (.agg (hdC h)) (.agg (hdC h))).run Tryd.prog w = _
  rw [run_neq_struct, run_equalIn_hd, hdEq_refl]
  rfl
def H1 : Us.Hd := ⟨[97, 47, 98], 420, 0, 0, 3, 0, 48, [], [], [], 0, 0⟩
def H2 : Us.Hd := ⟨[108], 511, 0, 0, 0, 0, 50, [120], [], [], 0, 0⟩
theorem of_1 (w : World) : Calls Tryd.prog 25 #[.agg #[.string ⟨#[97, 47, 98]⟩, .int .i64 2, .int .i64 420, .string ⟨#[97, 98, 99]⟩, .string ⟨#[]⟩]] w fun e w' => e = .returned (.agg (hdC H1)) ∧ Below w.heap.size w w' :=
  of_any ⟨[97, 47, 98], 2, 420, [97, 98, 99], []⟩ w (by decide)
theorem of_2 (w : World) : Calls Tryd.prog 25 #[.agg #[.string ⟨#[108]⟩, .int .i64 3, .int .i64 511, .string ⟨#[]⟩, .string ⟨#[120]⟩]] w fun e w' => e = .returned (.agg (hdC H2)) ∧ Below w.heap.size w w' :=
  of_any ⟨[108], 3, 511, [], [120]⟩ w (by decide)
theorem eql_1 (w : World) : (binOp .eql 23 (.agg #[.string ⟨#[97, 47, 98]⟩, .int .i64 420, .int .i64 0, .int .i64 0, .int .i64 3, .int .i64 0, .int .u8 48, .string ⟨#[]⟩, .string ⟨#[]⟩, .string ⟨#[]⟩, .int .i64 0, .int .i64 0]) (.agg #[.string ⟨#[97, 47, 98]⟩, .int .i64 420, .int .i64 0, .int .i64 0, .int .i64 3, .int .i64 0, .int .u8 48, .string ⟨#[]⟩, .string ⟨#[]⟩, .string ⟨#[]⟩, .int .i64 0, .int .i64 0])).run Tryd.prog w = .ok (.bool true) w := by
  have := run_eql_hd H1 H1 w
  rw [hdEq_refl] at this
  exact this
theorem eql_2 (w : World) : (binOp .eql 23 (.agg #[.string ⟨#[108]⟩, .int .i64 511, .int .i64 0, .int .i64 0, .int .i64 0, .int .i64 0, .int .u8 50, .string ⟨#[120]⟩, .string ⟨#[]⟩, .string ⟨#[]⟩, .int .i64 0, .int .i64 0]) (.agg #[.string ⟨#[108]⟩, .int .i64 511, .int .i64 0, .int .i64 0, .int .i64 0, .int .i64 0, .int .u8 50, .string ⟨#[120]⟩, .string ⟨#[]⟩, .string ⟨#[]⟩, .int .i64 0, .int .i64 0])).run Tryd.prog w = .ok (.bool true) w := by
  have := run_eql_hd H2 H2 w
  rw [hdEq_refl] at this
  exact this
attribute [local go_sem ↓] run_neq_lit eql_1 eql_2
theorem hd_lit1 {w : World} {g : Nat} (h : Blk w g 23 (hdC H1)) : w.cell? ⟨g, 0, none⟩ = some (.string ⟨#[97, 47, 98]⟩) ∧ w.cell? ⟨g, 1, none⟩ = some (.int .i64 420) ∧ w.cell? ⟨g, 2, none⟩ = some (.int .i64 0) ∧ w.cell? ⟨g, 3, none⟩ = some (.int .i64 0) ∧ w.cell? ⟨g, 4, none⟩ = some (.int .i64 3) ∧ w.cell? ⟨g, 5, none⟩ = some (.int .i64 0) ∧ w.cell? ⟨g, 6, none⟩ = some (.int .u8 48) ∧ w.cell? ⟨g, 7, none⟩ = some (.string ⟨#[]⟩) ∧ w.cell? ⟨g, 8, none⟩ = some (.string ⟨#[]⟩) ∧ w.cell? ⟨g, 9, none⟩ = some (.string ⟨#[]⟩) ∧ w.cell? ⟨g, 10, none⟩ = some (.int .i64 0) ∧ w.cell? ⟨g, 11, none⟩ = some (.int .i64 0) :=
  ⟨h.cell 0, h.cell 1, h.cell 2, h.cell 3, h.cell 4, h.cell 5, h.cell 6, h.cell 7, h.cell 8, h.cell 9, h.cell 10, h.cell 11⟩
theorem hd_lit2 {w : World} {g : Nat} (h : Blk w g 23 (hdC H2)) : w.cell? ⟨g, 0, none⟩ = some (.string ⟨#[108]⟩) ∧ w.cell? ⟨g, 1, none⟩ = some (.int .i64 511) ∧ w.cell? ⟨g, 2, none⟩ = some (.int .i64 0) ∧ w.cell? ⟨g, 3, none⟩ = some (.int .i64 0) ∧ w.cell? ⟨g, 4, none⟩ = some (.int .i64 0) ∧ w.cell? ⟨g, 5, none⟩ = some (.int .i64 0) ∧ w.cell? ⟨g, 6, none⟩ = some (.int .u8 50) ∧ w.cell? ⟨g, 7, none⟩ = some (.string ⟨#[120]⟩) ∧ w.cell? ⟨g, 8, none⟩ = some (.string ⟨#[]⟩) ∧ w.cell? ⟨g, 9, none⟩ = some (.string ⟨#[]⟩) ∧ w.cell? ⟨g, 10, none⟩ = some (.int .i64 0) ∧ w.cell? ⟨g, 11, none⟩ = some (.int .i64 0) :=
  ⟨h.cell 0, h.cell 1, h.cell 2, h.cell 3, h.cell 4, h.cell 5, h.cell 6, h.cell 7, h.cell 8, h.cell 9, h.cell 10, h.cell 11⟩
theorem plain_7 (w : World) (hg : ErrVar w) : Calls Tryd.prog 15 #[eno 7, .int .i64 7] w fun e w' => e = .returned (.bool true) ∧ Below w.heap.size w w' :=
  plain_n 7 (by decide) w hg
theorem fst0_of {s : List UInt8} {n : Nat} (h : (Us.dec s).1 = n) (hn : n ≠ 0) : Us.dec s = (n, Us.hd0) := Prod.ext h (dec_bad0 s (by rw [h]; exact hn))
theorem k_w0 {w1 w2 : World} (hb : Below w1.drew.heap.size w1.drew w2) : Below w1.heap.size w1 w2 :=
  (Below.refl _ _).drew.trans (hb.mono (Nat.le_refl _))
theorem k_a1 {w1 w2 : World} {cs : Array Value} (hb : Below (w1.alloc (.cells cs 23)).drew.heap.size (w1.alloc (.cells cs 23)).drew w2) : Blk w2 w1.heap.size 23 cs := by
  have q := Blk.new w1 23 cs
  exact Blk.below (w := (w1.alloc (.cells cs 23)).drew) (by have := q.drewN 1; exact this) hb (by simp)
theorem carryK {w0 w w' : World} {g1 g2 : Nat} {T : TypeId} {c1 c2 : Array Value} (b : Below w.heap.size w w') (h1 : Blk w g1 T c1) (h2 : Blk w g2 T c2) (B : Below w0.heap.size w0 w) : Blk w' g1 T c1 ∧ Blk w' g2 T c2 ∧ Below w0.heap.size w0 w' :=
  ⟨h1.below b h1.lt, h2.below b h2.lt, below_of_below B b (B.size)⟩
set_option maxRecDepth 100000 in
set_option maxHeartbeats 8000000 in
theorem read_any (w : World) (hg : ErrVar w) : Calls Tryd.prog 28 #[] w fun e w' => e = .returned (.bool true) ∧ Below w.heap.size w w' := by
  have HG := Lib.hid hg
  clear hg
  obtain ⟨o1, O1⟩ : ∃ o, Hid (o = bs (reps (bl ⟨#[0]⟩) 8)) := ⟨_, rfl⟩
  obtain ⟨o2, O2⟩ : ∃ o, Hid (o = bs (reps (bl ⟨#[0]⟩) 512)) := ⟨_, rfl⟩
  have z1 : o1.size = 8 := by rw [O1.out, bs_size, reps_length]; rfl
  have z2 : o2.size = 512 := by rw [O2.out, bs_size, reps_length]; rfl
  obtain ⟨h2, D2⟩ : ∃ h, Hid (Us.dec (forgedL ZA (bl o1) 100) = (6, h)) := by rw [O1.out, bl_bs]; exact fst_of dec_z2
  obtain ⟨h3, D3⟩ : ∃ h, Hid (Us.dec (forgedL ZA (bl ⟨#[48, 48, 48, 48, 54, 52, 56, 0]⟩) 100) = (6, h)) := fst_of dec_z3
  have hzA : (bs ZA).size = 512 := by rw [bs_size]; exact ZA_len
  obtain ⟨x1, X1⟩ : ∃ x, Hid (x = (bs ZA).extract 0 156) := ⟨_, rfl⟩
  obtain ⟨x2, X2⟩ : ∃ x, Hid (x = (bs ZA).extract 157 (bs ZA).size) := ⟨_, rfl⟩
  have D4 : Hid (Us.dec (bl (x1 ++ ⟨#[53]⟩ ++ x2)) = (7, Us.hd0)) := by
    refine fst0_of ?_ (by decide)
    rw [X1.out, X2.out, hzA, ext_bs, ext_bs, show (⟨#[53]⟩ : ByteArray) = bs [53] from rfl, bs_append, bs_append, bl_bs, List.drop_zero, show (ZA.drop 157).take (512 - 157) = ZA.drop 157 from List.take_of_length_le (by rw [List.length_drop, ZA_len]; decide)]
    exact dec_z4
  have y1 : x1.size = 156 := by rw [X1.out, ByteArray.size_extract]; omega
  have y2 : x2.size = 355 := by rw [X2.out, ByteArray.size_extract]; omega
  have hs1 : ∀ wx, (Instr.slice 9 (.string (bs ZA)) none (some (.int .i64 156)) none).run Tryd.prog wx = .ok (.string x1) wx := by rw [X1.out]; exact slice_h (bs ZA) 156 156 rfl (by omega)
  have hs2 : ∀ wx, (Instr.slice 9 (.string (bs ZA)) (some (.int .i64 157)) none none).run Tryd.prog wx = .ok (.string x2) wx := by rw [X2.out]; exact slice_l (bs ZA) 157 157 rfl (by omega)
  obtain ⟨h5, D5⟩ : ∃ h, Hid (Us.dec (bl ((bs ZA).extract 0 511)) = (2, h)) := by
    rw [ext_bs, bl_bs, List.drop_zero]
    exact fst_of dec_z5
  obtain ⟨h6, D6⟩ : ∃ h, Hid (Us.dec (bl (bs ZA ++ ⟨#[0]⟩)) = (3, h)) := by
    rw [show (⟨#[0]⟩ : ByteArray) = bs [0] from rfl, bs_append, bl_bs]
    exact fst_of dec_z6
  obtain ⟨h7, D7⟩ : ∃ h, Hid (Us.dec (bl o2) = (4, h)) := by rw [O2.out, bl_bs]; exact fst_of dec_z7
  have q1 : (156 : Int) ≤ ((bs ZA).size : Int) := by omega
  have q2 : (157 : Int) ≤ ((bs ZA).size : Int) := by omega
  have q3 : (511 : Int) ≤ ((bs ZA).size : Int) := by omega
  have s4 : Hid ((x1 ++ ⟨#[53]⟩ ++ x2).size ≤ 1000000000) := by
    show _ ≤ _
    rw [ByteArray.size_append, ByteArray.size_append, y1, y2]
    decide
  have s5 : Hid (((bs ZA).extract 0 511).size ≤ 1000000000) := by show _ ≤ _; rw [ByteArray.size_extract]; omega
  have s6 : Hid ((bs ZA ++ ⟨#[0]⟩).size ≤ 1000000000) := by show _ ≤ _; rw [ByteArray.size_append, show (⟨#[0]⟩ : ByteArray).size = 1 from rfl]; omega
  go_enter Tryd.func28, Tryd.ntmps28
  go_wp2_with (refine wpList_store_hd rfl _ _ rfl w.heap.size zH rfl rfl Us.hd0 (Blk.new _ _ _) ?_; intro w1 hB1 hb1 hz1; have B1 : Below w.heap.size w w1 := ((Below.refl _ _).alloc (Nat.le_refl _) _).trans hb1; clear hb1 hz1; obtain ⟨Z, ZS, ZE, ZD, hB1⟩ : ∃ Z, Short Z ∧ Hid (Us.enc Z = (0, ZA)) ∧ Hid (Us.dec (forgedL ZA (bl ⟨#[32, 32, 32, 54, 52, 52, 32, 32]⟩) 100) = (0, Z)) ∧ Blk w1 w.heap.size 23 (hdC Z) := ⟨zH, short_zH, enc_ZA, dec_z1, hB1⟩; obtain ⟨c0, c1, c2, c3, c4, c5, c6, c7, c8, c9, c10, c11, -, -, -, -, -, -, -, -, -, -, -, -⟩ := cells12 hB1)
  refine (refEnc_at Z _ ZS ZE).mono ?_
  rintro e w2 ⟨rfl, b2⟩
  clear c0 c1 c2 c3 c4 c5 c6 c7 c8 c9 c10 c11
  have hB2 := hB1.below b2 hB1.lt
  have B2 := below_of_below B1 b2 B1.size
  clear b2 hB1
  go_wp2_with fail
  refine (forged_at _ _ (by decide) ZD).mono ?_
  rintro e w3 ⟨f, rfl, hf, hfz, b3⟩
  have hB3 := hB2.below b3 hB2.lt
  have B3 := below_of_below B2 b3 B2.size
  clear b3 hB2
  go_wp2_with fail
  refine (dec_ok_at _ _ (by omega) hf).mono ?_
  rintro e w4 ⟨rfl, b4⟩
  have hB4 := hB3.below b4 hB3.lt
  have B4 := below_of_below B3 b4 B3.size
  clear b4 hB3 hf hfz
  go_wp2_with (first | (refine wpList_store_hd rfl _ _ rfl w4.heap.size Z rfl rfl Us.hd0 (Blk.new _ _ _) ?_; intro w5 hA5 hb5 hz5; have b5 : Below w4.heap.size w4 w5 := ((Below.refl _ _).alloc (Nat.le_refl _) _).trans hb5; have hB5 := hB4.below b5 hB4.lt; have B5 := below_of_below B4 b5 B4.size; clear hb5 hz5 b5 hB4) | (go_at_call 51; (with_reducible refine (times_o ⟨#[0]⟩ 8 8 rfl _ (by decide) (by decide) O1).mono ?_); rintro e w6 ⟨rfl, rfl⟩))
  refine (forged_at o1 _ (by omega) D2).mono ?_
  rintro e w6 ⟨f, rfl, hf, hfz, b6⟩
  obtain ⟨hB6, hA6, B6⟩ := carryK b6 hB5 hA5 B5
  clear b6 hA5 hB5
  go_wp2_with fail
  refine (dec_at _ _ (by omega) hf).mono ?_
  rintro e w7 ⟨rfl, b7⟩
  obtain ⟨hB7, hA7, B7⟩ := carryK b7 hB6 hA6 B6
  clear b7 hB6 hA6 hf hfz
  go_wp2_with (refine wpList_store_hd rfl _ _ rfl w7.heap.size h2 rfl rfl Us.hd0 (Blk.new _ _ _) ?_; intro w8 hX8 hb8 hz8; have b8 : Below w7.heap.size w7 w8 := ((Below.refl _ _).alloc (Nat.le_refl _) _).trans hb8; obtain ⟨hB8, hA8, B8⟩ := carryK b8 hB7 hA7 B7; clear hb8 hz8 b8 hB7 hA7 hX8)
  refine (forged_at _ _ (by decide) D3).mono ?_
  rintro e w9 ⟨f, rfl, hf, hfz, b9⟩
  obtain ⟨hB9, hA9, B9⟩ := carryK b9 hB8 hA8 B8
  clear b9 hA8 hB8
  go_wp2_with fail
  refine (dec_at _ _ (by omega) hf).mono ?_
  rintro e wa ⟨rfl, ba⟩
  obtain ⟨hBa, hAa, Ba⟩ := carryK ba hB9 hA9 B9
  clear ba hB9 hA9 hf hfz
  go_upto_region 6 with (refine wpList_store_hd rfl _ _ rfl wa.heap.size h3 rfl rfl Us.hd0 (Blk.new _ _ _) ?_; intro wb hXb hbb hzb; have bb : Below wa.heap.size wa wb := ((Below.refl _ _).alloc (Nat.le_refl _) _).trans hbb; obtain ⟨hBb, hAb, Bb⟩ := carryK bb hBa hAa Ba; clear hbb hzb bb hBa hAa hXb)
  have BB := Below.refl wb.heap.size wb
  have le1 := BB.size
  have q4 : (0 : Int) ≤ ((bs ZA).size : Int) := by omega
  go_cut [11] (fun s11 wx => s11 = eno 7 ∧ Below wb.heap.size wb wx)
  case first =>
    clear X1 X2 hBb hAb Bb hzA z1 O1 D2 D3 ZE ZD ZS hB1 B1 B2 B3 B4 B5 B6 B7 B8 B9 Ba D5 D6 D7 s5 s6 O2 z2 HG q3
    go_region_with (go_at_call 18; refine (dec_bad_lit _ _ s4.out (by decide) D4).mono ?_; rintro e w2 ⟨rfl, hb0⟩; (first | (have hBB := below_of_below BB (one_w1 hb0) le1; have hA := k_a1 (cs := hdC Us.hd0) hb0; obtain ⟨c0, c1, c2, c3, c4, c5, c6, c7, c8, c9, c10, c11, f0, f1, f2, f3, f4, f5, f6, f7, f8, f9, f10, f11⟩ := cells12 hA) | (have hBB := below_of_below BB (k_w0 hb0) le1)))
    all_goals (go_wp2_with fail; go_meet; refine ⟨rfl, ?_⟩; (repeat (with_reducible refine Below.setCell ?_ (by first | exact le1 | exact Nat.le_succ_of_le le1) _)); first | (with_reducible exact hBB) | (with_reducible exact Below.alloc hBB hBB.size _))
  case rest =>
    obtain ⟨rfl, bb⟩ := hcut
    obtain ⟨hBc, hAc, Bc⟩ := carryK bb hBb hAb Bb
    clear bb hBb hAb Bb BB le1 D4 s4 X1 X2 y1 y2 hs1 hs2 q1 q2 O1 z1 D2 D3 ZE ZD ZS hB1 B1 B2 B3 B4 B5 B6 B7 B8 B9 Ba
    go_wp2_with fail
    refine (dec_at _ _ s5.out D5).mono ?_
    rintro e wd ⟨rfl, bd⟩
    obtain ⟨hBd, hAd, Bd⟩ := carryK bd hBc hAc Bc
    clear bd hBc hAc Bc
    go_wp2_with (refine wpList_store_hd rfl _ _ rfl wd.heap.size h5 rfl rfl Us.hd0 (Blk.new _ _ _) ?_; intro we hXe hbe hze; have be : Below wd.heap.size wd we := ((Below.refl _ _).alloc (Nat.le_refl _) _).trans hbe; obtain ⟨hBe, hAe, Be⟩ := carryK be hBd hAd Bd; clear hbe hze be hBd hAd hXe Bd)
    refine (dec_at _ _ s6.out D6).mono ?_
    rintro e wf ⟨rfl, bf⟩
    obtain ⟨hBf, hAf, Bf⟩ := carryK bf hBe hAe Be
    clear bf hBe hAe Be
    go_wp2_with (first | (refine wpList_store_hd rfl _ _ rfl wf.heap.size h6 rfl rfl Us.hd0 (Blk.new _ _ _) ?_; intro wg hXg hbg hzg; have bg : Below wf.heap.size wf wg := ((Below.refl _ _).alloc (Nat.le_refl _) _).trans hbg; obtain ⟨hBg, hAg, Bg⟩ := carryK bg hBf hAf Bf; clear hbg hzg bg hBf hAf hXg Bf) | (go_at_call 51; (with_reducible refine (times_o ⟨#[0]⟩ 512 512 rfl _ (by decide) (by decide) O2).mono ?_); rintro e w6 ⟨rfl, rfl⟩))
    refine (dec_at o2 _ (by omega) D7).mono ?_
    rintro e wh ⟨rfl, bh⟩
    obtain ⟨hBh, hAh, Bh⟩ := carryK bh hBg hAg Bg
    clear bh hBg hAg Bg
    go_upto_region 10 with (refine wpList_store_hd rfl _ _ rfl wh.heap.size h7 rfl rfl Us.hd0 (Blk.new _ _ _) ?_; intro wi hXi hbi hzi; have bi : Below wh.heap.size wh wi := ((Below.refl _ _).alloc (Nat.le_refl _) _).trans hbi; obtain ⟨hBi, hAi, Bi⟩ := carryK bi hBh hAh Bh; clear hbi hzi bi hBh hAh hXi Bh)
    clear D5 D6 D7 s5 s6 O2 z2 hzA q3 q4
    obtain ⟨c0, c1, c2, c3, c4, c5, c6, c7, c8, c9, c10, c11, -, -, -, -, -, -, -, -, -, -, -, -⟩ := cells12 hBi
    obtain ⟨d0, d1, d2, d3, d4, d5, d6, d7, d8, d9, d10, d11, -, -, -, -, -, -, -, -, -, -, -, -⟩ := cells12 hAi
    have G1 := HG.out.below Bi HG.out.lt
    go_wp2_with fail
    refine (plain_k 6 6 rfl (by decide) _ G1).mono ?_
    rintro e wj ⟨rfl, bj⟩
    have Bj := below_of_below Bi bj Bi.size
    clear c0 c1 c2 c3 c4 c5 c6 c7 c8 c9 c10 c11 d0 d1 d2 d3 d4 d5 d6 d7 d8 d9 d10 d11 G1 hBi hAi Bi bj
    have G1 := HG.out.below Bj HG.out.lt
    go_wp2_with fail
    refine (plain_k 6 6 rfl (by decide) _ G1).mono ?_
    rintro e wk ⟨rfl, bk⟩
    have Bk := below_of_below Bj bk Bj.size
    clear bk Bj G1
    have G1 := HG.out.below Bk HG.out.lt
    go_wp2_with fail
    refine (plain_7 _ G1).mono ?_
    rintro e wl ⟨rfl, bl⟩
    have Bl := below_of_below Bk bl Bk.size
    clear bl Bk G1
    have G1 := HG.out.below Bl HG.out.lt
    go_wp2_with fail
    refine (plain_k 2 2 rfl (by decide) _ G1).mono ?_
    rintro e wm ⟨rfl, bm⟩
    have Bm := below_of_below Bl bm Bl.size
    clear bm Bl G1
    have G1 := HG.out.below Bm HG.out.lt
    go_wp2_with fail
    refine (plain_k 3 3 rfl (by decide) _ G1).mono ?_
    rintro e wn ⟨rfl, bn⟩
    have Bn := below_of_below Bm bn Bm.size
    clear bn Bm G1
    have G1 := HG.out.below Bn HG.out.lt
    go_wp2_with fail
    refine (plain_k 4 4 rfl (by decide) _ G1).mono ?_
    rintro e wo ⟨rfl, bo⟩
    have Bo := below_of_below Bn bo Bn.size
    clear bo Bn G1
    go_wp2_with fail
    refine (of_1 _).mono ?_
    rintro e wp ⟨rfl, bp⟩
    have Bp := below_of_below Bo bp Bo.size
    clear bp Bo
    go_wp2_with (refine wpList_store_hd rfl _ _ rfl wp.heap.size H1 rfl rfl Us.hd0 (Blk.new _ _ _) ?_; intro wq hAq hbq hzq; have bq : Below wp.heap.size wp wq := ((Below.refl _ _).alloc (Nat.le_refl _) _).trans hbq; have Bq := below_of_below Bp bq Bp.size; clear hbq hzq bq Bp)
    refine (of_2 _).mono ?_
    rintro e wr ⟨rfl, br⟩
    have hAr := hAq.below br hAq.lt
    have Br := below_of_below Bq br Bq.size
    clear br Bq hAq
    go_wp2_with (refine wpList_store_hd rfl _ _ rfl wr.heap.size H2 rfl rfl Us.hd0 (Blk.new _ _ _) ?_; intro ws hBs hbs hzs; have bs : Below wr.heap.size wr ws := ((Below.refl _ _).alloc (Nat.le_refl _) _).trans hbs; have hAs := hAr.below bs hAr.lt; have Bs := below_of_below Br bs Br.size; clear hbs hzs bs Br; obtain ⟨c0, c1, c2, c3, c4, c5, c6, c7, c8, c9, c10, c11⟩ := hd_lit1 hAs; obtain ⟨d0, d1, d2, d3, d4, d5, d6, d7, d8, d9, d10, d11⟩ := hd_lit2 hBs)
    go_ret
    exact ⟨rfl, Bs⟩
end Go.Proofs.YtfhfahlocpmdkaaDoor
