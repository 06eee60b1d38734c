/- stratalaw18.works: check answers as it shall at three files and two texts. -/
import Derived.Test.YtdaejggcjjdhkaaGreatDoorCkFile
import Derived.Test.YtdaejggcjjdhkaaGreatDoorMkB
import Derived.Test.YtdaejggcjjdhkaaGreatDoorMkF
import Derived.Test.YtdaejggcjjdhkaaGreatDoorCkSl
namespace Go.Proofs.YtdaejggcjjdhkaaGreatDoor
open Go Go.RowKit Go.Extern.Stop Go.Stop Go.Extern
theorem small_right : Ck.right.Small := ⟨(fun _ h => by cases h), fun g hg => by
  rw [Ck.right, List.mem_singleton] at hg
  subst hg
  exact ⟨by decide, by decide, fun s hs => by rw [List.mem_singleton] at hs; subst hs; exact ⟨by decide, by decide⟩⟩, by decide⟩
theorem small_wrong : Ck.wrong.Small := ⟨(fun _ h => by cases h), fun g hg => by
  rw [Ck.wrong, List.mem_singleton] at hg
  subst hg
  exact ⟨by decide, by decide, fun s hs => by cases hs⟩, by decide⟩
theorem small_none : Ck.Fl.Small ⟨92, [], []⟩ := ⟨(fun _ h => by cases h), (fun _ h => by cases h), by decide⟩
/-- works' files in memory. -/
def rightM (h : Nat) : FM := ⟨92, .slice none 0 0, [], .slice (some ⟨h + 1 + 1, 0, none⟩) 1 1, [⟨1, Ck.scratch, [], .slice (some ⟨h + 1, 0, none⟩) 1 1, [⟨⟨2, 2, [], [], false, [⟨[65], [39, 120, 39]⟩], false, [], [], []⟩, .slice (some ⟨h, 0, none⟩) 1 1, .slice none 0 0, .slice none 0 0, .slice none 0 0⟩]⟩]⟩
def wrongM (h : Nat) : FM := ⟨92, .slice none 0 0, [], .slice (some ⟨h + 1 + 1 + 1 + 1, 0, none⟩) 1 1, [⟨1, Ck.scratch, [65], .slice none 0 0, []⟩]⟩
def noneM : FM := ⟨92, .slice none 0 0, [], .slice none 0 0, []⟩
theorem right_ok {wx w : World} (h0 : Blk wx w.heap.size 61 #[.string ⟨#[65]⟩, .string ⟨#[39, 120, 39]⟩]) (h1 : Blk wx (w.heap.size + 1) 41 #[.int .i64 2, .int .i64 2, .string ⟨#[]⟩, .string ⟨#[]⟩, .bool false, .slice (some ⟨w.heap.size, 0, none⟩) 1 1, .bool false, .slice none 0 0, .slice none 0 0, .slice none 0 0]) (h2 : Blk wx (w.heap.size + 1 + 1) 53 #[.int .i64 1, .string ⟨#[115, 99, 114, 97, 116, 99, 104]⟩, .string ⟨#[]⟩, .slice (some ⟨w.heap.size + 1, 0, none⟩) 1 1]) : (rightM w.heap.size).Ok wx :=
  ⟨⟨SlA.none wx, fun _ h => by cases h⟩, ⟨SlA.blk (cs := gmC (rightM w.heap.size).stages) h2, fun g hg => by
    rw [rightM, List.mem_singleton] at hg
    subst hg
    refine ⟨SlA.blk (cs := smC _) h1, fun m hm => ?_⟩
    rw [List.mem_singleton] at hm
    subst hm
    exact ⟨SlA.blk (cs := prC _) h0, SlA.none wx, SlA.none wx, SlA.none wx, fun A n c e => slice_le e (Nat.le_refl _)⟩⟩⟩
theorem wrong_ok {wx w : World} (h : Blk wx (w.heap.size + 1 + 1 + 1 + 1) 53 #[.int .i64 1, .string ⟨#[115, 99, 114, 97, 116, 99, 104]⟩, .string ⟨#[65]⟩, .slice none 0 0]) : (wrongM w.heap.size).Ok wx :=
  ⟨⟨SlA.none wx, fun _ h => by cases h⟩, ⟨SlA.blk (cs := gmC (wrongM w.heap.size).stages) h, fun g hg => by
    rw [wrongM, List.mem_singleton] at hg
    subst hg
    exact ⟨SlA.none wx, fun m hm => by cases hm⟩⟩⟩
theorem none_ok (wx : World) : noneM.Ok wx := ⟨⟨SlA.none wx, fun _ h => by cases h⟩, ⟨SlA.none wx, fun _ h => by cases h⟩⟩
set_option maxRecDepth 100000 in
set_option maxHeartbeats 1000000 in
theorem works_ck (w : World) (hT : Tabs w) (hv : ErrVar w) (hm : Maxl w) : Calls Tryz.prog 16 #[] w fun e w' => e = .returned (.bool true) ∧ Below w.heap.size w w' := by
  have HT := Lib.hid hT
  have HV := Lib.hid hv
  have HM := Lib.hid hm
  clear hT hv hm
  obtain ⟨w1, e1⟩ : ∃ y, w.alloc (.cells #[.string ⟨#[65]⟩, .string ⟨#[39, 120, 39]⟩] 61) = y := ⟨_, rfl⟩
  have z1 : w1.heap.size = w.heap.size + 1 := by rw [← e1, World.size_alloc]
  have k0 : Blk w1 (w.heap.size) 61 #[.string ⟨#[65]⟩, .string ⟨#[39, 120, 39]⟩] := by have q := Blk.new w 61 #[.string ⟨#[65]⟩, .string ⟨#[39, 120, 39]⟩]; rw [e1] at q; exact q
  have g1 : Below w.heap.size w w1 := by rw [← e1]; exact (Below.refl _ _).alloc (Nat.le_refl _) _
  obtain ⟨w2, e2⟩ : ∃ y, w1.alloc (.cells #[.int .i64 2, .int .i64 2, .string ⟨#[]⟩, .string ⟨#[]⟩, .bool false, .slice (some ⟨w.heap.size, 0, none⟩) 1 1, .bool false, .slice none 0 0, .slice none 0 0, .slice none 0 0] 41) = y := ⟨_, rfl⟩
  have z2 : w2.heap.size = w.heap.size + 1 + 1 := by rw [← e2, World.size_alloc, z1]
  have k1 : Blk w2 (w.heap.size + 1) 41 #[.int .i64 2, .int .i64 2, .string ⟨#[]⟩, .string ⟨#[]⟩, .bool false, .slice (some ⟨w.heap.size, 0, none⟩) 1 1, .bool false, .slice none 0 0, .slice none 0 0, .slice none 0 0] := by have q := Blk.new w1 41 #[.int .i64 2, .int .i64 2, .string ⟨#[]⟩, .string ⟨#[]⟩, .bool false, .slice (some ⟨w.heap.size, 0, none⟩) 1 1, .bool false, .slice none 0 0, .slice none 0 0, .slice none 0 0]; rw [e2, z1] at q; exact q
  have g2 : Below w.heap.size w w2 := by rw [← e2]; exact g1.alloc g1.size _
  obtain ⟨w3, e3⟩ : ∃ y, w2.alloc (.cells #[.int .i64 1, .string ⟨#[115, 99, 114, 97, 116, 99, 104]⟩, .string ⟨#[]⟩, .slice (some ⟨w.heap.size + 1, 0, none⟩) 1 1] 53) = y := ⟨_, rfl⟩
  have z3 : w3.heap.size = w.heap.size + 1 + 1 + 1 := by rw [← e3, World.size_alloc, z2]
  have k2 : Blk w3 (w.heap.size + 1 + 1) 53 #[.int .i64 1, .string ⟨#[115, 99, 114, 97, 116, 99, 104]⟩, .string ⟨#[]⟩, .slice (some ⟨w.heap.size + 1, 0, none⟩) 1 1] := by have q := Blk.new w2 53 #[.int .i64 1, .string ⟨#[115, 99, 114, 97, 116, 99, 104]⟩, .string ⟨#[]⟩, .slice (some ⟨w.heap.size + 1, 0, none⟩) 1 1]; rw [e3, z2] at q; exact q
  have g3 : Below w.heap.size w w3 := by rw [← e3]; exact g2.alloc g2.size _
  obtain ⟨w4, e4⟩ : ∃ y, w3.alloc (.cells #[.int .u8 92, .slice none 0 0, .slice (some ⟨w.heap.size + 1 + 1, 0, none⟩) 1 1] 25) = y := ⟨_, rfl⟩
  have z4 : w4.heap.size = w.heap.size + 1 + 1 + 1 + 1 := by rw [← e4, World.size_alloc, z3]
  have k3 : Blk w4 (w.heap.size + 1 + 1 + 1) 25 #[.int .u8 92, .slice none 0 0, .slice (some ⟨w.heap.size + 1 + 1, 0, none⟩) 1 1] := by have q := Blk.new w3 25 #[.int .u8 92, .slice none 0 0, .slice (some ⟨w.heap.size + 1 + 1, 0, none⟩) 1 1]; rw [e4, z3] at q; exact q
  have g4 : Below w.heap.size w w4 := by rw [← e4]; exact g3.alloc g3.size _
  obtain ⟨w5, e5⟩ : ∃ y, w4.alloc (.cells #[.int .i64 1, .string ⟨#[115, 99, 114, 97, 116, 99, 104]⟩, .string ⟨#[65]⟩, .slice none 0 0] 53) = y := ⟨_, rfl⟩
  have z5 : w5.heap.size = w.heap.size + 1 + 1 + 1 + 1 + 1 := by rw [← e5, World.size_alloc, z4]
  have k4 : Blk w5 (w.heap.size + 1 + 1 + 1 + 1) 53 #[.int .i64 1, .string ⟨#[115, 99, 114, 97, 116, 99, 104]⟩, .string ⟨#[65]⟩, .slice none 0 0] := by have q := Blk.new w4 53 #[.int .i64 1, .string ⟨#[115, 99, 114, 97, 116, 99, 104]⟩, .string ⟨#[65]⟩, .slice none 0 0]; rw [e5, z4] at q; exact q
  have g5 : Below w.heap.size w w5 := by rw [← e5]; exact g4.alloc g4.size _
  obtain ⟨w6, e6⟩ : ∃ y, w5.alloc (.cells #[.int .u8 92, .slice none 0 0, .slice (some ⟨w.heap.size + 1 + 1 + 1 + 1, 0, none⟩) 1 1] 25) = y := ⟨_, rfl⟩
  have z6 : w6.heap.size = w.heap.size + 1 + 1 + 1 + 1 + 1 + 1 := by rw [← e6, World.size_alloc, z5]
  have k5 : Blk w6 (w.heap.size + 1 + 1 + 1 + 1 + 1) 25 #[.int .u8 92, .slice none 0 0, .slice (some ⟨w.heap.size + 1 + 1 + 1 + 1, 0, none⟩) 1 1] := by have q := Blk.new w5 25 #[.int .u8 92, .slice none 0 0, .slice (some ⟨w.heap.size + 1 + 1 + 1 + 1, 0, none⟩) 1 1]; rw [e6, z5] at q; exact q
  have g6 : Below w.heap.size w w6 := by rw [← e6]; exact g5.alloc g5.size _
  have K0 : Hid (Blk w6 (w.heap.size) 61 #[.string ⟨#[65]⟩, .string ⟨#[39, 120, 39]⟩]) := Lib.hid (by rw [← e6]; exact Blk.alloc ((by rw [← e5]; exact Blk.alloc ((by rw [← e4]; exact Blk.alloc ((by rw [← e3]; exact Blk.alloc ((by rw [← e2]; exact Blk.alloc (k0) _ : Blk w2 _ _ _)) _ : Blk w3 _ _ _)) _ : Blk w4 _ _ _)) _ : Blk w5 _ _ _)) _ : Blk w6 _ _ _)
  have K1 : Hid (Blk w6 (w.heap.size + 1) 41 #[.int .i64 2, .int .i64 2, .string ⟨#[]⟩, .string ⟨#[]⟩, .bool false, .slice (some ⟨w.heap.size, 0, none⟩) 1 1, .bool false, .slice none 0 0, .slice none 0 0, .slice none 0 0]) := Lib.hid (by rw [← e6]; exact Blk.alloc ((by rw [← e5]; exact Blk.alloc ((by rw [← e4]; exact Blk.alloc ((by rw [← e3]; exact Blk.alloc (k1) _ : Blk w3 _ _ _)) _ : Blk w4 _ _ _)) _ : Blk w5 _ _ _)) _ : Blk w6 _ _ _)
  have K2 : Hid (Blk w6 (w.heap.size + 1 + 1) 53 #[.int .i64 1, .string ⟨#[115, 99, 114, 97, 116, 99, 104]⟩, .string ⟨#[]⟩, .slice (some ⟨w.heap.size + 1, 0, none⟩) 1 1]) := Lib.hid (by rw [← e6]; exact Blk.alloc ((by rw [← e5]; exact Blk.alloc ((by rw [← e4]; exact Blk.alloc (k2) _ : Blk w4 _ _ _)) _ : Blk w5 _ _ _)) _ : Blk w6 _ _ _)
  have K3 : Hid (Blk w6 (w.heap.size + 1 + 1 + 1) 25 #[.int .u8 92, .slice none 0 0, .slice (some ⟨w.heap.size + 1 + 1, 0, none⟩) 1 1]) := Lib.hid (by rw [← e6]; exact Blk.alloc ((by rw [← e5]; exact Blk.alloc (k3) _ : Blk w5 _ _ _)) _ : Blk w6 _ _ _)
  have K4 : Hid (Blk w6 (w.heap.size + 1 + 1 + 1 + 1) 53 #[.int .i64 1, .string ⟨#[115, 99, 114, 97, 116, 99, 104]⟩, .string ⟨#[65]⟩, .slice none 0 0]) := Lib.hid (by rw [← e6]; exact Blk.alloc (k4) _ : Blk w6 _ _ _)
  have K5 : Hid (Blk w6 (w.heap.size + 1 + 1 + 1 + 1 + 1) 25 #[.int .u8 92, .slice none 0 0, .slice (some ⟨w.heap.size + 1 + 1 + 1 + 1, 0, none⟩) 1 1]) := Lib.hid k5
  have G6 := Lib.hid g6
  have Z6 := Lib.hid z6
  have E6 : Hid ((((((w.alloc (.cells #[.string ⟨#[65]⟩, .string ⟨#[39, 120, 39]⟩] 61)).alloc (.cells #[.int .i64 2, .int .i64 2, .string ⟨#[]⟩, .string ⟨#[]⟩, .bool false, .slice (some ⟨w.heap.size, 0, none⟩) 1 1, .bool false, .slice none 0 0, .slice none 0 0, .slice none 0 0] 41)).alloc (.cells #[.int .i64 1, .string ⟨#[115, 99, 114, 97, 116, 99, 104]⟩, .string ⟨#[]⟩, .slice (some ⟨w.heap.size + 1, 0, none⟩) 1 1] 53)).alloc (.cells #[.int .u8 92, .slice none 0 0, .slice (some ⟨w.heap.size + 1 + 1, 0, none⟩) 1 1] 25)).alloc (.cells #[.int .i64 1, .string ⟨#[115, 99, 114, 97, 116, 99, 104]⟩, .string ⟨#[65]⟩, .slice none 0 0] 53)).alloc (.cells #[.int .u8 92, .slice none 0 0, .slice (some ⟨w.heap.size + 1 + 1 + 1 + 1, 0, none⟩) 1 1] 25) = w6) := Lib.hid (by rw [e1, e2, e3, e4, e5, e6])
  clear e1 e2 e3 e4 e5 e6 z1 z2 z3 z4 z5 z6 k0 k1 k2 k3 k4 k5 g1 g2 g3 g4 g5 g6
  go_enter Tryz.func16, Tryz.ntmps16
  go_upto_region 3 with fail
  rw [E6.out]
  clear E6
  have b0 : w6.cell? ⟨w.heap.size + 1 + 1 + 1, 0, none⟩ = some (.int .u8 92) := K3.out.cell 0
  have b1 : w6.cell? ⟨w.heap.size + 1 + 1 + 1, 1, none⟩ = some (.slice none 0 0) := K3.out.cell 1
  have b2 : w6.cell? ⟨w.heap.size + 1 + 1 + 1, 2, none⟩ = some (.slice (some ⟨w.heap.size + 1 + 1, 0, none⟩) 1 1) := K3.out.cell 2
  have HT6 := Lib.hid (HT.out.new G6.out)
  have HV6 := Lib.hid (HV.out.below G6.out HV.out.lt)
  have HM6 := Lib.hid (HM.out.grow G6.out)
  go_wp2_with fail
  refine (file_any (rightM w.heap.size) w6 (right_ok K0.out K1.out K2.out) small_right HT6.out HM6.out HV6.out (Lib.hid Ck.right_is)).mono ?_
  rintro r w7 ⟨hr, p7⟩
  obtain rfl : r = .returned (.nilIface) := hr
  have G7 := Lib.hid (G6.out.trans (p7.mono G6.out.size))
  have K4' := Lib.hid (K4.out.below p7 K4.out.lt)
  have K5' := Lib.hid (K5.out.below p7 K5.out.lt)
  clear p7 b0 b1 b2
  have HT7 := Lib.hid (HT.out.new G7.out)
  have HV7 := Lib.hid (HV.out.below G7.out HV.out.lt)
  have HM7 := Lib.hid (HM.out.grow G7.out)
  have b0 : w7.cell? ⟨w.heap.size + 1 + 1 + 1 + 1 + 1, 0, none⟩ = some (.int .u8 92) := K5'.out.cell 0
  have b1 : w7.cell? ⟨w.heap.size + 1 + 1 + 1 + 1 + 1, 1, none⟩ = some (.slice none 0 0) := K5'.out.cell 1
  have b2 : w7.cell? ⟨w.heap.size + 1 + 1 + 1 + 1 + 1, 2, none⟩ = some (.slice (some ⟨w.heap.size + 1 + 1 + 1 + 1, 0, none⟩) 1 1) := K5'.out.cell 2
  go_wp2_with fail
  refine (file_any (wrongM w.heap.size) w7 (wrong_ok K4'.out) small_wrong HT7.out HM7.out HV7.out (Lib.hid Ck.wrong_is)).mono ?_
  rintro r w8 ⟨hr, p8⟩
  obtain rfl : r = .returned (eFault 8 1 0) := hr
  have G8 := Lib.hid (G7.out.trans (p8.mono G7.out.size))
  clear p8 b0 b1 b2
  go_wp2_with fail
  refine (told_fault 8 1 (by decide) (by decide) w8 (HV.out.below G8.out HV.out.lt)).mono ?_
  rintro r w9 ⟨rfl, p9⟩
  have G9 := Lib.hid (G8.out.trans (p9.mono G8.out.size))
  clear p9
  go_wp2_with fail
  refine (file_any noneM w9 (none_ok w9) small_none (HT.out.new G9.out) (HM.out.grow G9.out) (HV.out.below G9.out HV.out.lt) (Lib.hid Ck.none_is)).mono ?_
  rintro r wa ⟨hr, pa⟩
  obtain rfl : r = .returned (eFault 2 0 0) := hr
  have Ga := Lib.hid (G9.out.trans (pa.mono G9.out.size))
  clear pa
  go_wp2_with fail
  refine (told_fault 2 0 (by decide) (by decide) wa (HV.out.below Ga.out HV.out.lt)).mono ?_
  rintro r wb ⟨rfl, pb⟩
  have Gb := Lib.hid (Ga.out.trans (pb.mono Ga.out.size))
  clear pb
  go_wp2_with fail
  refine (ckRef_any [97, 47, 98, 58, 99] (by decide) wb (HM.out.grow Gb.out) (Lib.hid Ck.ref_right)).mono ?_
  rintro r wc ⟨hr, pc⟩
  obtain rfl : r = .returned (.nilIface) := hr
  have Gc := Lib.hid (Gb.out.trans (pc.mono Gb.out.size))
  clear pc
  go_wp2_with fail
  refine (ckRef_any [65] (by decide) wc (HM.out.grow Gc.out) (Lib.hid Ck.ref_wrong)).mono ?_
  rintro r wd ⟨hr, pd⟩
  obtain rfl : r = .returned (.iface 70 (.int .i64 31)) := hr
  have Gd := Lib.hid (Gc.out.trans (pd.mono Gc.out.size))
  clear pd
  go_wp2_with fail
  refine (plain_31 wd (HV.out.below Gd.out HV.out.lt)).mono ?_
  rintro r we ⟨rfl, pe⟩
  go_wp2_with fail
  go_ret
  exact ⟨rfl, Gd.out.trans (pe.mono Gd.out.size)⟩
end Go.Proofs.YtdaejggcjjdhkaaGreatDoor
