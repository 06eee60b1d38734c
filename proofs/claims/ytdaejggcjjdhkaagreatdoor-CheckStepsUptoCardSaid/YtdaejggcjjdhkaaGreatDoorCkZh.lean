/- CheckSteps: the law's walk. (Printed by wip/gensteps.py.) -/
import Derived.Test.YtdaejggcjjdhkaaGreatDoorMkN
import Derived.Test.YtdaejggcjjdhkaaGreatDoorCkOne
import Derived.Test.YtdaejggcjjdhkaaGreatDoorCkFx
import Derived.Test.YtdaejggcjjdhkaaGreatDoorCkWk
import Derived.Test.YtdaejggcjjdhkaaGreatDoorCkLe
import Derived.Test.YtdaejggcjjdhkaaGreatDoorCkOs
namespace Go.Proofs.YtdaejggcjjdhkaaGreatDoor
open Go Go.RowKit Go.Extern.Stop Go.Stop Go.Extern
theorem filP_is (x : Option (Nat × Int)) : (filP x).1 = ((numL x : Nat) : Int) ∧ ∀ m l, x = some (m, l) → (filP x).2 = l := by
  rcases x with _ | ⟨n, l⟩
  · exact ⟨rfl, fun m l h => by cases h⟩
  · exact ⟨rfl, fun m l h => by injection h with h; injection h with _ h⟩
set_option maxRecDepth 100000 in
set_option maxHeartbeats 2000000 in
theorem lawSteps (m : SM) (b : Bool) (w : World) (hm : m.Ok w) (hsm : m.s.Small) (hT : Tabs w) (hV : ErrVar w) (hM : Maxl w) :
    Calls Tryz.prog 4 #[.agg #[.int .i64 m.s.op, .int .i64 m.s.line, .string (bs m.s.from_), .string (bs m.s.mode), .bool m.s.force, m.vp, .bool m.s.bare, m.vw, m.vd, m.ve], .bool b] w fun r w' => r = .returned (.bool true) ∧ Below w.heap.size w w' := by
  have HT := Lib.hid hT
  have HV := Lib.hid hV
  have HM := Lib.hid hM
  clear hT hV hM
  obtain ⟨s, vp, vw, vd, ve⟩ := m
  obtain ⟨Ap, kp, e1⟩ := hm.cp.form
  obtain ⟨Aw, kw, e2⟩ := hm.cw.form
  obtain ⟨Ad, kd, e3⟩ := hm.cd.form
  obtain ⟨Ae, ke, e4⟩ := hm.ce.form
  dsimp only at e1 e2 e3 e4 hsm ⊢
  subst e1 e2 e3 e4
  have HOM := Lib.hid hm
  have HSM := Lib.hid hsm
  clear hm hsm
  have HAL := Lib.hid ((Below.refl w.heap.size w).alloc (Nat.le_refl _) (.cells #[.int .i64 s.op, .int .i64 s.line, .string (bs s.from_), .string (bs s.mode), .bool s.force, .slice Ap s.pairs.length kp, .bool s.bare, .slice Aw s.words.length kw, .slice Ad s.docs.length kd, .slice Ae s.exec.length ke] 41))
  have HKM := Lib.hid (Blk.new w 41 #[.int .i64 s.op, .int .i64 s.line, .string (bs s.from_), .string (bs s.mode), .bool s.force, .slice Ap s.pairs.length kp, .bool s.bare, .slice Aw s.words.length kw, .slice Ad s.docs.length kd, .slice Ae s.exec.length ke])
  obtain ⟨w1, hw1⟩ : ∃ y, w.alloc (.cells #[.int .i64 s.op, .int .i64 s.line, .string (bs s.from_), .string (bs s.mode), .bool s.force, .slice Ap s.pairs.length kp, .bool s.bare, .slice Aw s.words.length kw, .slice Ad s.docs.length kd, .slice Ae s.exec.length ke] 41) = y := ⟨_, rfl⟩
  rw [hw1] at HAL HKM
  have HW1 := Lib.hid hw1
  clear hw1
  go_enter Tryz.func4, Tryz.ntmps4
  go_upto_region 1 with fail
  rw [HW1.out]
  clear HW1
  have c0 : w1.cell? ⟨w.heap.size, 0, none⟩ = some (Value.int .i64 s.op) := HKM.out.cell 0
  have c1 : w1.cell? ⟨w.heap.size, 1, none⟩ = some (Value.int .i64 s.line) := HKM.out.cell 1
  have c2 : w1.cell? ⟨w.heap.size, 2, none⟩ = some (Value.string (bs s.from_)) := HKM.out.cell 2
  have c3 : w1.cell? ⟨w.heap.size, 3, none⟩ = some (Value.string (bs s.mode)) := HKM.out.cell 3
  have c4 : w1.cell? ⟨w.heap.size, 4, none⟩ = some (Value.bool s.force) := HKM.out.cell 4
  have c5 : w1.cell? ⟨w.heap.size, 5, none⟩ = some (Value.slice Ap s.pairs.length kp) := HKM.out.cell 5
  have c6 : w1.cell? ⟨w.heap.size, 6, none⟩ = some (Value.bool s.bare) := HKM.out.cell 6
  have c7 : w1.cell? ⟨w.heap.size, 7, none⟩ = some (Value.slice Aw s.words.length kw) := HKM.out.cell 7
  have c8 : w1.cell? ⟨w.heap.size, 8, none⟩ = some (Value.slice Ad s.docs.length kd) := HKM.out.cell 8
  have c9 : w1.cell? ⟨w.heap.size, 9, none⟩ = some (Value.slice Ae s.exec.length ke) := HKM.out.cell 9
  go_wp2_with fail
  refine (one_any (⟨s, .slice Ap s.pairs.length kp, .slice Aw s.words.length kw, .slice Ad s.docs.length kd, .slice Ae s.exec.length ke⟩ : SM) b w1 (HOM.out.new HAL.out)).mono ?_
  rintro r w3 ⟨⟨e1, va1, ar1, vg1, st1⟩, hr, ok1, q1, p3⟩
  obtain rfl : r = .returned (.agg #[.int .u8 (e1.toNat : Int), va1, vg1]) := hr
  obtain ⟨Aa, ka, ea⟩ := ok1.a.1.form
  obtain ⟨Ag, kg, eg⟩ := ok1.g.1.form
  dsimp only at ea eg
  subst ea eg
  have OK3 := Lib.hid ok1
  have SM3 : Hid ((FM.fl (⟨e1, .slice Aa ar1.length ka, ar1, .slice Ag st1.length kg, st1⟩ : FM)).Small) := Lib.hid (by rw [q1]; exact Ck.small_one HSM.out _)
  have HB3 := Lib.hid (below_of_below HAL.out p3 HAL.out.size)
  clear ok1 q1 p3 HKM HAL HOM HSM c0 c1 c2 c3 c4 c5 c6 c7 c8 c9
  have hb4 := (Below.refl w3.heap.size w3).alloc (Nat.le_refl _) (.cells #[.int .u8 (e1.toNat : Int), .slice Aa ar1.length ka, .slice Ag st1.length kg] 25)
  have OK4 := Lib.hid (OK3.out.new hb4)
  have HB4 := Lib.hid (below_of_below HB3.out hb4 HB3.out.size)
  have HF4 := Lib.hid (Blk.new w3 25 #[.int .u8 (e1.toNat : Int), .slice Aa ar1.length ka, .slice Ag st1.length kg])
  go_upto_region 2 with fail
  obtain ⟨w4, hw4⟩ : ∃ y, w3.alloc (.cells #[.int .u8 (e1.toNat : Int), .slice Aa ar1.length ka, .slice Ag st1.length kg] 25) = y := ⟨_, rfl⟩
  obtain ⟨Z, hZ⟩ : ∃ Z, w3.heap.size = Z := ⟨_, rfl⟩
  rw [hw4] at OK4 HB4 HF4
  rw [hZ] at HF4
  rw [hw4, hZ]
  clear hw4 hZ hb4 OK3 HB3
  have b0 : w4.cell? ⟨Z, 0, none⟩ = some (.int .u8 (e1.toNat : Int)) := HF4.out.cell 0
  have b1 : w4.cell? ⟨Z, 1, none⟩ = some (.slice Aa ar1.length ka) := HF4.out.cell 1
  have b2 : w4.cell? ⟨Z, 2, none⟩ = some (.slice Ag st1.length kg) := HF4.out.cell 2
  go_wp2_with fail
  refine (few_any (⟨e1, .slice Aa ar1.length ka, ar1, .slice Ag st1.length kg, st1⟩ : FM) w4 OK4.out SM3.out).mono ?_
  rintro r w5 ⟨t1, rfl, p5⟩
  have OK5 := Lib.hid (OK4.out.new p5)
  have HB5 := Lib.hid (below_of_below HB4.out p5 HB4.out.size)
  have HF5 := Lib.hid (HF4.out.below p5 HF4.out.lt)
  clear p5 OK4 HB4 HF4 b0 b1 b2
  cases t1 with
  | false =>
    go_wp2_with fail
    go_ret
    exact ⟨rfl, HB5.out⟩
  | true =>
    have b0 : w5.cell? ⟨Z, 0, none⟩ = some (.int .u8 (e1.toNat : Int)) := HF5.out.cell 0
    have b1 : w5.cell? ⟨Z, 1, none⟩ = some (.slice Aa ar1.length ka) := HF5.out.cell 1
    have b2 : w5.cell? ⟨Z, 2, none⟩ = some (.slice Ag st1.length kg) := HF5.out.cell 2
    obtain ⟨x, HX⟩ : ∃ x, Hid (Ck.fileL (FM.fl (⟨e1, .slice Aa ar1.length ka, ar1, .slice Ag st1.length kg, st1⟩ : FM)) = x) := ⟨_, Lib.hid rfl⟩
    obtain ⟨hp1, hp2⟩ := filP_is x
    obtain ⟨n, hn⟩ : ∃ n, numL x = n := ⟨_, rfl⟩
    obtain ⟨l, hl⟩ : ∃ l, (filP x).2 = l := ⟨_, rfl⟩
    have HC18 := Lib.hid (file18_any (⟨e1, .slice Aa ar1.length ka, ar1, .slice Ag st1.length kg, st1⟩ : FM) w5 OK5.out SM3.out HX)
    rw [hp1, hl, hn] at HC18
    rw [hl] at hp2
    have HN := Lib.hid hn
    have HP2 := Lib.hid hp2
    have HOKN : Hid (OkN x) := Lib.hid (by rw [← HX.out]; exact Ck.file_ok _)
    clear hn hp1 hl hp2
    go_wp2_with fail
    refine HC18.out.mono ?_
    rintro r w6 ⟨rfl, p6⟩
    clear HC18
    have OK6 := Lib.hid (OK5.out.new p6)
    have HB6 := Lib.hid (below_of_below HB5.out p6 HB5.out.size)
    have HF6 := Lib.hid (HF5.out.below p6 HF5.out.lt)
    clear p6 OK5 HB5 HF5 b0 b1 b2
    have b0 : w6.cell? ⟨Z, 0, none⟩ = some (.int .u8 (e1.toNat : Int)) := HF6.out.cell 0
    have b1 : w6.cell? ⟨Z, 1, none⟩ = some (.slice Aa ar1.length ka) := HF6.out.cell 1
    have b2 : w6.cell? ⟨Z, 2, none⟩ = some (.slice Ag st1.length kg) := HF6.out.cell 2
    have HCF := Lib.hid (file_any (⟨e1, .slice Aa ar1.length ka, ar1, .slice Ag st1.length kg, st1⟩ : FM) w6 OK6.out SM3.out (HT.out.new HB6.out) (HM.out.grow HB6.out) (HV.out.below HB6.out HV.out.lt) HX)
    go_wp2_with fail
    refine HCF.out.mono ?_
    rintro r w7 ⟨rfl, p7⟩
    have HB7 := Lib.hid (below_of_below HB6.out p7 HB6.out.size)
    clear p7 HCF b0 b1 b2 HF6 OK6 HB6
    obtain ⟨fv, hfv⟩ : ∃ y, filV x = y := ⟨_, rfl⟩
    have HTD := Lib.hid (told_is x HOKN.out n HN.out l HP2.out w7 (HV.out.below HB7.out HV.out.lt))
    rw [hfv] at HTD
    rw [hfv]
    clear hfv
    go_wp2_with fail
    refine HTD.out.mono ?_
    rintro r w8 ⟨rfl, p8⟩
    have HB8 := Lib.hid (below_of_below HB7.out p8 HB7.out.size)
    clear p8 HTD HB7
    have HWK := Lib.hid (works_ck w8 (HT.out.new HB8.out) (HV.out.below HB8.out HV.out.lt) (HM.out.grow HB8.out))
    go_wp2_with fail
    refine HWK.out.mono ?_
    rintro r w9 ⟨rfl, p9⟩
    have HB9 := Lib.hid (below_of_below HB8.out p9 HB8.out.size)
    clear p9 HWK HB8
    go_wp2_with fail
    go_ret
    exact ⟨rfl, HB9.out⟩
theorem lawStepsW (m : SM) (b : Bool) (w : World) (h3 : m.Ok w) (h4 : StLe 1048576 m.s) (hT : Tabs w) (hV : ErrVar w) (hM : Maxl w) :
    Calls Tryz.prog 4 #[.agg (smL m).toArray, .bool b] w fun r w' => r = .returned (.bool true) ∧ Below w.heap.size w w' := lawSteps m b w h3 (small_st h4) hT hV hM
end Go.Proofs.YtdaejggcjjdhkaaGreatDoor
