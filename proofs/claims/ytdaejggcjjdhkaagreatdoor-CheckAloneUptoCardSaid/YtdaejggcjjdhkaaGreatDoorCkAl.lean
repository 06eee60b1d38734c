/- CheckAlone: the law's walk. (Printed by wip/genalone.py.) -/
import Derived.Test.YtdaejggcjjdhkaaGreatDoorCkWi
import Derived.Test.YtdaejggcjjdhkaaGreatDoorCkFx
import Derived.Test.YtdaejggcjjdhkaaGreatDoorCkWk
import Derived.Test.YtdaejggcjjdhkaaGreatDoorCkLe
import Derived.Test.YtdaejggcjjdhkaaGreatDoorMkD
namespace Go.Proofs.YtdaejggcjjdhkaaGreatDoor
open Go Go.RowKit Go.Extern.Stop Go.Stop Go.Extern
theorem filV_none : filV none = .nilIface := rfl
/-- the values of the last region. -/
def VA (X : Ck.Fl) (l : List Value) : Nat → Value → World → Prop
  | 2, u, w => ∃ f2 : FM, u = f2.val ∧ f2.Ok w ∧ f2.fl = X
  | i, u, _ => l[i]? = some u
theorem VA.new {X : Ck.Fl} {l : List Value} {w w' : World} (k : Below w.heap.size w w') (j : Nat) (u : Value) (H : VA X l j u w) : VA X l j u w' := by
  unfold VA at H ⊢
  split at H
  · obtain ⟨f2, e, h, q⟩ := H
    exact ⟨f2, e, h.new k, q⟩
  · exact H
set_option maxRecDepth 100000 in
set_option maxHeartbeats 2000000 in
theorem lawAlone (f : FM) (m : SM) (w : World) (hok : f.Ok w) (hm : m.Ok w) (hsf : f.fl.Small) (hsm : m.s.Small) (hcnt : f.stages.length + Ck.countL f.fl ≤ 1049000) (hT : Tabs w) (hV : ErrVar w) (hM : Maxl w) :
    Calls Tryz.prog 6 #[.agg #[.int .u8 (f.escape.toNat : Int), f.va, f.vg], .agg #[.int .i64 m.s.op, .int .i64 m.s.line, .string (bs m.s.from_), .string (bs m.s.mode), .bool m.s.force, m.vp, .bool m.s.bare, m.vw, m.vd, m.ve]] w fun r w' => r = .returned (.bool true) ∧ Below w.heap.size w w' := by
  have HT := Lib.hid hT
  have HV := Lib.hid hV
  have HM := Lib.hid hM
  clear hT hV hM
  obtain ⟨s, vp, vw, vd, ve⟩ := m
  have hcp : SlA w vp s.pairs.length (prC s.pairs) := hm.cp
  have hcw : SlA w vw s.words.length (sc s.words) := hm.cw
  have hcd : SlA w vd s.docs.length (doC s.docs) := hm.cd
  have hce : SlA w ve s.exec.length (sc s.exec) := hm.ce
  obtain ⟨Ap, kp, rfl⟩ := hcp.form
  obtain ⟨Aw, kw, rfl⟩ := hcw.form
  obtain ⟨Ad, kd, rfl⟩ := hcd.form
  obtain ⟨Ae, ke, rfl⟩ := hce.form
  clear hcp hcw hcd hce
  obtain ⟨e, va, args, vg, stages⟩ := f
  dsimp only at hsm hcnt ⊢
  obtain ⟨Aa, ka, e1⟩ := hok.a.1.form
  obtain ⟨Ag, kg, e2⟩ := hok.g.1.form
  dsimp only at e1 e2
  subst e1 e2
  obtain ⟨na, hna⟩ : ∃ n, args.length = n := ⟨_, rfl⟩
  obtain ⟨ng, hng⟩ : ∃ n, stages.length = n := ⟨_, rfl⟩
  rw [hna, hng] at hok hsf hcnt ⊢
  have HNG := Lib.hid hng
  have HOK := Lib.hid hok
  have HOM := Lib.hid hm
  have HSF := Lib.hid hsf
  have HSM := Lib.hid hsm
  have HCN := Lib.hid hcnt
  clear hna hng hok hm hsf hsm hcnt
  obtain ⟨w1, hw1⟩ : ∃ y, (w.alloc (.cells #[.int .u8 (e.toNat : Int), .slice Aa na ka, .slice Ag ng kg] 25)).alloc (.cells #[.int .i64 s.op, .int .i64 s.line, .string (bs s.from_), .string (bs s.mode), .bool s.force, .slice Ap s.pairs.length kp, .bool s.bare, .slice Aw s.words.length kw, .slice Ad s.docs.length kd, .slice Ae s.exec.length ke] 41) = y := ⟨_, rfl⟩
  have HAL : Hid (Below w.heap.size w w1) := Lib.hid (by rw [← hw1]; exact ((Below.refl _ _).alloc (Nat.le_refl _) _).alloc (by rw [World.size_alloc]; omega) _)
  have HKF : Hid (Blk w1 w.heap.size 25 #[.int .u8 (e.toNat : Int), .slice Aa na ka, .slice Ag ng kg]) := Lib.hid (by rw [← hw1]; exact (Blk.new w _ _).alloc _)
  have HKM : Hid (Blk w1 (w.heap.size + 1) 41 #[.int .i64 s.op, .int .i64 s.line, .string (bs s.from_), .string (bs s.mode), .bool s.force, .slice Ap s.pairs.length kp, .bool s.bare, .slice Aw s.words.length kw, .slice Ad s.docs.length kd, .slice Ae s.exec.length ke]) := Lib.hid (by have q := Blk.new (w.alloc (.cells #[.int .u8 (e.toNat : Int), .slice Aa na ka, .slice Ag ng kg] 25)) 41 #[.int .i64 s.op, .int .i64 s.line, .string (bs s.from_), .string (bs s.mode), .bool s.force, .slice Ap s.pairs.length kp, .bool s.bare, .slice Aw s.words.length kw, .slice Ad s.docs.length kd, .slice Ae s.exec.length ke]; rw [World.size_alloc, hw1] at q; exact q)
  have HSZ : Hid (w.heap.size + 2 ≤ w1.heap.size) := Lib.hid (by rw [← hw1, World.size_alloc, World.size_alloc]; omega)
  have HW1 := Lib.hid hw1
  clear hw1
  have PB : Hid (Below (w.heap.size + 2) w1 w1) := Lib.hid (Below.refl _ _)
  have PW := HAL
  go_enter Tryz.func6, Tryz.ntmps6
  go_upto_region 1 with fail
  rw [HW1.out]
  clear HW1
  have b0 : w1.cell? ⟨w.heap.size, 0, none⟩ = some (.int .u8 (e.toNat : Int)) := (HKF.out.below PB.out (by omega)).cell 0
  have b1 : w1.cell? ⟨w.heap.size, 1, none⟩ = some (.slice Aa na ka) := (HKF.out.below PB.out (by omega)).cell 1
  have b2 : w1.cell? ⟨w.heap.size, 2, none⟩ = some (.slice Ag ng kg) := (HKF.out.below PB.out (by omega)).cell 2
  go_wp2_with fail
  refine (few_any (⟨e, .slice Aa na ka, args, .slice Ag ng kg, stages⟩ : FM) w1 (HOK.out.new PW.out) HSF.out).mono ?_
  rintro r w2 ⟨t1, rfl, p2⟩
  have PBn := Lib.hid (PB.out.trans (p2.mono (Nat.le_trans HSZ.out PB.out.size)))
  clear PB PW p2 b0 b1 b2
  have PB := PBn
  clear PBn
  have PW := Lib.hid (HAL.out.trans (PB.out.mono (by omega)))
  have hT' := Lib.hid (HT.out.new PW.out)
  have hV' := Lib.hid (HV.out.below PW.out HV.out.lt)
  have hM' := Lib.hid (HM.out.grow PW.out)
  cases t1 with
  | false =>
    go_wp2_with fail
    go_ret
    exact ⟨rfl, PW.out⟩
  | true =>
    have c0 : w2.cell? ⟨w.heap.size + 1, 0, none⟩ = some (.int .i64 s.op) := (HKM.out.below PB.out (by omega)).cell 0
    have c1 : w2.cell? ⟨w.heap.size + 1, 1, none⟩ = some (.int .i64 s.line) := (HKM.out.below PB.out (by omega)).cell 1
    have c2 : w2.cell? ⟨w.heap.size + 1, 2, none⟩ = some (.string (bs s.from_)) := (HKM.out.below PB.out (by omega)).cell 2
    have c3 : w2.cell? ⟨w.heap.size + 1, 3, none⟩ = some (.string (bs s.mode)) := (HKM.out.below PB.out (by omega)).cell 3
    have c4 : w2.cell? ⟨w.heap.size + 1, 4, none⟩ = some (.bool s.force) := (HKM.out.below PB.out (by omega)).cell 4
    have c5 : w2.cell? ⟨w.heap.size + 1, 5, none⟩ = some (.slice Ap s.pairs.length kp) := (HKM.out.below PB.out (by omega)).cell 5
    have c6 : w2.cell? ⟨w.heap.size + 1, 6, none⟩ = some (.bool s.bare) := (HKM.out.below PB.out (by omega)).cell 6
    have c7 : w2.cell? ⟨w.heap.size + 1, 7, none⟩ = some (.slice Aw s.words.length kw) := (HKM.out.below PB.out (by omega)).cell 7
    have c8 : w2.cell? ⟨w.heap.size + 1, 8, none⟩ = some (.slice Ad s.docs.length kd) := (HKM.out.below PB.out (by omega)).cell 8
    have c9 : w2.cell? ⟨w.heap.size + 1, 9, none⟩ = some (.slice Ae s.exec.length ke) := (HKM.out.below PB.out (by omega)).cell 9
    go_wp2_with fail
    refine (one_any (⟨s, .slice Ap s.pairs.length kp, .slice Aw s.words.length kw, .slice Ad s.docs.length kd, .slice Ae s.exec.length ke⟩ : SM) false w2 (HOM.out.new PW.out)).mono ?_
    rintro r w3 ⟨⟨e1, va1, ar1, vg1, st1⟩, hr, ok1, q1, p3⟩
    obtain rfl : r = .returned (.agg #[.int .u8 (e1.toNat : Int), va1, vg1]) := hr
    have OK1 := Lib.hid ok1
    have Q1 := Lib.hid q1
    clear ok1 q1
    have PBn := Lib.hid (PB.out.trans (p3.mono (Nat.le_trans HSZ.out PB.out.size)))
    clear PB PW p3 hT' hV' hM' c0 c1 c2 c3 c4 c5 c6 c7 c8 c9
    have PB := PBn
    clear PBn
    have PW := Lib.hid (HAL.out.trans (PB.out.mono (by omega)))
    have hT' := Lib.hid (HT.out.new PW.out)
    have hV' := Lib.hid (HV.out.below PW.out HV.out.lt)
    have hM' := Lib.hid (HM.out.grow PW.out)
    go_wp2_with fail
    refine (few_any (⟨e1, va1, ar1, vg1, st1⟩ : FM) w3 OK1.out (by rw [Q1.out]; exact Ck.small_one HSM.out _)).mono ?_
    rintro r w4 ⟨t2, rfl, p4⟩
    clear OK1 Q1
    have PBn := Lib.hid (PB.out.trans (p4.mono (Nat.le_trans HSZ.out PB.out.size)))
    clear PB PW p4 hT' hV' hM'
    have PB := PBn
    clear PBn
    have PW := Lib.hid (HAL.out.trans (PB.out.mono (by omega)))
    have hT' := Lib.hid (HT.out.new PW.out)
    have hV' := Lib.hid (HV.out.below PW.out HV.out.lt)
    have hM' := Lib.hid (HM.out.grow PW.out)
    cases t2 with
    | false =>
      go_wp2_with fail
      go_ret
      exact ⟨rfl, PW.out⟩
    | true =>
      have b0 : w4.cell? ⟨w.heap.size, 0, none⟩ = some (.int .u8 (e.toNat : Int)) := (HKF.out.below PB.out (by omega)).cell 0
      have b1 : w4.cell? ⟨w.heap.size, 1, none⟩ = some (.slice Aa na ka) := (HKF.out.below PB.out (by omega)).cell 1
      have b2 : w4.cell? ⟨w.heap.size, 2, none⟩ = some (.slice Ag ng kg) := (HKF.out.below PB.out (by omega)).cell 2
      obtain ⟨x, HX⟩ : ∃ x, Hid (Ck.fileL (FM.fl (⟨e, .slice Aa na ka, args, .slice Ag ng kg, stages⟩ : FM)) = x) := ⟨_, Lib.hid rfl⟩
      go_wp2_with fail
      refine (file_any (⟨e, .slice Aa na ka, args, .slice Ag ng kg, stages⟩ : FM) w4 (HOK.out.new PW.out) HSF.out hT'.out hM'.out hV'.out HX).mono ?_
      rintro r w5 ⟨hr, p5⟩
      have PBn := Lib.hid (PB.out.trans (p5.mono (Nat.le_trans HSZ.out PB.out.size)))
      clear PB PW p5 hT' hV' hM' b0 b1 b2
      have PB := PBn
      clear PBn
      have PW := Lib.hid (HAL.out.trans (PB.out.mono (by omega)))
      have hT' := Lib.hid (HT.out.new PW.out)
      have hV' := Lib.hid (HV.out.below PW.out HV.out.lt)
      have hM' := Lib.hid (HM.out.grow PW.out)
      rcases x with _ | ⟨n0, l0⟩
      rotate_left
      · obtain rfl : r = .returned (eFault (n0 : Int) l0 0) := hr
        go_wp2_with fail
        go_ret
        exact ⟨rfl, PW.out⟩
      obtain rfl : r = .returned .nilIface := hr
      have hrx := Ck.right_esc HX.out
      have hesc : e = 92 ∨ e = 96 := hrx.1
      have hst0 : stages ≠ [] := fun q => hrx.2 (by show stages.map GM.sg = []; rw [q]; rfl)
      have HESC := Lib.hid hesc
      obtain ⟨A, L, hAL⟩ : ∃ A L, stages = A ++ [L] := ⟨stages.dropLast, stages.getLast hst0, (List.dropLast_concat_getLast hst0).symm⟩
      clear hrx hesc hst0
      subst hAL
      have hAn : A.length + 1 = ng := by rw [← HNG.out]; simp
      have k0 : ((ng : Int) == 0) = false := by rw [beq_eq_false_iff_ne]; omega
      have k1 : (ng == 0) = false := by rw [beq_eq_false_iff_ne]; omega
      have HAN := Lib.hid hAn
      clear hAn
      have HML0 := Lib.hid (ms_le (e := e) (va := .slice Aa na ka) (vg := .slice Ag ng kg) (args := args) (A := A) (L := L))
      have HAO := Lib.hid (alone_is (s := s) HX.out)
      have HSX := Lib.hid (alone_small HSF.out HSM.out (by rw [HNG.out]; exact HCN.out))
      obtain ⟨ct, HCT⟩ : ∃ c, Hid (Ck.countL (FM.fl (⟨e, .slice Aa na ka, args, .slice Ag ng kg, A ++ [L]⟩ : FM)) = c) := ⟨_, Lib.hid rfl⟩
      rw [HCT.out] at HML0 HAO
      have HCN2 : Hid (ng + ct ≤ 1049000) := Lib.hid (by rw [← HCT.out]; exact HCN.out)
      have hct6 : ct ≤ 1049000 := by have := HCN2.out; omega
      have hwn : A.length + 1 + L.ms.length ≤ 1050000 := by have := HML0.out; have := HAN.out; have := HCN2.out; omega
      have HWN := Lib.hid hwn
      clear hwn
      have b0 : w5.cell? ⟨w.heap.size, 0, none⟩ = some (.int .u8 (e.toNat : Int)) := (HKF.out.below PB.out (by omega)).cell 0
      have b1 : w5.cell? ⟨w.heap.size, 1, none⟩ = some (.slice Aa na ka) := (HKF.out.below PB.out (by omega)).cell 1
      have b2 : w5.cell? ⟨w.heap.size, 2, none⟩ = some (.slice Ag ng kg) := (HKF.out.below PB.out (by omega)).cell 2
      go_upto_region 5 with fail
      clear b0 b1 b2
      have b0 : w5.cell? ⟨w.heap.size, 0, none⟩ = some (.int .u8 (e.toNat : Int)) := (HKF.out.below PB.out (by omega)).cell 0
      have b1 : w5.cell? ⟨w.heap.size, 1, none⟩ = some (.slice Aa na ka) := (HKF.out.below PB.out (by omega)).cell 1
      have b2 : w5.cell? ⟨w.heap.size, 2, none⟩ = some (.slice Ag ng kg) := (HKF.out.below PB.out (by omega)).cell 2
      go_wp2_with fail
      refine (count_any (⟨e, .slice Aa na ka, args, .slice Ag ng kg, A ++ [L]⟩ : FM) w5 (HOK.out.new PW.out) (by rw [HCT.out]; have := HCN2.out; have := HNG.out; show (A ++ [L]).length + ct ≤ 1050000; omega)).mono ?_
      rintro r w6 ⟨hr, p6⟩
      obtain rfl : r = .returned (.int .i64 (ct : Int)) := by rw [hr, HCT.out]
      clear hr
      have PBn := Lib.hid (PB.out.trans (p6.mono (Nat.le_trans HSZ.out PB.out.size)))
      clear PB PW p6 hT' hV' hM' b0 b1 b2
      have PB := PBn
      clear PBn
      have PW := Lib.hid (HAL.out.trans (PB.out.mono (by omega)))
      have hT' := Lib.hid (HT.out.new PW.out)
      have hV' := Lib.hid (HV.out.below PW.out HV.out.lt)
      have hM' := Lib.hid (HM.out.grow PW.out)
      rcases Nat.lt_or_ge ct 512 with hc | hc
      rotate_left
      · have k5 : decide ((512 : Int) ≤ (ct : Int)) = true := by rw [decide_eq_true_eq]; omega
        have k6 : (512 : Int) ≤ (ct : Int) := by omega
        have HY : Hid (Ck.fileL (⟨e, args.map SM.s, A.map GM.sg ++ [Ck.more (GM.sg L) s]⟩ : Ck.Fl) = some (5, 0)) := Lib.hid (by rw [HAO.out, if_pos hc])
        have b0 : w6.cell? ⟨w.heap.size, 0, none⟩ = some (.int .u8 (e.toNat : Int)) := (HKF.out.below PB.out (by omega)).cell 0
        have b1 : w6.cell? ⟨w.heap.size, 1, none⟩ = some (.slice Aa na ka) := (HKF.out.below PB.out (by omega)).cell 1
        have b2 : w6.cell? ⟨w.heap.size, 2, none⟩ = some (.slice Ag ng kg) := (HKF.out.below PB.out (by omega)).cell 2
        have c0 : w6.cell? ⟨w.heap.size + 1, 0, none⟩ = some (.int .i64 s.op) := (HKM.out.below PB.out (by omega)).cell 0
        have c1 : w6.cell? ⟨w.heap.size + 1, 1, none⟩ = some (.int .i64 s.line) := (HKM.out.below PB.out (by omega)).cell 1
        have c2 : w6.cell? ⟨w.heap.size + 1, 2, none⟩ = some (.string (bs s.from_)) := (HKM.out.below PB.out (by omega)).cell 2
        have c3 : w6.cell? ⟨w.heap.size + 1, 3, none⟩ = some (.string (bs s.mode)) := (HKM.out.below PB.out (by omega)).cell 3
        have c4 : w6.cell? ⟨w.heap.size + 1, 4, none⟩ = some (.bool s.force) := (HKM.out.below PB.out (by omega)).cell 4
        have c5 : w6.cell? ⟨w.heap.size + 1, 5, none⟩ = some (.slice Ap s.pairs.length kp) := (HKM.out.below PB.out (by omega)).cell 5
        have c6 : w6.cell? ⟨w.heap.size + 1, 6, none⟩ = some (.bool s.bare) := (HKM.out.below PB.out (by omega)).cell 6
        have c7 : w6.cell? ⟨w.heap.size + 1, 7, none⟩ = some (.slice Aw s.words.length kw) := (HKM.out.below PB.out (by omega)).cell 7
        have c8 : w6.cell? ⟨w.heap.size + 1, 8, none⟩ = some (.slice Ad s.docs.length kd) := (HKM.out.below PB.out (by omega)).cell 8
        have c9 : w6.cell? ⟨w.heap.size + 1, 9, none⟩ = some (.slice Ae s.exec.length ke) := (HKM.out.below PB.out (by omega)).cell 9
        go_wp2_with fail
        refine (with_any e _ _ args A L (⟨s, .slice Ap s.pairs.length kp, .slice Aw s.words.length kw, .slice Ad s.docs.length kd, .slice Ae s.exec.length ke⟩ : SM) w6 (HOK.out.new PW.out).a (HOK.out.new PW.out).g (HOM.out.new PW.out) HWN.out).mono ?_
        rintro r w7 ⟨⟨e2, va2, ar2, vg2, st2⟩, hr, ok2, q2, p7⟩
        obtain rfl : r = .returned (.agg #[.int .u8 (e2.toNat : Int), va2, vg2]) := hr
        have OK2 := Lib.hid ok2
        have Q2 := Lib.hid q2
        clear ok2 q2
        have PBn := Lib.hid (PB.out.trans (p7.mono (Nat.le_trans HSZ.out PB.out.size)))
        clear PB PW p7 hT' hV' hM' b0 b1 b2 c0 c1 c2 c3 c4 c5 c6 c7 c8 c9
        have PB := PBn
        clear PBn
        have PW := Lib.hid (HAL.out.trans (PB.out.mono (by omega)))
        have hT' := Lib.hid (HT.out.new PW.out)
        have hV' := Lib.hid (HV.out.below PW.out HV.out.lt)
        have hM' := Lib.hid (HM.out.grow PW.out)
        go_wp2_with fail
        refine (file_any (⟨e2, va2, ar2, vg2, st2⟩ : FM) w7 OK2.out (by rw [Q2.out]; exact HSX.out) hT'.out hM'.out hV'.out (Lib.hid ((congrArg Ck.fileL Q2.out).trans HY.out))).mono ?_
        rintro r w8 ⟨hr, p8⟩
        obtain rfl : r = .returned (eFault 5 0 0) := hr
        have PBn := Lib.hid (PB.out.trans (p8.mono (Nat.le_trans HSZ.out PB.out.size)))
        clear PB PW p8 hT' hV' hM'
        have PB := PBn
        clear PBn
        have PW := Lib.hid (HAL.out.trans (PB.out.mono (by omega)))
        have hT' := Lib.hid (HT.out.new PW.out)
        have hV' := Lib.hid (HV.out.below PW.out HV.out.lt)
        have hM' := Lib.hid (HM.out.grow PW.out)
        go_wp2_with fail
        refine (told_fault 5 0 (by decide) (by decide) w8 hV'.out).mono ?_
        rintro r w9 ⟨rfl, p9⟩
        have PBn := Lib.hid (PB.out.trans (p9.mono (Nat.le_trans HSZ.out PB.out.size)))
        clear PB PW p9 hT' hV' hM'
        have PB := PBn
        clear PBn
        have PW := Lib.hid (HAL.out.trans (PB.out.mono (by omega)))
        have hT' := Lib.hid (HT.out.new PW.out)
        have hV' := Lib.hid (HV.out.below PW.out HV.out.lt)
        have hM' := Lib.hid (HM.out.grow PW.out)
        go_wp2_with fail
        go_ret
        exact ⟨rfl, PW.out⟩
      have k5 : decide ((512 : Int) ≤ (ct : Int)) = false := by rw [decide_eq_false_iff_not]; omega
      have k6 : ¬ (512 : Int) ≤ (ct : Int) := by omega
      obtain ⟨z, HZ⟩ : ∃ z, Hid ((if Ck.stepL s e ≠ 0 then some (Ck.stepL s e, s.line) else none : Option (Nat × Int)) = z) := ⟨_, Lib.hid rfl⟩
      have HY : Hid (Ck.fileL (⟨e, args.map SM.s, A.map GM.sg ++ [Ck.more (GM.sg L) s]⟩ : Ck.Fl) = z) := Lib.hid (by rw [HAO.out, if_neg (by omega)]; exact HZ.out)
      obtain ⟨bq, hbq⟩ : ∃ b, ((e.toNat : Int) == 96) = b := ⟨_, rfl⟩
      have HEQ : Hid ((if bq then 96 else 92 : UInt8) = e) := Lib.hid (by rcases HESC.out with rfl | rfl <;> (rw [← hbq]; rfl))
      have HZ1 : Hid (Ck.fileL (Ck.one s (if bq then 96 else 92)) = z) := Lib.hid (by rw [HEQ.out, Ck.one_is s e HESC.out]; exact HZ.out)
      have b0 : w6.cell? ⟨w.heap.size, 0, none⟩ = some (.int .u8 (e.toNat : Int)) := (HKF.out.below PB.out (by omega)).cell 0
      have b1 : w6.cell? ⟨w.heap.size, 1, none⟩ = some (.slice Aa na ka) := (HKF.out.below PB.out (by omega)).cell 1
      have b2 : w6.cell? ⟨w.heap.size, 2, none⟩ = some (.slice Ag ng kg) := (HKF.out.below PB.out (by omega)).cell 2
      have c0 : w6.cell? ⟨w.heap.size + 1, 0, none⟩ = some (.int .i64 s.op) := (HKM.out.below PB.out (by omega)).cell 0
      have c1 : w6.cell? ⟨w.heap.size + 1, 1, none⟩ = some (.int .i64 s.line) := (HKM.out.below PB.out (by omega)).cell 1
      have c2 : w6.cell? ⟨w.heap.size + 1, 2, none⟩ = some (.string (bs s.from_)) := (HKM.out.below PB.out (by omega)).cell 2
      have c3 : w6.cell? ⟨w.heap.size + 1, 3, none⟩ = some (.string (bs s.mode)) := (HKM.out.below PB.out (by omega)).cell 3
      have c4 : w6.cell? ⟨w.heap.size + 1, 4, none⟩ = some (.bool s.force) := (HKM.out.below PB.out (by omega)).cell 4
      have c5 : w6.cell? ⟨w.heap.size + 1, 5, none⟩ = some (.slice Ap s.pairs.length kp) := (HKM.out.below PB.out (by omega)).cell 5
      have c6 : w6.cell? ⟨w.heap.size + 1, 6, none⟩ = some (.bool s.bare) := (HKM.out.below PB.out (by omega)).cell 6
      have c7 : w6.cell? ⟨w.heap.size + 1, 7, none⟩ = some (.slice Aw s.words.length kw) := (HKM.out.below PB.out (by omega)).cell 7
      have c8 : w6.cell? ⟨w.heap.size + 1, 8, none⟩ = some (.slice Ad s.docs.length kd) := (HKM.out.below PB.out (by omega)).cell 8
      have c9 : w6.cell? ⟨w.heap.size + 1, 9, none⟩ = some (.slice Ae s.exec.length ke) := (HKM.out.below PB.out (by omega)).cell 9
      go_wp2_with fail
      refine (one_any (⟨s, .slice Ap s.pairs.length kp, .slice Aw s.words.length kw, .slice Ad s.docs.length kd, .slice Ae s.exec.length ke⟩ : SM) bq w6 (HOM.out.new PW.out)).mono ?_
      rintro r w7 ⟨⟨e1, va1, ar1, vg1, st1⟩, hr, ok1, q1, p7⟩
      obtain rfl : r = .returned (.agg #[.int .u8 (e1.toNat : Int), va1, vg1]) := hr
      have OK1 := Lib.hid ok1
      have Q1 := Lib.hid q1
      clear ok1 q1
      have PBn := Lib.hid (PB.out.trans (p7.mono (Nat.le_trans HSZ.out PB.out.size)))
      clear PB PW p7 hT' hV' hM' b0 b1 b2 c0 c1 c2 c3 c4 c5 c6 c7 c8 c9
      have PB := PBn
      clear PBn
      have PW := Lib.hid (HAL.out.trans (PB.out.mono (by omega)))
      have hT' := Lib.hid (HT.out.new PW.out)
      have hV' := Lib.hid (HV.out.below PW.out HV.out.lt)
      have hM' := Lib.hid (HM.out.grow PW.out)
      go_wp2_with fail
      refine (file_any (⟨e1, va1, ar1, vg1, st1⟩ : FM) w7 OK1.out (by rw [Q1.out]; exact Ck.small_one HSM.out _) hT'.out hM'.out hV'.out (Lib.hid ((congrArg Ck.fileL Q1.out).trans HZ1.out))).mono ?_
      rintro r w8 ⟨rfl, p8⟩
      clear OK1 Q1
      have PBn := Lib.hid (PB.out.trans (p8.mono (Nat.le_trans HSZ.out PB.out.size)))
      clear PB PW p8 hT' hV' hM'
      have PB := PBn
      clear PBn
      have PW := Lib.hid (HAL.out.trans (PB.out.mono (by omega)))
      have hT' := Lib.hid (HT.out.new PW.out)
      have hV' := Lib.hid (HV.out.below PW.out HV.out.lt)
      have hM' := Lib.hid (HM.out.grow PW.out)
      go_upto_region 8 with fail
      have HZK : Hid (OkN z) := Lib.hid (by have q := Ck.file_ok (Ck.one s (if bq then 96 else 92)); rw [HZ1.out] at q; exact q)
      clear k0 k1 k5 k6 hbq
      rcases z with _ | ⟨n0, l0⟩
      · skip
        refine' wp_region_rely (fun wx => Below w8.heap.size w8 wx) (VA (⟨e, args.map SM.s, A.map GM.sg ++ [Ck.more (GM.sg L) s]⟩ : Ck.Fl) [.agg #[.int .u8 (e.toNat : Int), .slice Aa na ka, .slice Ag ng kg], .agg #[.int .i64 s.op, .int .i64 s.line, .string (bs s.from_), .string (bs s.mode), .bool s.force, .slice Ap s.pairs.length kp, .bool s.bare, .slice Aw s.words.length kw, .slice Ad s.docs.length kd, .slice Ae s.exec.length ke], undef, .nilIface, .nilIface, .int .i64 0, .pointer (some ⟨w.heap.size + 1, 1, none⟩), .int .i64 s.line, .bool true, .bool true, .nilIface, .bool true, .bool true, undef, undef, undef, undef, undef, undef, .bool true, .bool true, .bool true, .bool true, .bool true, .bool true]) ?Fn ?hFn (by kernel_rfl) (by kernel_rfl) (by kernel_rfl) (Below.refl _ _).drew ?hstepsn ?hQn
        case hFn =>
          intro xs
          refine (frameX_eq _ _ _).trans ?_
          simp only [frameL, Act.put, List.setIfInBounds_toArray, List.set_cons_zero, List.set_cons_succ, Nat.reduceAdd, Nat.zero_add]
          exact rfl
        case hstepsn =>
          as_aux_lemma =>
          refine Steps.cons (n := []) (k := 1) rfl (by kernel_rfl) (fun xs wx hS hV K hK => ?_) ?_
          · clear hV
            have PX := PB.out.trans (hS.mono (Nat.le_trans HSZ.out PB.out.size))
            have PXW := HAL.out.trans (PX.mono (by omega))
            have b0 : wx.cell? ⟨w.heap.size, 0, none⟩ = some (.int .u8 (e.toNat : Int)) := (HKF.out.below PX (by omega)).cell 0
            have b1 : wx.cell? ⟨w.heap.size, 1, none⟩ = some (.slice Aa na ka) := (HKF.out.below PX (by omega)).cell 1
            have b2 : wx.cell? ⟨w.heap.size, 2, none⟩ = some (.slice Ag ng kg) := (HKF.out.below PX (by omega)).cell 2
            go_simp
            exact hK.out _ _ hS rfl (fun _ _ h => h)
          refine Steps.cons (n := []) (k := 2) rfl (by kernel_rfl) (fun xs wx hS hV K hK => ?_) ?_
          · clear hV
            have PX := PB.out.trans (hS.mono (Nat.le_trans HSZ.out PB.out.size))
            have PXW := HAL.out.trans (PX.mono (by omega))
            have c0 : wx.cell? ⟨w.heap.size + 1, 0, none⟩ = some (.int .i64 s.op) := (HKM.out.below PX (by omega)).cell 0
            have c1 : wx.cell? ⟨w.heap.size + 1, 1, none⟩ = some (.int .i64 s.line) := (HKM.out.below PX (by omega)).cell 1
            have c2 : wx.cell? ⟨w.heap.size + 1, 2, none⟩ = some (.string (bs s.from_)) := (HKM.out.below PX (by omega)).cell 2
            have c3 : wx.cell? ⟨w.heap.size + 1, 3, none⟩ = some (.string (bs s.mode)) := (HKM.out.below PX (by omega)).cell 3
            have c4 : wx.cell? ⟨w.heap.size + 1, 4, none⟩ = some (.bool s.force) := (HKM.out.below PX (by omega)).cell 4
            have c5 : wx.cell? ⟨w.heap.size + 1, 5, none⟩ = some (.slice Ap s.pairs.length kp) := (HKM.out.below PX (by omega)).cell 5
            have c6 : wx.cell? ⟨w.heap.size + 1, 6, none⟩ = some (.bool s.bare) := (HKM.out.below PX (by omega)).cell 6
            have c7 : wx.cell? ⟨w.heap.size + 1, 7, none⟩ = some (.slice Aw s.words.length kw) := (HKM.out.below PX (by omega)).cell 7
            have c8 : wx.cell? ⟨w.heap.size + 1, 8, none⟩ = some (.slice Ad s.docs.length kd) := (HKM.out.below PX (by omega)).cell 8
            have c9 : wx.cell? ⟨w.heap.size + 1, 9, none⟩ = some (.slice Ae s.exec.length ke) := (HKM.out.below PX (by omega)).cell 9
            go_simp
            exact hK.out _ _ hS rfl (fun _ _ h => h)
          refine Steps.cons (n := [0, 1]) (k := 3) rfl (by kernel_rfl) (fun xs wx hS hV K hK => ?_) ?_
          · obtain ⟨d0, d1, -⟩ := hV
            replace d0 : xs 0 = .agg #[.int .u8 (e.toNat : Int), .slice Aa na ka, .slice Ag ng kg] := (Option.some.inj d0).symm
            replace d1 : xs 1 = .agg #[.int .i64 s.op, .int .i64 s.line, .string (bs s.from_), .string (bs s.mode), .bool s.force, .slice Ap s.pairs.length kp, .bool s.bare, .slice Aw s.words.length kw, .slice Ad s.docs.length kd, .slice Ae s.exec.length ke] := (Option.some.inj d1).symm
            rw [d0, d1] at hK ⊢
            go_simp
            have PX := PB.out.trans (hS.mono (Nat.le_trans HSZ.out PB.out.size))
            have PXW := HAL.out.trans (PX.mono (by omega))
            refine (with_any e _ _ args A L (⟨s, .slice Ap s.pairs.length kp, .slice Aw s.words.length kw, .slice Ad s.docs.length kd, .slice Ae s.exec.length ke⟩ : SM) wx (HOK.out.new PXW).a (HOK.out.new PXW).g (HOM.out.new PXW) HWN.out).mono ?_
            rintro r w2 ⟨f2, rfl, ok2, q2, p2⟩
            exact hK.out _ _ (hS.trans (p2.mono hS.size)) ⟨f2, rfl, ok2, q2⟩ (VA.new p2)
          refine Steps.cons (n := [2]) (k := 4) rfl (by kernel_rfl) (fun xs wx hS hV K hK => ?_) ?_
          · obtain ⟨d2, -⟩ := hV
            obtain ⟨f2, d2, ok2, q2⟩ := d2
            rw [d2] at hK ⊢
            go_simp
            have PX := PB.out.trans (hS.mono (Nat.le_trans HSZ.out PB.out.size))
            have PXW := HAL.out.trans (PX.mono (by omega))
            refine (file_any f2 wx ok2 (by rw [q2]; exact HSX.out) (HT.out.new PXW) (HM.out.grow PXW) (HV.out.below PXW HV.out.lt) (Lib.hid ((congrArg Ck.fileL q2).trans HY.out))).mono ?_
            rintro r w2 ⟨hr, p2⟩
            obtain rfl : r = .returned (.nilIface) := hr
            exact hK.out _ _ (hS.trans (p2.mono hS.size)) rfl (VA.new p2)
          refine Steps.cons (n := []) (k := 5) rfl (by kernel_rfl) (fun xs wx hS hV K hK => ?_) ?_
          · clear hV
            go_simp
            exact hK.out _ _ hS rfl (fun _ _ h => h)
          refine Steps.cons (n := [4]) (k := 6) rfl (by kernel_rfl) (fun xs wx hS hV K hK => ?_) ?_
          · obtain ⟨d4, -⟩ := hV
            replace d4 : xs 4 = .nilIface := (Option.some.inj d4).symm
            rw [d4] at hK ⊢
            go_simp
            refine (num_nil _).mono ?_
            rintro r w2 ⟨rfl, rfl⟩
            exact hK.out _ _ hS rfl (fun _ _ h => h)
          refine Steps.cons (n := []) (k := 7) rfl (by kernel_rfl) (fun xs wx hS hV K hK => ?_) ?_
          · clear hV
            go_simp
            exact hK.out _ _ hS rfl (fun _ _ h => h)
          refine Steps.cons (n := [6]) (k := 8) rfl (by kernel_rfl) (fun xs wx hS hV K hK => ?_) ?_
          · obtain ⟨d6, -⟩ := hV
            replace d6 : xs 6 = .pointer (some ⟨w.heap.size + 1, 1, none⟩) := (Option.some.inj d6).symm
            rw [d6] at hK ⊢
            have PX := PB.out.trans (hS.mono (Nat.le_trans HSZ.out PB.out.size))
            have PXW := HAL.out.trans (PX.mono (by omega))
            have c1 : wx.cell? ⟨w.heap.size + 1, 1, none⟩ = some (.int .i64 s.line) := (HKM.out.below PX (by omega)).cell 1
            go_simp
            exact hK.out _ _ hS rfl (fun _ _ h => h)
          refine Steps.cons (n := [3, 5, 7]) (k := 9) rfl (by kernel_rfl) (fun xs wx hS hV K hK => ?_) ?_
          · obtain ⟨d3, d5, d7, -⟩ := hV
            replace d3 : xs 3 = .nilIface := (Option.some.inj d3).symm
            replace d5 : xs 5 = .int .i64 0 := (Option.some.inj d5).symm
            replace d7 : xs 7 = .int .i64 s.line := (Option.some.inj d7).symm
            rw [d3, d5, d7] at hK ⊢
            go_simp
            refine (told_nil s.line wx).mono ?_
            rintro r w2 ⟨rfl, p2⟩
            exact hK.out _ _ (hS.trans (p2.mono hS.size)) rfl (VA.new p2)
          refine Steps.cons (n := [8]) (k := 10) rfl (by kernel_rfl) (fun xs wx hS hV K hK => ?_) ?_
          · obtain ⟨d8, -⟩ := hV
            replace d8 : xs 8 = .bool true := (Option.some.inj d8).symm
            rw [d8] at hK ⊢
            go_simp
            exact hK.out _ _ hS rfl (fun _ _ h => h)
          refine Steps.cons (n := [9]) (k := 11) rfl (by kernel_rfl) (fun xs wx hS hV K hK => ?_) ?_
          · obtain ⟨d9, -⟩ := hV
            replace d9 : xs 9 = .bool true := (Option.some.inj d9).symm
            rw [d9] at hK ⊢
            go_simp
            exact hK.out _ _ hS rfl (fun _ _ h => h)
          refine Steps.cons (n := [10, 9]) (k := 12) rfl (by kernel_rfl) (fun xs wx hS hV K hK => ?_) ?_
          · obtain ⟨d10, d9, -⟩ := hV
            replace d10 : xs 10 = .nilIface := (Option.some.inj d10).symm
            replace d9 : xs 9 = .bool true := (Option.some.inj d9).symm
            rw [d10, d9] at hK ⊢
            go_simp
            exact hK.out _ _ hS rfl (fun _ _ h => h)
          refine Steps.cons (n := [11, 9]) (k := 13) rfl (by kernel_rfl) (fun xs wx hS hV K hK => ?_) ?_
          · obtain ⟨d11, d9, -⟩ := hV
            replace d11 : xs 11 = .bool true := (Option.some.inj d11).symm
            replace d9 : xs 9 = .bool true := (Option.some.inj d9).symm
            rw [d11, d9] at hK ⊢
            go_simp
            exact hK.out _ _ hS rfl (fun _ _ h => h)
          refine Steps.cons (n := [12]) (k := 14) rfl (by kernel_rfl) (fun xs wx hS hV K hK => ?_) ?_
          · obtain ⟨d12, -⟩ := hV
            replace d12 : xs 12 = .bool true := (Option.some.inj d12).symm
            rw [d12] at hK ⊢
            go_simp
            exact hK.out _ _ hS rfl (fun _ _ h => h)
          refine Steps.cons (n := [12]) (k := 15) rfl (by kernel_rfl) (fun xs wx hS hV K hK => ?_) ?_
          · obtain ⟨d12, -⟩ := hV
            replace d12 : xs 12 = .bool true := (Option.some.inj d12).symm
            rw [d12] at hK ⊢
            go_simp
            exact hK.out _ _ hS rfl (fun _ _ h => h)
          refine Steps.cons (n := [14, 12]) (k := 16) rfl (by kernel_rfl) (fun xs wx hS hV K hK => ?_) ?_
          · obtain ⟨d14, d12, -⟩ := hV
            replace d14 : xs 14 = undef := (Option.some.inj d14).symm
            replace d12 : xs 12 = .bool true := (Option.some.inj d12).symm
            rw [d14, d12] at hK ⊢
            go_simp
            exact hK.out _ _ hS rfl (fun _ _ h => h)
          refine Steps.cons (n := [12]) (k := 17) rfl (by kernel_rfl) (fun xs wx hS hV K hK => ?_) ?_
          · obtain ⟨d12, -⟩ := hV
            replace d12 : xs 12 = .bool true := (Option.some.inj d12).symm
            rw [d12] at hK ⊢
            go_simp
            exact hK.out _ _ hS rfl (fun _ _ h => h)
          refine Steps.cons (n := [16, 12]) (k := 18) rfl (by kernel_rfl) (fun xs wx hS hV K hK => ?_) ?_
          · obtain ⟨d16, d12, -⟩ := hV
            replace d16 : xs 16 = undef := (Option.some.inj d16).symm
            replace d12 : xs 12 = .bool true := (Option.some.inj d12).symm
            rw [d16, d12] at hK ⊢
            have PX := PB.out.trans (hS.mono (Nat.le_trans HSZ.out PB.out.size))
            have PXW := HAL.out.trans (PX.mono (by omega))
            have c1 : wx.cell? ⟨w.heap.size + 1, 1, none⟩ = some (.int .i64 s.line) := (HKM.out.below PX (by omega)).cell 1
            go_simp
            exact hK.out _ _ hS rfl (fun _ _ h => h)
          refine Steps.cons (n := [13, 15, 17, 12]) (k := 19) rfl (by kernel_rfl) (fun xs wx hS hV K hK => ?_) ?_
          · obtain ⟨d13, d15, d17, d12, -⟩ := hV
            replace d13 : xs 13 = undef := (Option.some.inj d13).symm
            replace d15 : xs 15 = undef := (Option.some.inj d15).symm
            replace d17 : xs 17 = undef := (Option.some.inj d17).symm
            replace d12 : xs 12 = .bool true := (Option.some.inj d12).symm
            rw [d13, d15, d17, d12] at hK ⊢
            go_simp
            exact hK.out _ _ hS rfl (fun _ _ h => h)
          refine Steps.cons (n := [12, 18, 9]) (k := 20) rfl (by kernel_rfl) (fun xs wx hS hV K hK => ?_) ?_
          · obtain ⟨d12, d18, d9, -⟩ := hV
            replace d12 : xs 12 = .bool true := (Option.some.inj d12).symm
            replace d18 : xs 18 = undef := (Option.some.inj d18).symm
            replace d9 : xs 9 = .bool true := (Option.some.inj d9).symm
            rw [d12, d18, d9] at hK ⊢
            go_simp
            exact hK.out _ _ hS rfl (fun _ _ h => h)
          refine Steps.cons (n := [9, 19]) (k := 21) rfl (by kernel_rfl) (fun xs wx hS hV K hK => ?_) ?_
          · obtain ⟨d9, d19, -⟩ := hV
            replace d9 : xs 9 = .bool true := (Option.some.inj d9).symm
            replace d19 : xs 19 = .bool true := (Option.some.inj d19).symm
            rw [d9, d19] at hK ⊢
            go_simp
            exact hK.out _ _ hS rfl (fun _ _ h => h)
          refine Steps.cons (n := [20]) (k := 22) rfl (by kernel_rfl) (fun xs wx hS hV K hK => ?_) ?_
          · obtain ⟨d20, -⟩ := hV
            replace d20 : xs 20 = .bool true := (Option.some.inj d20).symm
            rw [d20] at hK ⊢
            go_simp
            exact hK.out _ _ hS rfl (fun _ _ h => h)
          refine Steps.cons (n := [21]) (k := 23) rfl (by kernel_rfl) (fun xs wx hS hV K hK => ?_) ?_
          · obtain ⟨d21, -⟩ := hV
            replace d21 : xs 21 = .bool true := (Option.some.inj d21).symm
            rw [d21] at hK ⊢
            go_simp
            have PX := PB.out.trans (hS.mono (Nat.le_trans HSZ.out PB.out.size))
            have PXW := HAL.out.trans (PX.mono (by omega))
            refine (works_ck wx (HT.out.new PXW) (HV.out.below PXW HV.out.lt) (HM.out.grow PXW)).mono ?_
            rintro r w2 ⟨rfl, p2⟩
            exact hK.out _ _ (hS.trans (p2.mono hS.size)) rfl (VA.new p2)
          refine Steps.cons (n := [21, 22]) (k := 24) rfl (by kernel_rfl) (fun xs wx hS hV K hK => ?_) ?_
          · obtain ⟨d21, d22, -⟩ := hV
            replace d21 : xs 21 = .bool true := (Option.some.inj d21).symm
            replace d22 : xs 22 = .bool true := (Option.some.inj d22).symm
            rw [d21, d22] at hK ⊢
            go_simp
            exact hK.out _ _ hS rfl (fun _ _ h => h)
          refine Steps.cons (n := [23]) (k := 25) rfl (by kernel_rfl) (fun xs wx hS hV K hK => ?_) ?_
          · obtain ⟨d23, -⟩ := hV
            replace d23 : xs 23 = .bool true := (Option.some.inj d23).symm
            rw [d23] at hK ⊢
            go_simp
            exact hK.out _ _ hS rfl (fun _ _ h => h)
          exact Steps.nil
        case hQn =>
          intro xs wx hS hV
          have d24 : xs 24 = .bool true := (Option.some.inj (hV 24 (by decide))).symm
          rw [d24]
          go_wp2_with fail
          go_ret
          exact ⟨rfl, PW.out.trans (hS.mono PW.out.size)⟩
      · obtain ⟨q1, q2⟩ := HZK.out n0 l0 rfl
        obtain rfl : l0 = s.line := by
          have q := HZ.out
          split at q
          · injection q with q; injection q with _ q; exact q.symm
          · cases q
        refine' wp_region_rely (fun wx => Below w8.heap.size w8 wx) (VA (⟨e, args.map SM.s, A.map GM.sg ++ [Ck.more (GM.sg L) s]⟩ : Ck.Fl) [.agg #[.int .u8 (e.toNat : Int), .slice Aa na ka, .slice Ag ng kg], .agg #[.int .i64 s.op, .int .i64 s.line, .string (bs s.from_), .string (bs s.mode), .bool s.force, .slice Ap s.pairs.length kp, .bool s.bare, .slice Aw s.words.length kw, .slice Ad s.docs.length kd, .slice Ae s.exec.length ke], undef, eFault (n0 : Int) s.line 0, eFault (n0 : Int) s.line 0, .int .i64 (n0 : Int), .pointer (some ⟨w.heap.size + 1, 1, none⟩), .int .i64 s.line, .bool true, .bool true, eFault (n0 : Int) s.line 0, .bool false, .bool false, eFault (n0 : Int) s.line 0, eFault (n0 : Int) s.line 0, .int .i64 (n0 : Int), .pointer (some ⟨w.heap.size + 1, 1, none⟩), .int .i64 s.line, .bool true, .bool true, .bool true, .bool true, .bool true, .bool true, .bool true]) ?Fs ?hFs (by kernel_rfl) (by kernel_rfl) (by kernel_rfl) (Below.refl _ _).drew ?hstepss ?hQs
        case hFs =>
          intro xs
          refine (frameX_eq _ _ _).trans ?_
          simp only [frameL, Act.put, List.setIfInBounds_toArray, List.set_cons_zero, List.set_cons_succ, Nat.reduceAdd, Nat.zero_add]
          exact rfl
        case hstepss =>
          as_aux_lemma =>
          refine Steps.cons (n := []) (k := 1) rfl (by kernel_rfl) (fun xs wx hS hV K hK => ?_) ?_
          · clear hV
            have PX := PB.out.trans (hS.mono (Nat.le_trans HSZ.out PB.out.size))
            have PXW := HAL.out.trans (PX.mono (by omega))
            have b0 : wx.cell? ⟨w.heap.size, 0, none⟩ = some (.int .u8 (e.toNat : Int)) := (HKF.out.below PX (by omega)).cell 0
            have b1 : wx.cell? ⟨w.heap.size, 1, none⟩ = some (.slice Aa na ka) := (HKF.out.below PX (by omega)).cell 1
            have b2 : wx.cell? ⟨w.heap.size, 2, none⟩ = some (.slice Ag ng kg) := (HKF.out.below PX (by omega)).cell 2
            go_simp
            exact hK.out _ _ hS rfl (fun _ _ h => h)
          refine Steps.cons (n := []) (k := 2) rfl (by kernel_rfl) (fun xs wx hS hV K hK => ?_) ?_
          · clear hV
            have PX := PB.out.trans (hS.mono (Nat.le_trans HSZ.out PB.out.size))
            have PXW := HAL.out.trans (PX.mono (by omega))
            have c0 : wx.cell? ⟨w.heap.size + 1, 0, none⟩ = some (.int .i64 s.op) := (HKM.out.below PX (by omega)).cell 0
            have c1 : wx.cell? ⟨w.heap.size + 1, 1, none⟩ = some (.int .i64 s.line) := (HKM.out.below PX (by omega)).cell 1
            have c2 : wx.cell? ⟨w.heap.size + 1, 2, none⟩ = some (.string (bs s.from_)) := (HKM.out.below PX (by omega)).cell 2
            have c3 : wx.cell? ⟨w.heap.size + 1, 3, none⟩ = some (.string (bs s.mode)) := (HKM.out.below PX (by omega)).cell 3
            have c4 : wx.cell? ⟨w.heap.size + 1, 4, none⟩ = some (.bool s.force) := (HKM.out.below PX (by omega)).cell 4
            have c5 : wx.cell? ⟨w.heap.size + 1, 5, none⟩ = some (.slice Ap s.pairs.length kp) := (HKM.out.below PX (by omega)).cell 5
            have c6 : wx.cell? ⟨w.heap.size + 1, 6, none⟩ = some (.bool s.bare) := (HKM.out.below PX (by omega)).cell 6
            have c7 : wx.cell? ⟨w.heap.size + 1, 7, none⟩ = some (.slice Aw s.words.length kw) := (HKM.out.below PX (by omega)).cell 7
            have c8 : wx.cell? ⟨w.heap.size + 1, 8, none⟩ = some (.slice Ad s.docs.length kd) := (HKM.out.below PX (by omega)).cell 8
            have c9 : wx.cell? ⟨w.heap.size + 1, 9, none⟩ = some (.slice Ae s.exec.length ke) := (HKM.out.below PX (by omega)).cell 9
            go_simp
            exact hK.out _ _ hS rfl (fun _ _ h => h)
          refine Steps.cons (n := [0, 1]) (k := 3) rfl (by kernel_rfl) (fun xs wx hS hV K hK => ?_) ?_
          · obtain ⟨d0, d1, -⟩ := hV
            replace d0 : xs 0 = .agg #[.int .u8 (e.toNat : Int), .slice Aa na ka, .slice Ag ng kg] := (Option.some.inj d0).symm
            replace d1 : xs 1 = .agg #[.int .i64 s.op, .int .i64 s.line, .string (bs s.from_), .string (bs s.mode), .bool s.force, .slice Ap s.pairs.length kp, .bool s.bare, .slice Aw s.words.length kw, .slice Ad s.docs.length kd, .slice Ae s.exec.length ke] := (Option.some.inj d1).symm
            rw [d0, d1] at hK ⊢
            go_simp
            have PX := PB.out.trans (hS.mono (Nat.le_trans HSZ.out PB.out.size))
            have PXW := HAL.out.trans (PX.mono (by omega))
            refine (with_any e _ _ args A L (⟨s, .slice Ap s.pairs.length kp, .slice Aw s.words.length kw, .slice Ad s.docs.length kd, .slice Ae s.exec.length ke⟩ : SM) wx (HOK.out.new PXW).a (HOK.out.new PXW).g (HOM.out.new PXW) HWN.out).mono ?_
            rintro r w2 ⟨f2, rfl, ok2, q2, p2⟩
            exact hK.out _ _ (hS.trans (p2.mono hS.size)) ⟨f2, rfl, ok2, q2⟩ (VA.new p2)
          refine Steps.cons (n := [2]) (k := 4) rfl (by kernel_rfl) (fun xs wx hS hV K hK => ?_) ?_
          · obtain ⟨d2, -⟩ := hV
            obtain ⟨f2, d2, ok2, q2⟩ := d2
            rw [d2] at hK ⊢
            go_simp
            have PX := PB.out.trans (hS.mono (Nat.le_trans HSZ.out PB.out.size))
            have PXW := HAL.out.trans (PX.mono (by omega))
            refine (file_any f2 wx ok2 (by rw [q2]; exact HSX.out) (HT.out.new PXW) (HM.out.grow PXW) (HV.out.below PXW HV.out.lt) (Lib.hid ((congrArg Ck.fileL q2).trans HY.out))).mono ?_
            rintro r w2 ⟨hr, p2⟩
            obtain rfl : r = .returned (eFault (n0 : Int) s.line 0) := hr
            exact hK.out _ _ (hS.trans (p2.mono hS.size)) rfl (VA.new p2)
          refine Steps.cons (n := []) (k := 5) rfl (by kernel_rfl) (fun xs wx hS hV K hK => ?_) ?_
          · clear hV
            go_simp
            exact hK.out _ _ hS rfl (fun _ _ h => h)
          refine Steps.cons (n := [4]) (k := 6) rfl (by kernel_rfl) (fun xs wx hS hV K hK => ?_) ?_
          · obtain ⟨d4, -⟩ := hV
            replace d4 : xs 4 = eFault (n0 : Int) s.line 0 := (Option.some.inj d4).symm
            rw [d4] at hK ⊢
            go_simp
            refine (num_fault (n0 : Int) s.line 0 (by omega) (by omega) _).mono ?_
            rintro r w2 ⟨rfl, p2⟩
            exact hK.out _ _ (hS.trans (p2.mono hS.size)) rfl (VA.new p2)
          refine Steps.cons (n := []) (k := 7) rfl (by kernel_rfl) (fun xs wx hS hV K hK => ?_) ?_
          · clear hV
            go_simp
            exact hK.out _ _ hS rfl (fun _ _ h => h)
          refine Steps.cons (n := [6]) (k := 8) rfl (by kernel_rfl) (fun xs wx hS hV K hK => ?_) ?_
          · obtain ⟨d6, -⟩ := hV
            replace d6 : xs 6 = .pointer (some ⟨w.heap.size + 1, 1, none⟩) := (Option.some.inj d6).symm
            rw [d6] at hK ⊢
            have PX := PB.out.trans (hS.mono (Nat.le_trans HSZ.out PB.out.size))
            have PXW := HAL.out.trans (PX.mono (by omega))
            have c1 : wx.cell? ⟨w.heap.size + 1, 1, none⟩ = some (.int .i64 s.line) := (HKM.out.below PX (by omega)).cell 1
            go_simp
            exact hK.out _ _ hS rfl (fun _ _ h => h)
          refine Steps.cons (n := [3, 5, 7]) (k := 9) rfl (by kernel_rfl) (fun xs wx hS hV K hK => ?_) ?_
          · obtain ⟨d3, d5, d7, -⟩ := hV
            replace d3 : xs 3 = eFault (n0 : Int) s.line 0 := (Option.some.inj d3).symm
            replace d5 : xs 5 = .int .i64 (n0 : Int) := (Option.some.inj d5).symm
            replace d7 : xs 7 = .int .i64 s.line := (Option.some.inj d7).symm
            rw [d3, d5, d7] at hK ⊢
            go_simp
            have PX := PB.out.trans (hS.mono (Nat.le_trans HSZ.out PB.out.size))
            have PXW := HAL.out.trans (PX.mono (by omega))
            refine (told_fault (n0 : Int) s.line (by omega) (by omega) wx (HV.out.below PXW HV.out.lt)).mono ?_
            rintro r w2 ⟨rfl, p2⟩
            exact hK.out _ _ (hS.trans (p2.mono hS.size)) rfl (VA.new p2)
          refine Steps.cons (n := [8]) (k := 10) rfl (by kernel_rfl) (fun xs wx hS hV K hK => ?_) ?_
          · obtain ⟨d8, -⟩ := hV
            replace d8 : xs 8 = .bool true := (Option.some.inj d8).symm
            rw [d8] at hK ⊢
            go_simp
            exact hK.out _ _ hS rfl (fun _ _ h => h)
          refine Steps.cons (n := [9]) (k := 11) rfl (by kernel_rfl) (fun xs wx hS hV K hK => ?_) ?_
          · obtain ⟨d9, -⟩ := hV
            replace d9 : xs 9 = .bool true := (Option.some.inj d9).symm
            rw [d9] at hK ⊢
            go_simp
            exact hK.out _ _ hS rfl (fun _ _ h => h)
          refine Steps.cons (n := [10, 9]) (k := 12) rfl (by kernel_rfl) (fun xs wx hS hV K hK => ?_) ?_
          · obtain ⟨d10, d9, -⟩ := hV
            replace d10 : xs 10 = eFault (n0 : Int) s.line 0 := (Option.some.inj d10).symm
            replace d9 : xs 9 = .bool true := (Option.some.inj d9).symm
            rw [d10, d9] at hK ⊢
            go_simp
            exact hK.out _ _ hS rfl (fun _ _ h => h)
          refine Steps.cons (n := [11, 9]) (k := 13) rfl (by kernel_rfl) (fun xs wx hS hV K hK => ?_) ?_
          · obtain ⟨d11, d9, -⟩ := hV
            replace d11 : xs 11 = .bool false := (Option.some.inj d11).symm
            replace d9 : xs 9 = .bool true := (Option.some.inj d9).symm
            rw [d11, d9] at hK ⊢
            go_simp
            exact hK.out _ _ hS rfl (fun _ _ h => h)
          refine Steps.cons (n := [12]) (k := 14) rfl (by kernel_rfl) (fun xs wx hS hV K hK => ?_) ?_
          · obtain ⟨d12, -⟩ := hV
            replace d12 : xs 12 = .bool false := (Option.some.inj d12).symm
            rw [d12] at hK ⊢
            go_simp
            exact hK.out _ _ hS rfl (fun _ _ h => h)
          refine Steps.cons (n := [12]) (k := 15) rfl (by kernel_rfl) (fun xs wx hS hV K hK => ?_) ?_
          · obtain ⟨d12, -⟩ := hV
            replace d12 : xs 12 = .bool false := (Option.some.inj d12).symm
            rw [d12] at hK ⊢
            go_simp
            exact hK.out _ _ hS rfl (fun _ _ h => h)
          refine Steps.cons (n := [14, 12]) (k := 16) rfl (by kernel_rfl) (fun xs wx hS hV K hK => ?_) ?_
          · obtain ⟨d14, d12, -⟩ := hV
            replace d14 : xs 14 = eFault (n0 : Int) s.line 0 := (Option.some.inj d14).symm
            replace d12 : xs 12 = .bool false := (Option.some.inj d12).symm
            rw [d14, d12] at hK ⊢
            go_simp
            refine (num_fault (n0 : Int) s.line 0 (by omega) (by omega) _).mono ?_
            rintro r w2 ⟨rfl, p2⟩
            exact hK.out _ _ (hS.trans (p2.mono hS.size)) rfl (VA.new p2)
          refine Steps.cons (n := [12]) (k := 17) rfl (by kernel_rfl) (fun xs wx hS hV K hK => ?_) ?_
          · obtain ⟨d12, -⟩ := hV
            replace d12 : xs 12 = .bool false := (Option.some.inj d12).symm
            rw [d12] at hK ⊢
            go_simp
            exact hK.out _ _ hS rfl (fun _ _ h => h)
          refine Steps.cons (n := [16, 12]) (k := 18) rfl (by kernel_rfl) (fun xs wx hS hV K hK => ?_) ?_
          · obtain ⟨d16, d12, -⟩ := hV
            replace d16 : xs 16 = .pointer (some ⟨w.heap.size + 1, 1, none⟩) := (Option.some.inj d16).symm
            replace d12 : xs 12 = .bool false := (Option.some.inj d12).symm
            rw [d16, d12] at hK ⊢
            have PX := PB.out.trans (hS.mono (Nat.le_trans HSZ.out PB.out.size))
            have PXW := HAL.out.trans (PX.mono (by omega))
            have c1 : wx.cell? ⟨w.heap.size + 1, 1, none⟩ = some (.int .i64 s.line) := (HKM.out.below PX (by omega)).cell 1
            go_simp
            exact hK.out _ _ hS rfl (fun _ _ h => h)
          refine Steps.cons (n := [13, 15, 17, 12]) (k := 19) rfl (by kernel_rfl) (fun xs wx hS hV K hK => ?_) ?_
          · obtain ⟨d13, d15, d17, d12, -⟩ := hV
            replace d13 : xs 13 = eFault (n0 : Int) s.line 0 := (Option.some.inj d13).symm
            replace d15 : xs 15 = .int .i64 (n0 : Int) := (Option.some.inj d15).symm
            replace d17 : xs 17 = .int .i64 s.line := (Option.some.inj d17).symm
            replace d12 : xs 12 = .bool false := (Option.some.inj d12).symm
            rw [d13, d15, d17, d12] at hK ⊢
            go_simp
            have PX := PB.out.trans (hS.mono (Nat.le_trans HSZ.out PB.out.size))
            have PXW := HAL.out.trans (PX.mono (by omega))
            refine (told_fault (n0 : Int) s.line (by omega) (by omega) wx (HV.out.below PXW HV.out.lt)).mono ?_
            rintro r w2 ⟨rfl, p2⟩
            exact hK.out _ _ (hS.trans (p2.mono hS.size)) rfl (VA.new p2)
          refine Steps.cons (n := [12, 18, 9]) (k := 20) rfl (by kernel_rfl) (fun xs wx hS hV K hK => ?_) ?_
          · obtain ⟨d12, d18, d9, -⟩ := hV
            replace d12 : xs 12 = .bool false := (Option.some.inj d12).symm
            replace d18 : xs 18 = .bool true := (Option.some.inj d18).symm
            replace d9 : xs 9 = .bool true := (Option.some.inj d9).symm
            rw [d12, d18, d9] at hK ⊢
            go_simp
            exact hK.out _ _ hS rfl (fun _ _ h => h)
          refine Steps.cons (n := [9, 19]) (k := 21) rfl (by kernel_rfl) (fun xs wx hS hV K hK => ?_) ?_
          · obtain ⟨d9, d19, -⟩ := hV
            replace d9 : xs 9 = .bool true := (Option.some.inj d9).symm
            replace d19 : xs 19 = .bool true := (Option.some.inj d19).symm
            rw [d9, d19] at hK ⊢
            go_simp
            exact hK.out _ _ hS rfl (fun _ _ h => h)
          refine Steps.cons (n := [20]) (k := 22) rfl (by kernel_rfl) (fun xs wx hS hV K hK => ?_) ?_
          · obtain ⟨d20, -⟩ := hV
            replace d20 : xs 20 = .bool true := (Option.some.inj d20).symm
            rw [d20] at hK ⊢
            go_simp
            exact hK.out _ _ hS rfl (fun _ _ h => h)
          refine Steps.cons (n := [21]) (k := 23) rfl (by kernel_rfl) (fun xs wx hS hV K hK => ?_) ?_
          · obtain ⟨d21, -⟩ := hV
            replace d21 : xs 21 = .bool true := (Option.some.inj d21).symm
            rw [d21] at hK ⊢
            go_simp
            have PX := PB.out.trans (hS.mono (Nat.le_trans HSZ.out PB.out.size))
            have PXW := HAL.out.trans (PX.mono (by omega))
            refine (works_ck wx (HT.out.new PXW) (HV.out.below PXW HV.out.lt) (HM.out.grow PXW)).mono ?_
            rintro r w2 ⟨rfl, p2⟩
            exact hK.out _ _ (hS.trans (p2.mono hS.size)) rfl (VA.new p2)
          refine Steps.cons (n := [21, 22]) (k := 24) rfl (by kernel_rfl) (fun xs wx hS hV K hK => ?_) ?_
          · obtain ⟨d21, d22, -⟩ := hV
            replace d21 : xs 21 = .bool true := (Option.some.inj d21).symm
            replace d22 : xs 22 = .bool true := (Option.some.inj d22).symm
            rw [d21, d22] at hK ⊢
            go_simp
            exact hK.out _ _ hS rfl (fun _ _ h => h)
          refine Steps.cons (n := [23]) (k := 25) rfl (by kernel_rfl) (fun xs wx hS hV K hK => ?_) ?_
          · obtain ⟨d23, -⟩ := hV
            replace d23 : xs 23 = .bool true := (Option.some.inj d23).symm
            rw [d23] at hK ⊢
            go_simp
            exact hK.out _ _ hS rfl (fun _ _ h => h)
          exact Steps.nil
        case hQs =>
          intro xs wx hS hV
          have d24 : xs 24 = .bool true := (Option.some.inj (hV 24 (by decide))).symm
          rw [d24]
          go_wp2_with fail
          go_ret
          exact ⟨rfl, PW.out.trans (hS.mono PW.out.size)⟩
end Go.Proofs.YtdaejggcjjdhkaaGreatDoor
