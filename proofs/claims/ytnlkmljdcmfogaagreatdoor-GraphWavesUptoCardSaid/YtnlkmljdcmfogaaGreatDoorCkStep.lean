/- check.step, walked. -/
import Derived.Test.YtnlkmljdcmfogaaGreatDoorCkN0
import Derived.Test.YtnlkmljdcmfogaaGreatDoorGwX0
import Derived.Test.YtnlkmljdcmfogaaGreatDoorCkP0
import Derived.Test.YtnlkmljdcmfogaaGreatDoorBld0
import Derived.Deep.RegionHeld3
import Derived.Deep.DeepCutAuto
import Derived.Deep.QuietTactic
import Derived.BigQuiet
import Derived.Deep.CutBlock
namespace Go.Proofs.YtnlkmljdcmfogaaGreatDoor
open Go Go.RowKit
theorem stepT : StK Tryz.prog 100 10 := ⟨⟨_, Tryz.underlying100⟩, by kernel_rfl⟩
theorem any_take (l : List Ck.Pr) (i : Nat) (hi : i < l.length) : (l.take (i + 1)).any (fun p => !p.val.isEmpty) = ((l.take i).any (fun p => !p.val.isEmpty) || !l[i].val.isEmpty) := by
  rw [List.take_add_one, List.getElem?_eq_getElem hi, List.any_append]
  simp
set_option maxRecDepth 100000 in
set_option linter.unusedSimpArgs false in
set_option maxHeartbeats 4000000 in
theorem step_any (m : SM) (e : UInt8) (w : World) (hok : m.Ok w) (hT : Tabs w) (hM : Maxl w) (hn : m.s.words.length + m.s.exec.length + m.s.pairs.length + m.s.docs.length ≤ 1050000) (hL : ∀ t ∈ Ck.textsL m.s, t.length ≤ 1050000) {n : Nat} (H : Hid (Ck.stepL m.s e = n)) :
    Calls Tryz.prog 110 #[.agg #[.int .i64 m.s.op, .int .i64 m.s.line, .string (bs m.s.from_), .string (bs m.s.mode), .bool m.s.force, m.vp, .bool m.s.bare, m.vw, m.vd, m.ve], .int .u8 (e.toNat : Int)] w fun r w' => r = .returned (errV n) ∧ Below w.heap.size w w' := by
  obtain ⟨s, vp, vw, vd, ve⟩ := m
  have hcp : SlA w vp s.pairs.length (prC s.pairs) := hok.cp
  have hcw : SlA w vw s.words.length (sc s.words) := hok.cw
  have hcd : SlA w vd s.docs.length (doC s.docs) := hok.cd
  have hce : SlA w ve s.exec.length (sc s.exec) := hok.ce
  have hdn := hok.dn
  dsimp only at hn hL H hdn ⊢
  clear hok
  obtain ⟨Ap, kp, rfl⟩ := hcp.form
  obtain ⟨Aw, kw, rfl⟩ := hcw.form
  obtain ⟨Ad, kd, rfl⟩ := hcd.form
  obtain ⟨Ae, ke, rfl⟩ := hce.form
  have hdn := hdn _ _ _ rfl
  have hal := (Below.refl w.heap.size w).alloc (Nat.le_refl _) (.cells #[.int .i64 s.op, .int .i64 s.line, .string (bs s.from_), .string (bs s.mode), .bool s.force, .slice Ap s.pairs.length kp, .bool s.bare, .slice Aw s.words.length kw, .slice Ad s.docs.length kd, .slice Ae s.exec.length ke] 100)
  have hk := Blk.new w 100 #[.int .i64 s.op, .int .i64 s.line, .string (bs s.from_), .string (bs s.mode), .bool s.force, .slice Ap s.pairs.length kp, .bool s.bare, .slice Aw s.words.length kw, .slice Ad s.docs.length kd, .slice Ae s.exec.length ke]
  obtain ⟨w1, hw1⟩ : ∃ x, w.alloc (.cells #[.int .i64 s.op, .int .i64 s.line, .string (bs s.from_), .string (bs s.mode), .bool s.force, .slice Ap s.pairs.length kp, .bool s.bare, .slice Aw s.words.length kw, .slice Ad s.docs.length kd, .slice Ae s.exec.length ke] 100) = x := ⟨_, rfl⟩
  have hz1 : w1.heap.size = w.heap.size + 1 := by rw [← hw1, World.size_alloc]
  rw [hw1] at hal hk
  have HW1 := Lib.hid hw1
  have HAL := Lib.hid hal
  have HK := Lib.hid hk
  have HP1 := Lib.hid (hcp.new hal)
  have HV1 := Lib.hid (hcw.new hal)
  have HD1 := Lib.hid (hcd.new hal)
  have HE1 := Lib.hid (hce.new hal)
  have HT1 := Lib.hid (hT.new hal)
  have HM1 := Lib.hid (hM.grow hal)
  have HZ1 := Lib.hid hz1
  have HL := Lib.hid hL
  have hsz1 : w.heap.size + 1 ≤ w1.heap.size := by omega
  clear hw1 hal hk hz1 hcp hcw hcd hce hT hM hL
  have heb : e.toNat < 256 := UInt8.toNat_lt _
  obtain ⟨x1, e1⟩ : ∃ b, (s.op == 1) = b := ⟨_, rfl⟩
  obtain ⟨x2, e2⟩ : ∃ b, (s.op == 2) = b := ⟨_, rfl⟩
  obtain ⟨x3, e3⟩ : ∃ b, (s.op == 3) = b := ⟨_, rfl⟩
  obtain ⟨x5, e5⟩ : ∃ b, (s.op == 5) = b := ⟨_, rfl⟩
  obtain ⟨x13, e13⟩ : ∃ b, (s.op == 13) = b := ⟨_, rfl⟩
  obtain ⟨x14, e14⟩ : ∃ b, (s.op == 14) = b := ⟨_, rfl⟩
  go_enter Tryz.func110, Tryz.ntmps110
  go_upto_region 1 with fail
  rw [HW1.out]
  have b0 : w1.cell? ⟨w.heap.size, 0, none⟩ = some (.int .i64 s.op) := HK.out.cell 0
  have b2 : w1.cell? ⟨w.heap.size, 2, none⟩ = some (.string (bs s.from_)) := HK.out.cell 2
  have b3 : w1.cell? ⟨w.heap.size, 3, none⟩ = some (.string (bs s.mode)) := HK.out.cell 3
  have b4 : w1.cell? ⟨w.heap.size, 4, none⟩ = some (.bool s.force) := HK.out.cell 4
  have b5 : w1.cell? ⟨w.heap.size, 5, none⟩ = some (.slice Ap s.pairs.length kp) := HK.out.cell 5
  have b6 : w1.cell? ⟨w.heap.size, 6, none⟩ = some (.bool s.bare) := HK.out.cell 6
  have b7 : w1.cell? ⟨w.heap.size, 7, none⟩ = some (.slice Aw s.words.length kw) := HK.out.cell 7
  have b8 : w1.cell? ⟨w.heap.size, 8, none⟩ = some (.slice Ad s.docs.length kd) := HK.out.cell 8
  have b9 : w1.cell? ⟨w.heap.size, 9, none⟩ = some (.slice Ae s.exec.length ke) := HK.out.cell 9
  obtain ⟨pp, hpp⟩ : ∃ b, Hid ((x1 || x2 || x3) = b) := ⟨_, Lib.hid rfl⟩
  obtain ⟨px, hpx⟩ : ∃ b, Hid ((x13 || x14) = b) := ⟨_, Lib.hid rfl⟩
  obtain ⟨pb, hpb⟩ : ∃ b, Hid ((s.bare && !x1) = b) := ⟨_, Lib.hid rfl⟩
  go_cut [5] from 28 to 40 (fun s5 wx => s5 = .bool pp ∧ w1 = wx)
  case first =>
    as_aux_lemma =>
    cases x1 <;> cases x2 <;> (
      go_wp2_with fail
      go_meet
      rw [← hpp.out]
      first | exact ⟨rfl, rfl⟩ | exact ⟨by cases x3 <;> rfl, rfl⟩)
  case rest =>
    obtain ⟨rfl, rfl⟩ := hcut
    go_upto_region 2 with fail
    go_cut [6] from 41 to 48 (fun s6 wx => s6 = .bool px ∧ w1 = wx)
    case first =>
      as_aux_lemma =>
      cases x13 <;> (
        go_wp2_with fail
        go_meet
        rw [← hpx.out]
        first | exact ⟨rfl, rfl⟩ | exact ⟨by cases x14 <;> rfl, rfl⟩)
    case rest =>
      obtain ⟨rfl, rfl⟩ := hcut
      go_upto_region 4 with fail
      go_cut [8] from 52 to 58 (fun s8 wx => s8 = .bool pb ∧ w1 = wx)
      case first =>
        as_aux_lemma =>
        obtain ⟨br, hbr⟩ : ∃ b, s.bare = b := ⟨_, rfl⟩
        rw [hbr] at b6 hpb
        cases br <;> (
          go_wp2_with fail
          go_meet
          rw [← hpb.out]
          first | exact ⟨rfl, rfl⟩ | exact ⟨by rw [Bool.true_and, ← e1]; rfl, rfl⟩)
      case rest =>
        obtain ⟨rfl, rfl⟩ := hcut
        go_upto_block 0 with fail
        go_cut [8] from 63 to 76 (fun s8 wx => (∃ v : Bool, s8 = .bool v ∧ Hid (Ck.baB s = v)) ∧ Hid (Below (w.heap.size + 1) w1 wx))
        case first =>
          as_aux_lemma =>
          go_wp2_with fail
          go_loopw [8, 10, 62] (fun t8 _ t62 wr => ∃ (i : Nat), i ≤ s.pairs.length ∧ t62 = .int .i64 (i : Int) ∧ (∃ v : Bool, t8 = .bool v ∧ Hid ((pb || (s.bare && (s.pairs.take i).any fun p => !p.val.isEmpty)) = v)) ∧ Hid (Below (w.heap.size + 1) w1 wr)) (fun _ _ t62 _ => s.pairs.length - (intOf t62).toNat)
          case atStart => exact ⟨0, by omega, rfl, ⟨pb, rfl, Lib.hid (by simp)⟩, Lib.hid (Below.refl _ _)⟩
          case round =>
            as_aux_lemma =>
            rename World => wr
            obtain ⟨i, hi, rfl, ⟨v, rfl, HV⟩, HB⟩ := hrel
            rcases Nat.lt_or_ge i s.pairs.length with hin | hin
            · have i0 : decide ((i : Int) < (s.pairs.length : Int)) = true := by rw [decide_eq_true_eq]; omega
              have i1 : (i : Int) < (s.pairs.length : Int) := by omega
              have j0 : (0 : Int) ≤ (i : Int) := by omega
              obtain ⟨g, o, c, hv, c0, c1⟩ := pr_at (hb1' HZ1.out HB.out HP1.out) hin
              injection hv with hA _ hcc
              subst hA
              subst hcc
              have HSN := Lib.hid (any_take s.pairs i hin)
              obtain ⟨x, hx⟩ : ∃ x, s.pairs[i].key = x := ⟨_, rfl⟩
              obtain ⟨y, hy⟩ : ∃ y, s.pairs[i].val = y := ⟨_, rfl⟩
              rw [hx] at c0
              rw [hy] at c1 HSN
              clear hx hy
              have hszr : w.heap.size + 1 ≤ wr.heap.size := Nat.le_trans hsz1 HB.out.size
              have HBA := Lib.hid (HB.out.alloc hszr (.cells #[.string (bs x), .string (bs y)] 166))
              have a6 : (wr.alloc (.cells #[.string (bs x), .string (bs y)] 166)).cell? ⟨w.heap.size, 6, none⟩ = some (.bool s.bare) := ((HK.out.below HB.out (by omega)).alloc _).cell 6
              obtain ⟨ye, hye⟩ : ∃ b, (bs y).toList.isEmpty = b := ⟨_, rfl⟩
              have HYE : Hid (y.isEmpty = ye) := Lib.hid (by rw [← hye, bs_list])
              obtain ⟨br, hbr⟩ : ∃ b, s.bare = b := ⟨_, rfl⟩
              rw [hbr] at a6 HV
              have HBR := Lib.hid hbr
              clear hbr
              have HV2 : Hid ((pb || (s.bare && (s.pairs.take (i + 1)).any fun p => !p.val.isEmpty)) = (v || (br && !ye))) := Lib.hid (by
                rw [HSN.out, HYE.out, ← HV.out, HBR.out]
                cases pb <;> cases br <;> simp)
              cases v <;> cases br <;> cases ye <;> (
                go_wp2_with fail
                go_roundw
                case rel => first | exact ⟨i + 1, by omega, by go_num, ⟨_, rfl, HV2⟩, HBA⟩ | exact ⟨_, _, _, ⟨i + 1, by omega, by go_num, ⟨_, rfl, HV2⟩, HBA⟩, rfl, rfl, rfl⟩ | exact ⟨_, _, _, ⟨i + 1, by omega, by go_num, ⟨_, rfl, HV2⟩⟩, rfl, rfl, rfl⟩
                case measure => simp [intOf]; omega)
            · have i0 : decide ((i : Int) < (s.pairs.length : Int)) = false := by rw [decide_eq_false_iff_not]; omega
              have HVE : Hid (Ck.baB s = v) := Lib.hid (by
                have h := HV.out
                rw [List.take_of_length_le hin] at h
                rw [← h, Ck.baB, ← hpb.out, ← e1])
              go_wp2_with fail
              go_meet
              exact ⟨⟨v, rfl, HVE⟩, HB⟩
        case rest =>
          obtain ⟨⟨bb, rfl, HBB⟩, HB2⟩ := hcut
          rename World => w2
          have hsz2 : w.heap.size + 1 ≤ w2.heap.size := Nat.le_trans hsz1 HB2.out.size
          have HK2 := Lib.hid (HK.out.below HB2.out (by omega))
          obtain ⟨lo, hlo⟩ : ∃ k, Hid (Ck.least s.op = k) := ⟨_, Lib.hid rfl⟩
          obtain ⟨hi, hhi⟩ : ∃ k, Hid (Ck.most s.op = k) := ⟨_, Lib.hid rfl⟩
          have lo2 : lo ≤ 2 := by
            have h := hlo.out
            unfold Ck.least at h
            (repeat' split at h) <;> omega
          have hi64 : hi ≤ 64 := by
            have h := hhi.out
            unfold Ck.most at h
            (repeat' split at h) <;> omega
          have d0 : w2.cell? ⟨w.heap.size, 0, none⟩ = some (.int .i64 s.op) := HK2.out.cell 0
          clear b0 b2 b3 b4 b5 b6 b7 b8 b9
          go_upto_block 2 with fail
          go_cut [11, 12] from 79 to 91 (fun s11 s12 wx => s11 = .int .i64 (lo : Int) ∧ s12 = .int .i64 (hi : Int) ∧ w2 = wx)
          case first =>
            as_aux_lemma =>
            clear e1 e2 e3 e5 e13 e14
            rcases Decidable.em (s.op = 1) with q1 | q1
            · have f1 : (s.op == 1) = true := by rw [beq_iff_eq]; exact q1
              go_wp2_with fail
              go_meet
              refine ⟨?_, ?_, rfl⟩
              · have h := hlo.out
                unfold Ck.least at h
                (repeat' split at h) <;> first | omega | (subst h; rfl)
              · have h := hhi.out
                unfold Ck.most at h
                (repeat' split at h) <;> first | omega | (subst h; rfl)
            · have f1 : (s.op == 1) = false := by rw [beq_eq_false_iff_ne]; exact q1
              rcases Decidable.em (s.op = 4) with q4 | q4
              · have f4 : (s.op == 4) = true := by rw [beq_iff_eq]; exact q4
                go_wp2_with fail
                go_meet
                refine ⟨?_, ?_, rfl⟩
                · have h := hlo.out
                  unfold Ck.least at h
                  (repeat' split at h) <;> first | omega | (subst h; rfl)
                · have h := hhi.out
                  unfold Ck.most at h
                  (repeat' split at h) <;> first | omega | (subst h; rfl)
              · have f4 : (s.op == 4) = false := by rw [beq_eq_false_iff_ne]; exact q4
                rcases Decidable.em (s.op = 11) with q11 | q11
                · have f11 : (s.op == 11) = true := by rw [beq_iff_eq]; exact q11
                  go_wp2_with fail
                  go_meet
                  refine ⟨?_, ?_, rfl⟩
                  · have h := hlo.out
                    unfold Ck.least at h
                    (repeat' split at h) <;> first | omega | (subst h; rfl)
                  · have h := hhi.out
                    unfold Ck.most at h
                    (repeat' split at h) <;> first | omega | (subst h; rfl)
                · have f11 : (s.op == 11) = false := by rw [beq_eq_false_iff_ne]; exact q11
                  rcases Decidable.em (s.op = 9) with q9 | q9
                  · have f9 : (s.op == 9) = true := by rw [beq_iff_eq]; exact q9
                    go_wp2_with fail
                    go_meet
                    refine ⟨?_, ?_, rfl⟩
                    · have h := hlo.out
                      unfold Ck.least at h
                      (repeat' split at h) <;> first | omega | (subst h; rfl)
                    · have h := hhi.out
                      unfold Ck.most at h
                      (repeat' split at h) <;> first | omega | (subst h; rfl)
                  · have f9 : (s.op == 9) = false := by rw [beq_eq_false_iff_ne]; exact q9
                    rcases Decidable.em (s.op = 5) with q5 | q5
                    · have f5 : (s.op == 5) = true := by rw [beq_iff_eq]; exact q5
                      go_wp2_with fail
                      go_meet
                      refine ⟨?_, ?_, rfl⟩
                      · have h := hlo.out
                        unfold Ck.least at h
                        (repeat' split at h) <;> first | omega | (subst h; rfl)
                      · have h := hhi.out
                        unfold Ck.most at h
                        (repeat' split at h) <;> first | omega | (subst h; rfl)
                    · have f5 : (s.op == 5) = false := by rw [beq_eq_false_iff_ne]; exact q5
                      rcases Decidable.em (s.op = 6) with q6 | q6
                      · have f6 : (s.op == 6) = true := by rw [beq_iff_eq]; exact q6
                        go_wp2_with fail
                        go_meet
                        refine ⟨?_, ?_, rfl⟩
                        · have h := hlo.out
                          unfold Ck.least at h
                          (repeat' split at h) <;> first | omega | (subst h; rfl)
                        · have h := hhi.out
                          unfold Ck.most at h
                          (repeat' split at h) <;> first | omega | (subst h; rfl)
                      · have f6 : (s.op == 6) = false := by rw [beq_eq_false_iff_ne]; exact q6
                        rcases Decidable.em (s.op = 10) with q10 | q10
                        · have f10 : (s.op == 10) = true := by rw [beq_iff_eq]; exact q10
                          go_wp2_with fail
                          go_meet
                          refine ⟨?_, ?_, rfl⟩
                          · have h := hlo.out
                            unfold Ck.least at h
                            (repeat' split at h) <;> first | omega | (subst h; rfl)
                          · have h := hhi.out
                            unfold Ck.most at h
                            (repeat' split at h) <;> first | omega | (subst h; rfl)
                        · have f10 : (s.op == 10) = false := by rw [beq_eq_false_iff_ne]; exact q10
                          rcases Decidable.em (s.op = 13) with q13 | q13
                          · have f13 : (s.op == 13) = true := by rw [beq_iff_eq]; exact q13
                            go_wp2_with fail
                            go_meet
                            refine ⟨?_, ?_, rfl⟩
                            · have h := hlo.out
                              unfold Ck.least at h
                              (repeat' split at h) <;> first | omega | (subst h; rfl)
                            · have h := hhi.out
                              unfold Ck.most at h
                              (repeat' split at h) <;> first | omega | (subst h; rfl)
                          · have f13 : (s.op == 13) = false := by rw [beq_eq_false_iff_ne]; exact q13
                            rcases Decidable.em (s.op = 14) with q14 | q14
                            · have f14 : (s.op == 14) = true := by rw [beq_iff_eq]; exact q14
                              go_wp2_with fail
                              go_meet
                              refine ⟨?_, ?_, rfl⟩
                              · have h := hlo.out
                                unfold Ck.least at h
                                (repeat' split at h) <;> first | omega | (subst h; rfl)
                              · have h := hhi.out
                                unfold Ck.most at h
                                (repeat' split at h) <;> first | omega | (subst h; rfl)
                            · have f14 : (s.op == 14) = false := by rw [beq_eq_false_iff_ne]; exact q14
                              go_wp2_with fail
                              go_meet
                              refine ⟨?_, ?_, rfl⟩
                              · have h := hlo.out
                                unfold Ck.least at h
                                (repeat' split at h) <;> first | omega | (subst h; rfl)
                              · have h := hhi.out
                                unfold Ck.most at h
                                (repeat' split at h) <;> first | omega | (subst h; rfl)
          case rest =>
            obtain ⟨rfl, rfl, rfl⟩ := hcut
            have d5 : w2.cell? ⟨w.heap.size, 5, none⟩ = some (.slice Ap s.pairs.length kp) := HK2.out.cell 5
            have d7 : w2.cell? ⟨w.heap.size, 7, none⟩ = some (.slice Aw s.words.length kw) := HK2.out.cell 7
            have d9 : w2.cell? ⟨w.heap.size, 9, none⟩ = some (.slice Ae s.exec.length ke) := HK2.out.cell 9
            have HNN : Hid (Ck.numN s = s.words.length + s.pairs.length + s.exec.length) := Lib.hid rfl
            obtain ⟨nn, hnn⟩ : ∃ k, Ck.numN s = k := ⟨_, rfl⟩
            have hnn2 : nn ≤ 1050000 := by have := HNN.out; omega
            have nle : (s.pairs.length : Int) + (s.words.length : Int) + (s.exec.length : Int) = (nn : Int) := by have := HNN.out; omega
            have nl1 : s.words.length ≤ 1050000 := by omega
            have nl2 : s.exec.length ≤ 1050000 := by omega
            have nl3 : s.pairs.length ≤ 1050000 := by omega
            go_upto_region 25 with fail
            go_cut [13] from 92 to 102 (fun s13 wx => s13 = .int .i64 (nn : Int) ∧ w2 = wx)
            case first =>
              as_aux_lemma =>
              go_wp2_with fail
              go_meet
              refine ⟨?_, rfl⟩
              first | rw [← nle] | (rw [IntWalk.i64_in _ (by omega), IntWalk.i64_in _ (by omega), nle]) | (rw [IntWalk.i64_in _ (by omega), nle]) | skip
            case rest =>
              obtain ⟨rfl, rfl⟩ := hcut
              have HCH0 : Hid (Ck.chain (decide (s.op < 1) || decide (14 < s.op)) ((Ck.textsL s).any Ck.badT) (Ck.c20a s || Ck.c20b s || Ck.c20c s) (Ck.c4a s || Ck.c4b s || Ck.c4c s || Ck.c4d s || Ck.baB s) (decide (Ck.numN s < Ck.least s.op)) (decide (Ck.most s.op < Ck.numN s) && decide (Ck.most s.op < 64)) (decide (Ck.most s.op < Ck.numN s)) (Ck.c31 s) (Ck.c16 s) (if Ck.pairsL s.op e s.pairs ≠ 0 then Ck.pairsL s.op e s.pairs else Ck.bodyL s e) = n) := Lib.hid (by rw [← Ck.stepL_chain]; exact H.out)
              obtain ⟨r, hr⟩ : ∃ k, Hid ((if Ck.pairsL s.op e s.pairs ≠ 0 then Ck.pairsL s.op e s.pairs else Ck.bodyL s e) = k) := ⟨_, Lib.hid rfl⟩
              go_upto_block 3 with fail
              go_cut [] from 103 to 240 (fun wx => Hid (r = n) ∧ Hid (Below (w.heap.size + 1) w1 wx))
              case first =>
                as_aux_lemma =>
                obtain ⟨y1, z1⟩ : ∃ b, decide (s.op < 1) = b := ⟨_, rfl⟩
                obtain ⟨y2, z2⟩ : ∃ b, decide (14 < s.op) = b := ⟨_, rfl⟩
                obtain ⟨c6, h6⟩ : ∃ b, Hid ((Ck.textsL s).any Ck.badT = b) := ⟨_, Lib.hid rfl⟩
                obtain ⟨a20, ha20⟩ : ∃ b, Hid (Ck.c20a s = b) := ⟨_, Lib.hid rfl⟩
                obtain ⟨b20, hb20⟩ : ∃ b, Hid (Ck.c20b s = b) := ⟨_, Lib.hid rfl⟩
                obtain ⟨k20, hk20⟩ : ∃ b, Hid (Ck.c20c s = b) := ⟨_, Lib.hid rfl⟩
                obtain ⟨a4, ha4⟩ : ∃ b, Hid (Ck.c4a s = b) := ⟨_, Lib.hid rfl⟩
                obtain ⟨b4, hb4⟩ : ∃ b, Hid (Ck.c4b s = b) := ⟨_, Lib.hid rfl⟩
                obtain ⟨k4, hk4⟩ : ∃ b, Hid (Ck.c4c s = b) := ⟨_, Lib.hid rfl⟩
                obtain ⟨j4, hj4⟩ : ∃ b, Hid (Ck.c4d s = b) := ⟨_, Lib.hid rfl⟩
                obtain ⟨f2, hf2⟩ : ∃ b, decide (nn < lo) = b := ⟨_, rfl⟩
                obtain ⟨f3, hf3⟩ : ∃ b, decide (hi < nn) = b := ⟨_, rfl⟩
                obtain ⟨f4, hf4⟩ : ∃ b, decide (hi < 64) = b := ⟨_, rfl⟩
                obtain ⟨z31, hz31⟩ : ∃ b, Hid (Ck.c31 s = b) := ⟨_, Lib.hid rfl⟩
                obtain ⟨z16, hz16⟩ : ∃ b, Hid (Ck.c16 s = b) := ⟨_, Lib.hid rfl⟩
                have HCH : Hid (Ck.chain (y1 || y2) c6 (a20 || b20 || k20) (a4 || b4 || k4 || j4 || bb) f2 (f3 && f4) f3 z31 z16 r = n) := Lib.hid (by
                  rw [← z1, ← z2, ← h6.out, ← ha20.out, ← hb20.out, ← hk20.out, ← ha4.out, ← hb4.out, ← hk4.out, ← hj4.out, ← HBB.out, ← hf2, ← hf3, ← hf4, ← hz31.out, ← hz16.out, ← hr.out, ← hlo.out, ← hhi.out, ← hnn]
                  exact HCH0.out)
                have g2 : decide ((nn : Int) < (lo : Int)) = f2 := by rw [← hf2, decide_eq_decide]; omega
                have g3 : decide ((hi : Int) < (nn : Int)) = f3 := by rw [← hf3, decide_eq_decide]; omega
                have g4 : decide ((hi : Int) < 64) = f4 := by rw [← hf4, decide_eq_decide]; omega
                have HA2 := Lib.hid (HAL.out.trans (HB2.out.mono (by omega)))
                clear HCH0 H d5 d7 d9 HNN nle hlo hhi
                cases y1 with
                | true =>
                  go_wp2_with fail
                  go_ret
                  exact ⟨by rw [← HCH.out]; rfl, HA2.out⟩
                | false =>
                cases y2 with
                | true =>
                  go_wp2_with fail
                  go_ret
                  exact ⟨by rw [← HCH.out]; rfl, HA2.out⟩
                | false =>
                have d1 : w2.cell? ⟨w.heap.size, 1, none⟩ = some (.int .i64 s.line) := HK2.out.cell 1
                have d2 : w2.cell? ⟨w.heap.size, 2, none⟩ = some (.string (bs s.from_)) := HK2.out.cell 2
                have d3 : w2.cell? ⟨w.heap.size, 3, none⟩ = some (.string (bs s.mode)) := HK2.out.cell 3
                have d4 : w2.cell? ⟨w.heap.size, 4, none⟩ = some (.bool s.force) := HK2.out.cell 4
                have d5 : w2.cell? ⟨w.heap.size, 5, none⟩ = some (.slice Ap s.pairs.length kp) := HK2.out.cell 5
                have d6 : w2.cell? ⟨w.heap.size, 6, none⟩ = some (.bool s.bare) := HK2.out.cell 6
                have d7 : w2.cell? ⟨w.heap.size, 7, none⟩ = some (.slice Aw s.words.length kw) := HK2.out.cell 7
                have d8 : w2.cell? ⟨w.heap.size, 8, none⟩ = some (.slice Ad s.docs.length kd) := HK2.out.cell 8
                have d9 : w2.cell? ⟨w.heap.size, 9, none⟩ = some (.slice Ae s.exec.length ke) := HK2.out.cell 9
                have HV := Lib.hid (valid_ck ⟨s, .slice Ap s.pairs.length kp, .slice Aw s.words.length kw, .slice Ad s.docs.length kd, .slice Ae s.exec.length ke⟩ w2 ⟨hb1' HZ1.out HB2.out HP1.out, hb1' HZ1.out HB2.out HV1.out, hb1' HZ1.out HB2.out HD1.out, hb1' HZ1.out HB2.out HE1.out, fun A n c h => by injection h with h1 h2 h3; omega⟩ (HT1.out.new (by rw [HZ1.out]; exact HB2.out)) hn (fun t ht => Nat.le_trans (HL.out t ht) (by decide)) h6)
                go_upto_region 28 with fail
                go_wp2_with fail
                refine HV.out.mono ?_
                rintro r3 w3 ⟨rfl, p3⟩
                have HB3 := Lib.hid (HB2.out.trans (p3.mono hsz2))
                have HK3 := Lib.hid (HK2.out.below p3 (by omega))
                clear p3 HV HK2 d0 d1 d2 d3 d4 d5 d6 d7 d8 d9
                have HA3 := Lib.hid (HAL.out.trans (HB3.out.mono (by omega)))
                cases c6 with
                | true =>
                  go_wp2_with fail
                  go_ret
                  exact ⟨by rw [← HCH.out]; rfl, HA3.out⟩
                | false =>
                have b0 : w3.cell? ⟨w.heap.size, 0, none⟩ = some (.int .i64 s.op) := HK3.out.cell 0
                have b2 : w3.cell? ⟨w.heap.size, 2, none⟩ = some (.string (bs s.from_)) := HK3.out.cell 2
                have b3 : w3.cell? ⟨w.heap.size, 3, none⟩ = some (.string (bs s.mode)) := HK3.out.cell 3
                have b4' : w3.cell? ⟨w.heap.size, 4, none⟩ = some (.bool s.force) := HK3.out.cell 4
                have b5 : w3.cell? ⟨w.heap.size, 5, none⟩ = some (.slice Ap s.pairs.length kp) := HK3.out.cell 5
                have b7 : w3.cell? ⟨w.heap.size, 7, none⟩ = some (.slice Aw s.words.length kw) := HK3.out.cell 7
                have b8 : w3.cell? ⟨w.heap.size, 8, none⟩ = some (.slice Ad s.docs.length kd) := HK3.out.cell 8
                have b9 : w3.cell? ⟨w.heap.size, 9, none⟩ = some (.slice Ae s.exec.length ke) := HK3.out.cell 9
                obtain ⟨m6, hm6⟩ : ∃ b, (s.op != 6) = b := ⟨_, rfl⟩
                obtain ⟨m8, hm8⟩ : ∃ b, (s.op != 8) = b := ⟨_, rfl⟩
                obtain ⟨m7, hm7⟩ : ∃ b, (s.op != 7) = b := ⟨_, rfl⟩
                obtain ⟨fe, hfe⟩ : ∃ b, (bs s.from_).toList.isEmpty = b := ⟨_, rfl⟩
                obtain ⟨me, hme⟩ : ∃ b, (bs s.mode).toList.isEmpty = b := ⟨_, rfl⟩
                have HFE : Hid (s.from_.isEmpty = fe) := Lib.hid (by rw [← hfe, bs_list])
                have HME : Hid (s.mode.isEmpty = me) := Lib.hid (by rw [← hme, bs_list])
                have HA20 : Hid (a20 = (!fe && !x5)) := Lib.hid (by rw [← ha20.out, Ck.c20a, HFE.out, e5])
                have HB20 : Hid (b20 = (!me && !x5 && m6 && m8)) := Lib.hid (by rw [← hb20.out, Ck.c20b, HME.out, e5, ← hm6, ← hm8]; rfl)
                have HK20 : Hid (k20 = (s.force && m7)) := Lib.hid (by rw [← hk20.out, Ck.c20c, ← hm7]; rfl)
                have HPP : Hid (Ck.prB s = pp) := Lib.hid (by rw [Ck.prB, e1, e2, e3]; exact hpp.out)
                have HPX : Hid (Ck.exB s = px) := Lib.hid (by rw [Ck.exB, e13, e14]; exact hpx.out)
                have emp0 : ∀ {α : Type} (l : List α), (!l.isEmpty) = decide (0 < l.length) := fun l => by cases l <;> simp
                have HA4 : Hid (a4 = (decide (0 < s.pairs.length) && !pp)) := Lib.hid (by rw [← ha4.out, Ck.c4a, HPP.out, emp0])
                have HB4 : Hid (b4 = (decide (0 < s.words.length) && (pp || px))) := Lib.hid (by rw [← hb4.out, Ck.c4b, HPP.out, HPX.out, emp0])
                have HK4 : Hid (k4 = (decide (0 < s.docs.length) && !x5)) := Lib.hid (by rw [← hk4.out, Ck.c4c, e5, emp0])
                have HD4 : Hid (j4 = (decide (0 < s.exec.length) && !px)) := Lib.hid (by rw [← hj4.out, Ck.c4d, HPX.out, emp0])
                clear emp0 e1 e2 e3 e13 e14 z1 z2
                go_upto_region 30 with fail
                go_cut [118] from 119 to 125 (fun s118 wx => s118 = .bool a20 ∧ w3 = wx)
                case first =>
                  as_aux_lemma =>
                  cases fe <;> (
                    go_wp2_with fail
                    go_meet
                    exact ⟨by rw [HA20.out]; cases x5 <;> rfl, rfl⟩)
                case rest =>
                obtain ⟨rfl, rfl⟩ := hcut
                cases a20 with
                | true =>
                  go_wp2_with fail
                  go_ret
                  exact ⟨by rw [← HCH.out]; rfl, HA3.out⟩
                | false =>
                go_upto_region 31 with fail
                go_cut [118] from 126 to 142 (fun s118 wx => s118 = .bool b20 ∧ w3 = wx)
                case first =>
                  as_aux_lemma =>
                  cases me with
                  | true =>
                    go_wp2_with fail
                    go_meet
                    exact ⟨by rw [HB20.out]; rfl, rfl⟩
                  | false =>
                    cases x5 <;> cases m6 <;> (
                      go_wp2_with fail
                      go_meet
                      exact ⟨by rw [HB20.out]; cases m8 <;> rfl, rfl⟩)
                case rest =>
                obtain ⟨rfl, rfl⟩ := hcut
                cases b20 with
                | true =>
                  go_wp2_with fail
                  go_ret
                  exact ⟨by rw [← HCH.out]; rfl, HA3.out⟩
                | false =>
                go_upto_region 32 with fail
                go_cut [118] from 143 to 149 (fun s118 wx => s118 = .bool k20 ∧ w3 = wx)
                case first =>
                  as_aux_lemma =>
                  obtain ⟨f, hf⟩ : ∃ b, s.force = b := ⟨_, rfl⟩
                  rw [hf] at b4' HK20
                  clear hf
                  cases f <;> (
                    go_wp2_with fail
                    go_meet
                    exact ⟨by rw [HK20.out]; cases m7 <;> rfl, rfl⟩)
                case rest =>
                obtain ⟨rfl, rfl⟩ := hcut
                cases k20 with
                | true =>
                  go_wp2_with fail
                  go_ret
                  exact ⟨by rw [← HCH.out]; rfl, HA3.out⟩
                | false =>
                go_upto_region 34 with fail
                go_cut [151] from 152 to 159 (fun s151 wx => s151 = .bool a4 ∧ w3 = wx)
                case first =>
                  as_aux_lemma =>
                  rcases Nat.eq_zero_or_pos s.pairs.length with l0 | l0
                  · have g0 : decide ((0 : Int) < (s.pairs.length : Int)) = false := by rw [decide_eq_false_iff_not]; omega
                    have g1 : decide (0 < s.pairs.length) = false := by rw [decide_eq_false_iff_not]; omega
                    have G1 := Lib.hid g1
                    go_wp2_with fail
                    go_meet
                    exact ⟨by rw [HA4.out, G1.out]; rfl, rfl⟩
                  · have g0 : decide ((0 : Int) < (s.pairs.length : Int)) = true := by rw [decide_eq_true_eq]; omega
                    have g1 : decide (0 < s.pairs.length) = true := by rw [decide_eq_true_eq]; omega
                    have G1 := Lib.hid g1
                    (
                      go_wp2_with fail
                      go_meet
                      exact ⟨by rw [HA4.out, G1.out]; cases pp <;> rfl, rfl⟩)
                case rest =>
                obtain ⟨rfl, rfl⟩ := hcut
                cases a4 with
                | true =>
                  go_wp2_with fail
                  go_ret
                  exact ⟨by rw [← HCH.out]; rfl, HA3.out⟩
                | false =>
                go_upto_region 35 with fail
                go_cut [151] from 160 to 169 (fun s151 wx => s151 = .bool b4 ∧ w3 = wx)
                case first =>
                  as_aux_lemma =>
                  rcases Nat.eq_zero_or_pos s.words.length with l0 | l0
                  · have g0 : decide ((0 : Int) < (s.words.length : Int)) = false := by rw [decide_eq_false_iff_not]; omega
                    have g1 : decide (0 < s.words.length) = false := by rw [decide_eq_false_iff_not]; omega
                    have G1 := Lib.hid g1
                    go_wp2_with fail
                    go_meet
                    exact ⟨by rw [HB4.out, G1.out]; rfl, rfl⟩
                  · have g0 : decide ((0 : Int) < (s.words.length : Int)) = true := by rw [decide_eq_true_eq]; omega
                    have g1 : decide (0 < s.words.length) = true := by rw [decide_eq_true_eq]; omega
                    have G1 := Lib.hid g1
                    cases pp <;> (
                      go_wp2_with fail
                      go_meet
                      exact ⟨by rw [HB4.out, G1.out]; cases px <;> rfl, rfl⟩)
                case rest =>
                obtain ⟨rfl, rfl⟩ := hcut
                cases b4 with
                | true =>
                  go_wp2_with fail
                  go_ret
                  exact ⟨by rw [← HCH.out]; rfl, HA3.out⟩
                | false =>
                go_upto_region 36 with fail
                go_cut [151] from 170 to 177 (fun s151 wx => s151 = .bool k4 ∧ w3 = wx)
                case first =>
                  as_aux_lemma =>
                  rcases Nat.eq_zero_or_pos s.docs.length with l0 | l0
                  · have g0 : decide ((0 : Int) < (s.docs.length : Int)) = false := by rw [decide_eq_false_iff_not]; omega
                    have g1 : decide (0 < s.docs.length) = false := by rw [decide_eq_false_iff_not]; omega
                    have G1 := Lib.hid g1
                    go_wp2_with fail
                    go_meet
                    exact ⟨by rw [HK4.out, G1.out]; rfl, rfl⟩
                  · have g0 : decide ((0 : Int) < (s.docs.length : Int)) = true := by rw [decide_eq_true_eq]; omega
                    have g1 : decide (0 < s.docs.length) = true := by rw [decide_eq_true_eq]; omega
                    have G1 := Lib.hid g1
                    (
                      go_wp2_with fail
                      go_meet
                      exact ⟨by rw [HK4.out, G1.out]; cases x5 <;> rfl, rfl⟩)
                case rest =>
                obtain ⟨rfl, rfl⟩ := hcut
                cases k4 with
                | true =>
                  go_wp2_with fail
                  go_ret
                  exact ⟨by rw [← HCH.out]; rfl, HA3.out⟩
                | false =>
                go_upto_region 37 with fail
                go_cut [151] from 178 to 185 (fun s151 wx => s151 = .bool j4 ∧ w3 = wx)
                case first =>
                  as_aux_lemma =>
                  rcases Nat.eq_zero_or_pos s.exec.length with l0 | l0
                  · have g0 : decide ((0 : Int) < (s.exec.length : Int)) = false := by rw [decide_eq_false_iff_not]; omega
                    have g1 : decide (0 < s.exec.length) = false := by rw [decide_eq_false_iff_not]; omega
                    have G1 := Lib.hid g1
                    go_wp2_with fail
                    go_meet
                    exact ⟨by rw [HD4.out, G1.out]; rfl, rfl⟩
                  · have g0 : decide ((0 : Int) < (s.exec.length : Int)) = true := by rw [decide_eq_true_eq]; omega
                    have g1 : decide (0 < s.exec.length) = true := by rw [decide_eq_true_eq]; omega
                    have G1 := Lib.hid g1
                    (
                      go_wp2_with fail
                      go_meet
                      exact ⟨by rw [HD4.out, G1.out]; cases px <;> rfl, rfl⟩)
                case rest =>
                obtain ⟨rfl, rfl⟩ := hcut
                cases j4 with
                | true =>
                  go_wp2_with fail
                  go_ret
                  exact ⟨by rw [← HCH.out]; rfl, HA3.out⟩
                | false =>
                cases bb with
                | true =>
                  go_wp2_with fail
                  go_ret
                  exact ⟨by rw [← HCH.out]; rfl, HA3.out⟩
                | false =>
                cases f2 with
                | true =>
                  have p_f2 : nn < lo := of_decide_eq_true hf2
                  go_wp2_with fail
                  go_ret
                  exact ⟨by rw [← HCH.out]; rfl, HA3.out⟩
                | false =>
                have p_f2 : ¬ (nn < lo) := of_decide_eq_false hf2
                go_upto_region 42 with fail
                go_cut [193] from 194 to 200 (fun s193 wx => s193 = .bool (f3 && f4) ∧ w3 = wx)
                case first =>
                  as_aux_lemma =>
                  cases f3 with
                  | false =>
                    have p3 : ¬ (hi < nn) := of_decide_eq_false hf3
                    go_wp2_with fail
                    go_meet
                    exact ⟨rfl, rfl⟩
                  | true =>
                    have p3 : hi < nn := of_decide_eq_true hf3
                    cases f4 with
                    | false =>
                      have p4 : ¬ (hi < 64) := of_decide_eq_false hf4
                      go_wp2_with fail
                      go_meet
                      exact ⟨by first | rfl | (simp; omega), rfl⟩
                    | true =>
                      have p4 : hi < 64 := of_decide_eq_true hf4
                      go_wp2_with fail
                      go_meet
                      exact ⟨by first | rfl | (simp; omega), rfl⟩
                case rest =>
                obtain ⟨rfl, rfl⟩ := hcut
                obtain ⟨f5, hf5⟩ : ∃ b, (f3 && f4) = b := ⟨_, rfl⟩
                rw [hf5] at HCH ⊢
                clear hf5
                cases f5 with
                | true =>
                  go_wp2_with fail
                  go_ret
                  exact ⟨by rw [← HCH.out]; rfl, HA3.out⟩
                | false =>
                cases f3 with
                | true =>
                  have p_f3 : hi < nn := of_decide_eq_true hf3
                  go_wp2_with fail
                  go_ret
                  exact ⟨by rw [← HCH.out]; rfl, HA3.out⟩
                | false =>
                have p_f3 : ¬ (hi < nn) := of_decide_eq_false hf3
                have HM3 := Lib.hid (HM1.out.below HB3.out (by have := HM1.out.lt; have := HZ1.out; omega))
                have hfl := HL.out s.from_ (by simp [Ck.textsL])
                have hml := HL.out s.mode (by simp [Ck.textsL])
                obtain ⟨tt, htt⟩ : ∃ t, Hid (Lib.trimS s.from_ [48, 49, 50, 51, 52, 53, 54, 55, 56, 57] = t) := ⟨_, Lib.hid rfl⟩
                obtain ⟨te, hte⟩ : ∃ b, (bs tt).toList.isEmpty = b := ⟨_, rfl⟩
                obtain ⟨sg, hsg⟩ : ∃ b, Hid (Ck.stageP s.from_ = b) := ⟨_, Lib.hid rfl⟩
                obtain ⟨rf, hrf⟩ : ∃ b, Hid (Ck.refR s.from_ = b) := ⟨_, Lib.hid rfl⟩
                obtain ⟨mo, hmo⟩ : ∃ b, Hid (Ck.modeR s.mode = b) := ⟨_, Lib.hid rfl⟩
                have HZ31 : Hid (z31 = (!fe && !te && !sg && !rf)) := Lib.hid (by
                  have h1 : decide (tt = []) = te := by rw [← hte, bs_list]; cases tt <;> rfl
                  rw [← hz31.out, Ck.c31, ← Ck.digits_same, ← Ck.stage_same, htt.out, hsg.out, hrf.out, h1, HFE.out]
                  cases fe <;> cases te <;> rfl)
                have HZ16 : Hid (z16 = (!me && !mo)) := Lib.hid (by rw [← hz16.out, Ck.c16, HME.out, hmo.out])
                clear hz31 hz16
                go_upto_region 46 with fail
                go_cut [207] from 208 to 228 (fun s207 wx => s207 = .bool z31 ∧ Hid (Below (w.heap.size + 1) w1 wx))
                case first =>
                  as_aux_lemma =>
                  have hsz3 : w.heap.size + 1 ≤ w3.heap.size := Nat.le_trans hsz1 HB3.out.size
                  cases fe with
                  | true =>
                    go_wp2_with fail
                    go_meet
                    exact ⟨by rw [HZ31.out]; rfl, HB3⟩
                  | false =>
                    cases te with
                    | true =>
                      go_wp2_with fail
                      refine (trimDig_any s.from_ _ (by omega) htt).mono ?_
                      rintro r4 w4 ⟨rfl, p4⟩
                      have HB4' := Lib.hid (HB3.out.trans (p4.mono hsz3))
                      clear p4
                      go_wp2_with fail
                      go_meet
                      exact ⟨by rw [HZ31.out]; rfl, HB4'⟩
                    | false =>
                      go_wp2_with fail
                      refine (trimDig_any s.from_ _ (by omega) htt).mono ?_
                      rintro r4 w4 ⟨rfl, p4⟩
                      have HB4' := Lib.hid (HB3.out.trans (p4.mono hsz3))
                      have HM4 := Lib.hid (HM3.out.grow p4)
                      have c2 : w4.cell? ⟨w.heap.size, 2, none⟩ = some (.string (bs s.from_)) := (HK.out.below HB4'.out (by omega)).cell 2
                      clear p4
                      go_wp2_with fail
                      refine (stage_any s.from_ (by omega) _ hsg).mono ?_
                      rintro r5 w5 ⟨rfl, rfl⟩
                      cases sg with
                      | true =>
                        go_wp2_with fail
                        go_meet
                        exact ⟨by rw [HZ31.out]; rfl, HB4'⟩
                      | false =>
                        go_wp2_with fail
                        refine (ckRef_any s.from_ (by omega) _ HM4.out hrf).mono ?_
                        rintro r6 w6 ⟨rfl, p6⟩
                        have HB6 := Lib.hid (HB4'.out.trans (p6.mono (Nat.le_trans hsz1 HB4'.out.size)))
                        clear p6
                        cases rf with
                        | true =>
                          rw [show refV true = .nilIface from rfl]
                          go_wp2_with fail
                          go_meet
                          exact ⟨by rw [HZ31.out]; rfl, HB6⟩
                        | false =>
                          rw [show refV false = .iface 114 (.int .i64 31) from rfl]
                          go_wp2_with fail
                          go_meet
                          exact ⟨by rw [HZ31.out]; rfl, HB6⟩
                case rest =>
                obtain ⟨rfl, HB7⟩ := hcut
                rename World => w7
                have HA7 := Lib.hid (HAL.out.trans (HB7.out.mono (by omega)))
                have hsz7 : w.heap.size + 1 ≤ w7.heap.size := Nat.le_trans hsz1 HB7.out.size
                have c3 : w7.cell? ⟨w.heap.size, 3, none⟩ = some (.string (bs s.mode)) := (HK.out.below HB7.out (by omega)).cell 3
                clear b0 b2 b3 b4' b5 b7 b8 b9
                cases z31 with
                | true =>
                  go_wp2_with fail
                  go_ret
                  exact ⟨by rw [← HCH.out]; rfl, HA7.out⟩
                | false =>
                go_upto_region 48 with fail
                go_cut [230] from 231 to 239 (fun s230 wx => s230 = .bool z16 ∧ Hid (Below (w.heap.size + 1) w1 wx))
                case first =>
                  as_aux_lemma =>
                  cases me with
                  | true =>
                    go_wp2_with fail
                    go_meet
                    exact ⟨by rw [HZ16.out]; rfl, HB7⟩
                  | false =>
                    go_wp2_with fail
                    refine (mode_any s.mode (by omega) _ hmo).mono ?_
                    rintro r4 w4 ⟨rfl, p4⟩
                    have HB4' := Lib.hid (HB7.out.trans (p4.mono hsz7))
                    clear p4
                    go_wp2_with fail
                    go_meet
                    exact ⟨by rw [HZ16.out]; cases mo <;> rfl, HB4'⟩
                case rest =>
                obtain ⟨rfl, HB8⟩ := hcut
                rename World => w8
                have HA8 := Lib.hid (HAL.out.trans (HB8.out.mono (by omega)))
                cases z16 with
                | true =>
                  go_wp2_with fail
                  go_ret
                  exact ⟨by rw [← HCH.out]; rfl, HA8.out⟩
                | false =>
                have HRN : Hid (r = n) := Lib.hid (by rw [← HCH.out]; rfl)
                go_wp2_with fail
                go_meet
                exact ⟨HRN, HB8⟩
              case rest =>
              obtain ⟨HRN, HB3⟩ := hcut
              rename World => w3
              obtain ⟨z, hz⟩ : ∃ k, Hid (Ck.pairsL s.op e s.pairs = k) := ⟨_, Lib.hid rfl⟩
              have HZN : Hid (z ≠ 0 → n = z) := Lib.hid fun h => by rw [← HRN.out, ← hr.out, hz.out, if_pos h]
              have HZB : Hid (z = 0 → Ck.bodyL s e = n) := Lib.hid fun h => by rw [← HRN.out, ← hr.out, hz.out, if_neg (by omega)]
              have hsz3 : w.heap.size + 1 ≤ w3.heap.size := Nat.le_trans hsz1 HB3.out.size
              have b5 : w3.cell? ⟨w.heap.size, 5, none⟩ = some (.slice Ap s.pairs.length kp) := (HK.out.below HB3.out (by omega)).cell 5
              have HPL : Hid (∀ p ∈ s.pairs, p.key.length ≤ 1050000 ∧ p.val.length ≤ 1050000) := Lib.hid fun p hp => ⟨HL.out _ (by simp only [Ck.textsL, List.mem_append, List.mem_flatMap]; exact .inl (.inr ⟨p, hp, by simp⟩)), HL.out _ (by simp only [Ck.textsL, List.mem_append, List.mem_flatMap]; exact .inl (.inr ⟨p, hp, by simp⟩))⟩
              clear d0 d5 d7 d9 HNN nle hlo hhi H hr HRN HK2 HB2 hsz2
              go_upto_block 4 with fail
              go_cut [] from 244 to 276 (fun wx => Hid (z = 0) ∧ Hid (Below (w.heap.size + 1) w1 wx))
              case first =>
                as_aux_lemma =>
                go_wp2_with fail
                go_loopw [15, 16, 244] (fun _ _ t244 wr => ∃ (i : Nat), i ≤ s.pairs.length ∧ t244 = .int .i64 (i : Int) ∧ Hid (Ck.pairsL s.op e (s.pairs.drop i) = z) ∧ Hid (Below (w.heap.size + 1) w1 wr)) (fun _ _ t244 _ => s.pairs.length - (intOf t244).toNat)
                case atStart => exact ⟨0, by omega, rfl, Lib.hid (by rw [List.drop_zero]; exact hz.out), HB3⟩
                case round =>
                  as_aux_lemma =>
                  rename World => wr
                  obtain ⟨i, hi, rfl, HR, HB⟩ := hrel
                  rcases Nat.lt_or_ge i s.pairs.length with hin | hin
                  · have i0 : decide ((i : Int) < (s.pairs.length : Int)) = true := by rw [decide_eq_true_eq]; omega
                    have i1 : (i : Int) < (s.pairs.length : Int) := by omega
                    have j0 : (0 : Int) ≤ (i : Int) := by omega
                    obtain ⟨g, o, c, hv, c0, c1⟩ := pr_at (hb1' HZ1.out HB.out HP1.out) hin
                    injection hv with hA _ hcc
                    subst hA
                    subst hcc
                    have hR := HR.out
                    rw [List.drop_eq_getElem_cons hin, Ck.pairsL] at hR
                    have hxl := HPL.out _ (List.getElem_mem hin)
                    obtain ⟨x, hx⟩ : ∃ x, s.pairs[i].key = x := ⟨_, rfl⟩
                    obtain ⟨y, hy⟩ : ∃ y, s.pairs[i].val = y := ⟨_, rfl⟩
                    rw [hx] at c0 hxl hR
                    rw [hy] at c1 hxl hR
                    obtain ⟨hxl, hyl⟩ := hxl
                    obtain ⟨k, hk⟩ : ∃ b, Hid ((if s.op = 3 then Ck.labelR x else Ck.varR x) = b) := ⟨_, Lib.hid rfl⟩
                    obtain ⟨q, hq⟩ : ∃ b, Hid (Ck.wordL e y = b) := ⟨_, Lib.hid rfl⟩
                    rw [hk.out, hq.out] at hR
                    have HR2 := Lib.hid hR
                    clear hx hy hR HR
                    have hszr : w.heap.size + 1 ≤ wr.heap.size := Nat.le_trans hsz1 HB.out.size
                    have HBA := Lib.hid (HB.out.alloc hszr (.cells #[.string (bs x), .string (bs y)] 166))
                    have a0 : (wr.alloc (.cells #[.string (bs x), .string (bs y)] 166)).cell? ⟨w.heap.size, 0, none⟩ = some (.int .i64 s.op) := ((HK.out.below HB.out (by omega)).alloc _).cell 0
                    have HAA := Lib.hid (HAL.out.trans (HBA.out.mono (by omega)))
                    have hyx : y.length ≤ exMax := by unfold exMax; omega
                    have HSA : Hid (w.heap.size + 1 ≤ (wr.alloc (.cells #[.string (bs x), .string (bs y)] 166)).heap.size) := Lib.hid (by rw [World.size_alloc]; omega)
                    cases x3 with
                    | true =>
                      have q3 : s.op = 3 := by rw [beq_iff_eq] at e3; exact e3
                      have n3 : (s.op != 3) = false := by rw [bne, e3]; rfl
                      have HKK : Hid (Ck.ofL x [46, 45, 95, 47] true = k) := Lib.hid (by rw [Ck.label_same, ← hk.out, if_pos q3])
                      clear q3
                      cases k with
                      | false =>
                        have HF : Hid (n = 8) := Lib.hid (by
                          have h : 8 = z := by rw [← HR2.out]; rfl
                          rw [h]; exact HZN.out (by omega))
                        go_wp2_with fail
                        refine (of_label x (by omega) _ HKK).mono ?_
                        rintro r8 w8 ⟨rfl, rfl⟩
                        go_wp2_with fail
                        go_ret
                        exact ⟨by rw [HF.out]; rfl, HAA.out⟩
                      | true =>
                        go_wp2_with fail
                        refine (of_label x (by omega) _ HKK).mono ?_
                        rintro r8 w8 ⟨rfl, rfl⟩
                        go_wp2_with fail
                        refine (word_any y e hyx _ hq).mono ?_
                        rintro r9 w9 ⟨rfl, p9⟩
                        have HB9 := Lib.hid (HBA.out.trans (p9.mono HSA.out))
                        clear p9
                        rcases Nat.eq_zero_or_pos q with hq0 | hq0
                        · subst hq0
                          rw [show errV 0 = .nilIface from rfl]
                          have HR3 : Hid (Ck.pairsL s.op e (s.pairs.drop (i + 1)) = z) := Lib.hid (by rw [← HR2.out]; rfl)
                          go_wp2_with fail
                          go_roundw
                          case rel => first | exact ⟨i + 1, by omega, by go_num, HR3, HB9⟩ | exact ⟨_, _, _, ⟨i + 1, by omega, by go_num, HR3, HB9⟩, rfl, rfl, rfl⟩ | exact ⟨_, _, _, ⟨i + 1, by omega, by go_num, HR3⟩, rfl, rfl, rfl⟩
                          case measure => simp [intOf]; omega
                        · have hE : errV q = eno (q : Int) := by unfold errV; rw [if_neg (by omega)]
                          have HE := Lib.hid hE
                          have HF : Hid (n = q) := Lib.hid (by
                            have h : q = z := by rw [← HR2.out]; simp; omega
                            rw [h]; exact HZN.out (by omega))
                          have HA9 := Lib.hid (HAL.out.trans (HB9.out.mono (by omega)))
                          rw [hE]
                          clear hE
                          go_wp2_with fail
                          go_ret
                          exact ⟨by rw [HF.out, HE.out]; rfl, HA9.out⟩
                    | false =>
                      have q3 : ¬ s.op = 3 := by rw [beq_eq_false_iff_ne] at e3; exact e3
                      have n3 : (s.op != 3) = true := by rw [bne, e3]; rfl
                      have HKK : Hid (Ck.varP x = k) := Lib.hid (by rw [Ck.var_same, ← hk.out, if_neg q3])
                      clear q3
                      cases k with
                      | false =>
                        have HF : Hid (n = 8) := Lib.hid (by
                          have h : 8 = z := by rw [← HR2.out]; rfl
                          rw [h]; exact HZN.out (by omega))
                        go_wp2_with fail
                        refine (var_any x (by omega) _ HKK).mono ?_
                        rintro r8 w8 ⟨rfl, rfl⟩
                        go_wp2_with fail
                        go_ret
                        exact ⟨by rw [HF.out]; rfl, HAA.out⟩
                      | true =>
                        go_wp2_with fail
                        refine (var_any x (by omega) _ HKK).mono ?_
                        rintro r8 w8 ⟨rfl, rfl⟩
                        go_wp2_with fail
                        refine (word_any y e hyx _ hq).mono ?_
                        rintro r9 w9 ⟨rfl, p9⟩
                        have HB9 := Lib.hid (HBA.out.trans (p9.mono HSA.out))
                        clear p9
                        rcases Nat.eq_zero_or_pos q with hq0 | hq0
                        · subst hq0
                          rw [show errV 0 = .nilIface from rfl]
                          have HR3 : Hid (Ck.pairsL s.op e (s.pairs.drop (i + 1)) = z) := Lib.hid (by rw [← HR2.out]; rfl)
                          go_wp2_with fail
                          go_roundw
                          case rel => first | exact ⟨i + 1, by omega, by go_num, HR3, HB9⟩ | exact ⟨_, _, _, ⟨i + 1, by omega, by go_num, HR3, HB9⟩, rfl, rfl, rfl⟩ | exact ⟨_, _, _, ⟨i + 1, by omega, by go_num, HR3⟩, rfl, rfl, rfl⟩
                          case measure => simp [intOf]; omega
                        · have hE : errV q = eno (q : Int) := by unfold errV; rw [if_neg (by omega)]
                          have HE := Lib.hid hE
                          have HF : Hid (n = q) := Lib.hid (by
                            have h : q = z := by rw [← HR2.out]; simp; omega
                            rw [h]; exact HZN.out (by omega))
                          have HA9 := Lib.hid (HAL.out.trans (HB9.out.mono (by omega)))
                          rw [hE]
                          clear hE
                          go_wp2_with fail
                          go_ret
                          exact ⟨by rw [HF.out, HE.out]; rfl, HA9.out⟩
                  · have i0 : decide ((i : Int) < (s.pairs.length : Int)) = false := by rw [decide_eq_false_iff_not]; omega
                    have HF : Hid (z = 0) := Lib.hid (by rw [← HR.out, List.drop_eq_nil_of_le hin]; rfl)
                    go_wp2_with fail
                    go_meet
                    exact ⟨HF, HB⟩
              case rest =>
              obtain ⟨HZ0, HB4⟩ := hcut
              rename World => w4
              have hsz4 : w.heap.size + 1 ≤ w4.heap.size := Nat.le_trans hsz1 HB4.out.size
              obtain ⟨W, hW⟩ : ∃ k, Hid (Ck.wordsL s.op e s.words s.docs = k) := ⟨_, Lib.hid rfl⟩
              have HBN : Hid (Ck.bodyW e s.docs W = n) := Lib.hid (by rw [← hW.out, ← Ck.bodyL_eq]; exact HZB.out HZ0.out)
              have HWL : Hid (∀ t ∈ s.words, t.length ≤ 1050000) := Lib.hid fun t ht => HL.out t (by simp only [Ck.textsL, List.mem_append]; exact .inl (.inl (.inl (.inr ht))))
              have d7 : w4.cell? ⟨w.heap.size, 7, none⟩ = some (.slice Aw s.words.length kw) := (HK.out.below HB4.out (by omega)).cell 7
              have d8 : w4.cell? ⟨w.heap.size, 8, none⟩ = some (.slice Ad s.docs.length kd) := (HK.out.below HB4.out (by omega)).cell 8
              have hnw : s.words.length ≤ 1050000 := by omega
              clear b5 HPL HZN HZB HZ0 hz HB3 hsz3
              go_upto_block 6 with fail
              go_cut [17] from 282 to 339 (fun s17 wx => (∃ (A : Option Addr) (c : Nat) (ds : List Lx.Dc), s17 = .slice A ds.length c ∧ ds.length ≤ s.docs.length ∧ Hid (W = .inr ds)) ∧ Hid (Below (w.heap.size + 1) w1 wx))
              case first =>
                as_aux_lemma =>
                go_wp2_with fail
                go_loopw [17, 18, 19, 20, 21, 22, 23, 282] (fun t17 _ _ _ _ _ _ t282 wr => ∃ (i : Nat) (A : Option Addr) (c : Nat) (ds : List Lx.Dc), i ≤ s.words.length ∧ t282 = .int .i64 (i : Int) ∧ t17 = .slice A ds.length c ∧ Hid (SlA w1 (.slice A ds.length c) ds.length (doC ds)) ∧ Hid (ds.length ≤ c) ∧ ds.length ≤ s.docs.length ∧ Hid (Ck.wordsL s.op e (s.words.drop i) ds = W) ∧ Hid (Below (w.heap.size + 1) w1 wr)) (fun _ _ _ _ _ _ _ t282 _ => s.words.length - (intOf t282).toNat)
                case atStart => exact ⟨0, Ad, kd, s.docs, by omega, rfl, rfl, HD1, Lib.hid hdn, Nat.le_refl _, Lib.hid (by rw [List.drop_zero]; exact hW.out), HB4⟩
                case round =>
                  as_aux_lemma =>
                  rename World => wr
                  obtain ⟨i, A, c, ds, hi, rfl, rfl, HSL, HDC, hdl, HR, HB⟩ := hrel
                  clear HB4 hsz4 d7 d8
                  have hszr : w.heap.size + 1 ≤ wr.heap.size := Nat.le_trans hsz1 HB.out.size
                  rcases Nat.lt_or_ge i s.words.length with hin | hin
                  · have i0 : decide ((i : Int) < (s.words.length : Int)) = true := by rw [decide_eq_true_eq]; omega
                    have i1 : (i : Int) < (s.words.length : Int) := by omega
                    have j0 : (0 : Int) ≤ (i : Int) := by omega
                    obtain ⟨g, o, cc, hv, c0⟩ := sc_at (hb1' HZ1.out HB.out HV1.out) hin
                    injection hv with hA _ hcc
                    subst hA
                    subst hcc
                    have hR := HR.out
                    rw [List.drop_eq_getElem_cons hin] at hR
                    have hxl := HWL.out _ (List.getElem_mem hin)
                    obtain ⟨x, hx⟩ : ∃ x, s.words[i] = x := ⟨_, rfl⟩
                    rw [hx] at c0 hxl hR
                    obtain ⟨q, hq⟩ : ∃ b, Hid (Ck.wordL e x = b) := ⟨_, Lib.hid rfl⟩
                    obtain ⟨op, hop⟩ : ∃ b, Hid (Ck.opening x = b) := ⟨_, Lib.hid rfl⟩
                    have HOP : Hid (([60, 60] : List UInt8).isPrefixOf x = op) := Lib.hid (by rw [Ck.open_pre]; exact hop.out)
                    have HR2 := Lib.hid hR
                    have e7 : wr.cell? ⟨w.heap.size, 7, none⟩ = some (.slice (some ⟨g, o, none⟩) s.words.length kw) := (HK.out.below HB.out (by omega)).cell 7
                    have hyx : x.length ≤ exMax := by unfold exMax; omega
                    clear hx hR HR
                    cases x5 with
                    | false =>
                      have HR3 : Hid ((if q ≠ 0 then Sum.inl q else Ck.wordsL s.op e (s.words.drop (i + 1)) ds) = W) := Lib.hid (by rw [← HR2.out, Ck.wordsL_plain (.inl (beq_eq_false_iff_ne.1 e5)), hq.out])
                      go_wp2_with fail
                      refine (word_any x e hyx _ hq).mono ?_
                      rintro r9 w9 ⟨rfl, p9⟩
                      have HB9 := Lib.hid (HB.out.trans (p9.mono hszr))
                      clear p9
                      rcases Nat.eq_zero_or_pos q with hq0 | hq0
                      · subst hq0
                        rw [show errV 0 = .nilIface from rfl]
                        have HR4 : Hid (Ck.wordsL s.op e (s.words.drop (i + 1)) ds = W) := Lib.hid (by rw [← HR3.out]; rfl)
                        go_wp2_with fail
                        go_roundw
                        case rel => first | exact ⟨i + 1, A, c, ds, by omega, by go_num, rfl, HSL, HDC, hdl, HR4, HB9⟩ | exact ⟨_, _, _, _, _, _, _, _, ⟨i + 1, A, c, ds, by omega, by go_num, rfl, HSL, HDC, hdl, HR4, HB9⟩, rfl, rfl, rfl, rfl, rfl, rfl, rfl, rfl⟩
                        case measure => simp [intOf]; omega
                      · have hE : errV q = eno (q : Int) := by unfold errV; rw [if_neg (by omega)]
                        have HE := Lib.hid hE
                        have HF : Hid (n = q) := Lib.hid (by
                          have h : Sum.inl q = W := by rw [← HR3.out, if_pos (by omega)]
                          rw [← HBN.out, ← h]; rfl)
                        have HA9 := Lib.hid (HAL.out.trans (HB9.out.mono (by omega)))
                        rw [hE]
                        clear hE
                        go_wp2_with fail
                        go_ret
                        exact ⟨by rw [HF.out, HE.out]; rfl, HA9.out⟩
                    | true =>
                      go_wp2_with fail
                      refine (hasPrefix_any x [60, 60] _ HOP).mono ?_
                      rintro r8 w8 ⟨rfl, rfl⟩
                      cases op with
                      | false =>
                        have HR3 : Hid ((if q ≠ 0 then Sum.inl q else Ck.wordsL s.op e (s.words.drop (i + 1)) ds) = W) := Lib.hid (by rw [← HR2.out, Ck.wordsL_plain (.inr hop.out), hq.out])
                        go_wp2_with fail
                        refine (word_any x e hyx _ hq).mono ?_
                        rintro r9 w9 ⟨rfl, p9⟩
                        have HB9 := Lib.hid (HB.out.trans (p9.mono hszr))
                        clear p9
                        rcases Nat.eq_zero_or_pos q with hq0 | hq0
                        · subst hq0
                          rw [show errV 0 = .nilIface from rfl]
                          have HR4 : Hid (Ck.wordsL s.op e (s.words.drop (i + 1)) ds = W) := Lib.hid (by rw [← HR3.out]; rfl)
                          go_wp2_with fail
                          go_roundw
                          case rel => first | exact ⟨i + 1, A, c, ds, by omega, by go_num, rfl, HSL, HDC, hdl, HR4, HB9⟩ | exact ⟨_, _, _, _, _, _, _, _, ⟨i + 1, A, c, ds, by omega, by go_num, rfl, HSL, HDC, hdl, HR4, HB9⟩, rfl, rfl, rfl, rfl, rfl, rfl, rfl, rfl⟩
                          case measure => simp [intOf]; omega
                        · have hE : errV q = eno (q : Int) := by unfold errV; rw [if_neg (by omega)]
                          have HE := Lib.hid hE
                          have HF : Hid (n = q) := Lib.hid (by
                            have h : Sum.inl q = W := by rw [← HR3.out, if_pos (by omega)]
                            rw [← HBN.out, ← h]; rfl)
                          have HA9 := Lib.hid (HAL.out.trans (HB9.out.mono (by omega)))
                          rw [hE]
                          clear hE
                          go_wp2_with fail
                          go_ret
                          exact ⟨by rw [HF.out, HE.out]; rfl, HA9.out⟩
                      | true =>
                        have Q5 := Lib.hid (beq_iff_eq.1 e5)
                        have HA9 := Lib.hid (HAL.out.trans (HB.out.mono (by omega)))
                        rcases Nat.lt_or_ge (i + 1) s.words.length with hlast | hlast
                        · have u1 : ((i : Int) == (s.words.length : Int) - 1) = false := by rw [beq_eq_false_iff_ne]; omega
                          have RNE : Hid (s.words.drop (i + 1) ≠ []) := Lib.hid fun h => by have h2 := congrArg List.length h; rw [List.length_drop, List.length_nil] at h2; omega
                          have HS1 : Hid (Lib.trimPrefix x [60, 60] = x.drop 2) := Lib.hid (Ck.trim_open hop.out)
                          obtain ⟨u, hu⟩ : ∃ u, Ck.opU (x.drop 2) = u := ⟨_, rfl⟩
                          have HS2 : Hid (Lib.trimPrefix (x.drop 2) [45] = u) := Lib.hid ((Ck.trim_dash _).trans hu)
                          have hul : u.length ≤ 2000000 := by
                            rw [← hu, Ck.opU]
                            split <;> simp only [List.length_drop] <;> omega
                          obtain ⟨t, ht⟩ : ∃ t, Hid (Ck.opT u = t) := ⟨_, Lib.hid rfl⟩
                          obtain ⟨tq, htq⟩ : ∃ t, Hid (Ck.opQ u = t) := ⟨_, Lib.hid rfl⟩
                          obtain ⟨ok, hok⟩ : ∃ b, Hid (Ck.opOk t = b) := ⟨_, Lib.hid rfl⟩
                          have HOE : Hid (Ck.opensL (x.drop 2) = if ok then some (t, tq) else none) := Lib.hid (by rw [Ck.opens_eq, hu, ht.out, htq.out, hok.out])
                          clear hu
                          go_wp2_with fail
                          refine (opens_any x u _ HS1 HS2 hul ht htq hok).mono ?_
                          rintro r9 w9 ⟨rfl, p9⟩
                          have HB9 := Lib.hid (HB.out.trans (p9.mono hszr))
                          clear p9 HA9
                          have HA9 := Lib.hid (HAL.out.trans (HB9.out.mono (by omega)))
                          cases ok with
                          | false =>
                            have HW := Lib.hid (show W = .inl 26 by rw [← HR2.out, Ck.wordsL_none Q5.out hop.out RNE.out (by rw [HOE.out]; rfl)])
                            go_wp2_with fail
                            go_ret
                            exact ⟨by rw [← HBN.out, HW.out]; rfl, HA9.out⟩
                          | true =>
                            rcases ds with _ | ⟨d, ds⟩
                            · have HW := Lib.hid (show W = .inl 26 by rw [← HR2.out, Ck.wordsL_empty Q5.out hop.out RNE.out])
                              go_wp2_with fail
                              go_ret
                              exact ⟨by rw [← HBN.out, HW.out]; rfl, HA9.out⟩
                            · obtain ⟨g2, o2, c2, hv2, f0, f1, _, _⟩ := do_at (hb1' HZ1.out HB9.out HSL.out) (i := 0) (by simp)
                              injection hv2 with hA2 _ hc2
                              subst hA2
                              subst hc2
                              simp only [Nat.zero_mul, Nat.add_zero, List.getElem_cons_zero] at f0 f1
                              obtain ⟨A', hsl, hSL2, hdc2⟩ := doc_tail HSL.out HDC.out
                              have HSL2 := Lib.hid hSL2
                              have HDC2 := Lib.hid hdc2
                              have hdl2 : ds.length ≤ s.docs.length := by rw [List.length_cons] at hdl; omega
                              obtain ⟨k, hk⟩ : ∃ k, (d :: ds).length = k := ⟨_, rfl⟩
                              have hk2 : ds.length + 1 = k := hk
                              rw [hk2] at hsl
                              rw [hk]
                              have k0 : ((k : Int) == 0) = false := by rw [beq_eq_false_iff_ne]; omega
                              have k1 : (0 : Int) < (k : Int) := by omega
                              obtain ⟨nm, hnm⟩ : ∃ b, Hid (d.name = b) := ⟨_, Lib.hid rfl⟩
                              obtain ⟨rw1, hrw⟩ : ∃ b, Hid (d.raw = b) := ⟨_, Lib.hid rfl⟩
                              rw [hnm.out] at f0
                              rw [hrw.out] at f1
                              obtain ⟨yn, ey⟩ : ∃ y, ((bs nm).toList == (bs t).toList) = y := ⟨_, rfl⟩
                              have HYN : Hid ((nm == t) = yn) := Lib.hid (by rw [← ey, bs_list, bs_list])
                              clear hk hk2 hSL2 hdc2 hdl
                              cases yn with
                              | false =>
                                have HW := Lib.hid (show W = .inl 26 by rw [← HR2.out, Ck.wordsL_miss Q5.out hop.out RNE.out (by rw [HOE.out]; rfl) (fun h => beq_eq_false_iff_ne.1 HYN.out (hnm.out.symm.trans h.1))])
                                go_wp2_with fail
                                go_ret
                                exact ⟨by rw [← HBN.out, HW.out]; rfl, HA9.out⟩
                              | true =>
                                have HNT : Hid (d.name = t) := Lib.hid (hnm.out.trans (beq_iff_eq.1 HYN.out))
                                cases rw1 <;> cases tq
                                · have HR5 : Hid (Ck.wordsL s.op e (s.words.drop (i + 1)) ds = W) := Lib.hid (by rw [← HR2.out, Ck.wordsL_hit Q5.out hop.out RNE.out (by rw [HOE.out]; rfl) HNT.out hrw.out])
                                  go_wp2_with fail
                                  go_roundw
                                  case rel => first | exact ⟨i + 1, A', c - 1, ds, by omega, by go_num, rfl, HSL2, HDC2, hdl2, HR5, HB9⟩ | exact ⟨_, _, _, _, _, _, _, _, ⟨i + 1, A', c - 1, ds, by omega, by go_num, rfl, HSL2, HDC2, hdl2, HR5, HB9⟩, rfl, rfl, rfl, rfl, rfl, rfl, rfl, rfl⟩
                                  case measure => simp [intOf]; omega
                                · have HW := Lib.hid (show W = .inl 26 by rw [← HR2.out, Ck.wordsL_miss Q5.out hop.out RNE.out (by rw [HOE.out]; rfl) (fun h => by rw [hrw.out] at h; cases h.2)])
                                  go_wp2_with fail
                                  go_ret
                                  exact ⟨by rw [← HBN.out, HW.out]; rfl, HA9.out⟩
                                · have HW := Lib.hid (show W = .inl 26 by rw [← HR2.out, Ck.wordsL_miss Q5.out hop.out RNE.out (by rw [HOE.out]; rfl) (fun h => by rw [hrw.out] at h; cases h.2)])
                                  go_wp2_with fail
                                  go_ret
                                  exact ⟨by rw [← HBN.out, HW.out]; rfl, HA9.out⟩
                                · have HR5 : Hid (Ck.wordsL s.op e (s.words.drop (i + 1)) ds = W) := Lib.hid (by rw [← HR2.out, Ck.wordsL_hit Q5.out hop.out RNE.out (by rw [HOE.out]; rfl) HNT.out hrw.out])
                                  go_wp2_with fail
                                  go_roundw
                                  case rel => first | exact ⟨i + 1, A', c - 1, ds, by omega, by go_num, rfl, HSL2, HDC2, hdl2, HR5, HB9⟩ | exact ⟨_, _, _, _, _, _, _, _, ⟨i + 1, A', c - 1, ds, by omega, by go_num, rfl, HSL2, HDC2, hdl2, HR5, HB9⟩, rfl, rfl, rfl, rfl, rfl, rfl, rfl, rfl⟩
                                  case measure => simp [intOf]; omega
                        · have u1 : ((i : Int) == (s.words.length : Int) - 1) = true := by rw [beq_iff_eq]; omega
                          have HW := Lib.hid (show W = .inl 4 by rw [← HR2.out, Ck.wordsL_last Q5.out hop.out (List.drop_eq_nil_of_le hlast)])
                          go_wp2_with fail
                          go_ret
                          exact ⟨by rw [← HBN.out, HW.out]; rfl, HA9.out⟩
                  · have i0 : decide ((i : Int) < (s.words.length : Int)) = false := by rw [decide_eq_false_iff_not]; omega
                    have HF : Hid (W = .inr ds) := Lib.hid (by rw [← HR.out, List.drop_eq_nil_of_le hin]; rfl)
                    go_wp2_with fail
                    go_meet
                    exact ⟨⟨A, c, ds, rfl, hdl, HF⟩, HB⟩
              case rest =>
              obtain ⟨⟨A, c, ds, rfl, hdl, HWD⟩, HB5⟩ := hcut
              rename World => w5
              have HA5 := Lib.hid (HAL.out.trans (HB5.out.mono (by omega)))
              rcases ds with _ | ⟨d, ds⟩
              · have HDN : Hid (Ck.docsL e s.docs = n) := Lib.hid (by rw [← HBN.out, HWD.out]; rfl)
                have HTL : Hid (∀ d ∈ s.docs, d.text.length ≤ 1050000) := Lib.hid fun d hd => HL.out _ (by simp only [Ck.textsL, List.mem_append, List.mem_flatMap]; exact .inr ⟨d, hd, by simp⟩)
                have d8 : w5.cell? ⟨w.heap.size, 8, none⟩ = some (.slice Ad s.docs.length kd) := (HK.out.below HB5.out (by omega)).cell 8
                have hnd : s.docs.length ≤ 1050000 := by omega
                rw [List.length_nil]
                clear HBN HWD hW HB4 hsz4 d7 HA5
                go_wp2_with fail
                go_loopw [25, 26, 27, 347] (fun _ _ _ t347 wr => ∃ (i : Nat), i ≤ s.docs.length ∧ t347 = .int .i64 (i : Int) ∧ Hid (Ck.docsL e (s.docs.drop i) = n) ∧ Hid (Below (w.heap.size + 1) w1 wr)) (fun _ _ _ t347 _ => s.docs.length - (intOf t347).toNat)
                case atStart => exact ⟨0, by omega, rfl, Lib.hid (by rw [List.drop_zero]; exact HDN.out), HB5⟩
                case round =>
                  as_aux_lemma =>
                  rename World => wr
                  obtain ⟨i, hi, rfl, HR, HB⟩ := hrel
                  have hszr : w.heap.size + 1 ≤ wr.heap.size := Nat.le_trans hsz1 HB.out.size
                  rcases Nat.lt_or_ge i s.docs.length with hin | hin
                  · have i0 : decide ((i : Int) < (s.docs.length : Int)) = true := by rw [decide_eq_true_eq]; omega
                    have i1 : (i : Int) < (s.docs.length : Int) := by omega
                    have j0 : (0 : Int) ≤ (i : Int) := by omega
                    obtain ⟨g, o, c9, hv, c0, c1, c2, c3⟩ := do_at (hb1' HZ1.out HB.out HD1.out) hin
                    injection hv with hA _ hcc
                    subst hA
                    subst hcc
                    have hR := HR.out
                    rw [List.drop_eq_getElem_cons hin, Ck.docsL] at hR
                    have hxl := HTL.out _ (List.getElem_mem hin)
                    obtain ⟨x, hx⟩ : ∃ x, s.docs[i].name = x := ⟨_, rfl⟩
                    obtain ⟨rw1, hrw⟩ : ∃ x, s.docs[i].raw = x := ⟨_, rfl⟩
                    obtain ⟨ln, hln⟩ : ∃ x, s.docs[i].line = x := ⟨_, rfl⟩
                    obtain ⟨y, hy⟩ : ∃ x, s.docs[i].text = x := ⟨_, rfl⟩
                    rw [hx] at c0
                    rw [hrw] at c1 hR
                    rw [hln] at c2
                    rw [hy] at c3 hxl hR
                    have HR2 := Lib.hid hR
                    have hyx : y.length ≤ exMax := by unfold exMax; omega
                    have HBA := Lib.hid (HB.out.alloc hszr (.cells #[.string (bs x), .bool rw1, .int .i64 ln, .string (bs y)] 238))
                    have HSA : Hid (w.heap.size + 1 ≤ (wr.alloc (.cells #[.string (bs x), .bool rw1, .int .i64 ln, .string (bs y)] 238)).heap.size) := Lib.hid (by rw [World.size_alloc]; omega)
                    clear hx hrw hln hy hR HR
                    cases rw1 with
                    | true =>
                      have HR3 : Hid (Ck.docsL e (s.docs.drop (i + 1)) = n) := Lib.hid (by rw [← HR2.out]; exact (if_neg (fun h => by cases h.1)).symm)
                      go_wp2_with fail
                      go_roundw
                      case rel => first | exact ⟨i + 1, by omega, by go_num, HR3, HBA⟩ | exact ⟨_, _, _, _, ⟨i + 1, by omega, by go_num, HR3, HBA⟩, rfl, rfl, rfl, rfl⟩ | exact ⟨_, _, _, _, ⟨i + 1, by omega, by go_num, HR3⟩, rfl, rfl, rfl, rfl⟩
                      case measure => simp [intOf]; omega
                    | false =>
                      go_wp2_with fail
                      refine (exDoc_any y e hyx _).mono ?_
                      rintro r9 w9 ⟨t, m, rfl, hm, p9⟩
                      have HB9 := Lib.hid (HBA.out.trans (p9.mono HSA.out))
                      have hc := td_num hm
                      clear p9 hm
                      rcases hc with ⟨rfl, h0⟩ | ⟨rfl, h0⟩ | ⟨hm0, hm5, h0⟩
                      · have HR3 : Hid (Ck.docsL e (s.docs.drop (i + 1)) = n) := Lib.hid (by rw [← HR2.out]; exact (if_neg (fun h => h.2 h0)).symm)
                        clear h0
                        rw [show errV 0 = .nilIface from rfl]
                        go_wp2_with fail
                        go_roundw
                        case rel => first | exact ⟨i + 1, by omega, by go_num, HR3, HB9⟩ | exact ⟨_, _, _, _, ⟨i + 1, by omega, by go_num, HR3, HB9⟩, rfl, rfl, rfl, rfl⟩ | exact ⟨_, _, _, _, ⟨i + 1, by omega, by go_num, HR3⟩, rfl, rfl, rfl, rfl⟩ | exact ⟨_, _, _, _, ⟨i + 1, by omega, by go_num, HR3, HB9⟩, by first | rfl | trivial, by first | rfl | trivial, by first | rfl | trivial, by first | rfl | trivial⟩ | exact ⟨_, _, _, _, ⟨i + 1, by omega, by go_num, HR3⟩, by first | rfl | trivial, by first | rfl | trivial, by first | rfl | trivial, by first | rfl | trivial⟩ | exact ⟨_, _, _, _, ⟨i + 1, by omega, by go_num, HR3, HB9⟩, rfl⟩ | (exact ⟨_, _, _, _, ⟨i + 1, by omega, by go_num, HR3⟩, rfl⟩)
                        case measure => simp [intOf]; omega
                      · have HR3 : Hid (Ck.docsL e (s.docs.drop (i + 1)) = n) := Lib.hid (by rw [← HR2.out]; exact (if_neg (fun h => h.2 h0)).symm)
                        clear h0
                        rw [show errV 5 = eno 5 from rfl]
                        go_wp2_with fail
                        refine (is_eno 5 5 _).mono ?_
                        rintro r8 w8 ⟨rfl, rfl⟩
                        go_wp2_with fail
                        go_roundw
                        case rel => first | exact ⟨i + 1, by omega, by go_num, HR3, HB9⟩ | exact ⟨_, _, _, _, ⟨i + 1, by omega, by go_num, HR3, HB9⟩, rfl, rfl, rfl, rfl⟩ | exact ⟨_, _, _, _, ⟨i + 1, by omega, by go_num, HR3⟩, rfl, rfl, rfl, rfl⟩ | exact ⟨_, _, _, _, ⟨i + 1, by omega, by go_num, HR3, HB9⟩, by first | rfl | trivial, by first | rfl | trivial, by first | rfl | trivial, by first | rfl | trivial⟩ | exact ⟨_, _, _, _, ⟨i + 1, by omega, by go_num, HR3⟩, by first | rfl | trivial, by first | rfl | trivial, by first | rfl | trivial, by first | rfl | trivial⟩ | exact ⟨_, _, _, _, ⟨i + 1, by omega, by go_num, HR3, HB9⟩, rfl⟩ | (exact ⟨_, _, _, _, ⟨i + 1, by omega, by go_num, HR3⟩, rfl⟩)
                        case measure => simp [intOf]; omega
                      · have hE : errV m = eno (m : Int) := by unfold errV; rw [if_neg hm0]
                        have HE := Lib.hid hE
                        have HF : Hid (n = m) := Lib.hid (by
                          have hd : Ck.docL e y = m := h0
                          exact (HR2.out.symm.trans (if_pos (And.intro (by first | rfl | trivial) (by rw [hd]; exact hm0)))).trans hd)
                        have HA9 := Lib.hid (HAL.out.trans (HB9.out.mono (by omega)))
                        have hne : ((m : Int) == 5) = false := by rw [beq_eq_false_iff_ne]; omega
                        rw [hE]
                        clear hE h0
                        go_wp2_with fail
                        refine (is_eno (m : Int) 5 _).mono ?_
                        rintro r8 w8 ⟨rfl, rfl⟩
                        go_wp2_with fail
                        go_ret
                        exact ⟨by rw [HF.out, HE.out]; rfl, HA9.out⟩
                  · have i0 : decide ((i : Int) < (s.docs.length : Int)) = false := by rw [decide_eq_false_iff_not]; omega
                    have HF : Hid (n = 0) := Lib.hid (by rw [← HR.out, List.drop_eq_nil_of_le hin]; rfl)
                    have HA9 := Lib.hid (HAL.out.trans (HB.out.mono (by omega)))
                    go_wp2_with fail
                    go_ret
                    exact ⟨by rw [HF.out]; rfl, HA9.out⟩
              · have HF : Hid (n = 26) := Lib.hid (by rw [← HBN.out, HWD.out]; rfl)
                obtain ⟨k, hk⟩ : ∃ k, (d :: ds).length = k := ⟨_, rfl⟩
                have k2 : 0 < k := by rw [← hk]; exact Nat.succ_pos _
                rw [hk]
                have k0 : decide ((0 : Int) < (k : Int)) = true := by rw [decide_eq_true_eq]; omega
                clear hk hdl
                go_wp2_with fail
                go_ret
                exact ⟨by rw [HF.out]; rfl, HA5.out⟩
end Go.Proofs.YtnlkmljdcmfogaaGreatDoor
