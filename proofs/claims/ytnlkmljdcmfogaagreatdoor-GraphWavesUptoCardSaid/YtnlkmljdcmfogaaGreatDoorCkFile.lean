/- check.File, walked. (Printed by wip/genfile.py.) -/
import Derived.Test.YtnlkmljdcmfogaaGreatDoorCkStep
import Derived.Test.YtnlkmljdcmfogaaGreatDoorErrSt0
import Derived.Test.YtnlkmljdcmfogaaGreatDoorRely0
import Derived.Deep.CutBlock
namespace Go.Proofs.YtnlkmljdcmfogaaGreatDoor
open Go Go.RowKit Go.Extern.Stop Go.Stop Go.Extern
set_option maxRecDepth 100000 in
set_option maxHeartbeats 2000000 in
theorem file_any (f : FM) (w : World) (hok : f.Ok w) (hsm : f.fl.Small) (hT : Tabs w) (hM : Maxl w) (hV : ErrVar w) {x : Option (Nat × Int)} (H : Hid (Ck.fileL f.fl = x)) :
    Calls Tryz.prog 36 #[.agg #[.int .u8 (f.escape.toNat : Int), f.va, f.vg]] w fun r w' => r = .returned (filV x) ∧ Below w.heap.size w w' := by
  have hcount := count_fl f
  obtain ⟨e, va, args, vg, stages⟩ := f
  have hca : StsA w va args := hok.a
  have hcg : GsA w vg stages := hok.g
  dsimp only at H hcount ⊢
  obtain ⟨hsa, hsg, hsn⟩ := hsm
  clear hok
  obtain ⟨Aa, ka, rfl⟩ := hca.1.form
  obtain ⟨Ag, kg, rfl⟩ := hcg.1.form
  have heb : e.toNat < 256 := UInt8.toNat_lt _
  have hmf : ∀ (fn : Fn) (first cap : Array Value) (w : World), (Instr.makeFunc fn first cap).run Tryz.prog w = .ok (.func fn first cap) w := fun _ _ _ _ => rfl
  have hmm := fun W => run_makeMap (P := Tryz.prog) 185 W
  have HA0 := Lib.hid hca
  have HG0 := Lib.hid hcg
  have HT0 := Lib.hid hT
  have HM0 := Lib.hid hM
  have HV0 := Lib.hid hV
  have HSA := Lib.hid hsa
  have HSG := Lib.hid hsg
  obtain ⟨GS, hGS⟩ : ∃ G, G = stages.map GM.sg := ⟨_, rfl⟩
  have HGS := Lib.hid hGS
  obtain ⟨tot, htot⟩ : ∃ t, t = args.length + (stages.map fun g => g.ms.length).sum := ⟨_, rfl⟩
  have hct : Ck.countL (FM.fl ⟨e, .slice Aa args.length ka, args, .slice Ag stages.length kg, stages⟩) = tot := hcount.trans htot.symm
  have HF1 : Hid ((e ≠ 92 ∧ e ≠ 96) → some (1, 0) = x) := Lib.hid fun h => (Ck.file_esc (f := FM.fl ⟨e, .slice Aa args.length ka, args, .slice Ag stages.length kg, stages⟩) h).symm.trans H.out
  have HF2 : Hid (¬ (e ≠ 92 ∧ e ≠ 96) → stages.length = 0 → some (2, 0) = x) := Lib.hid fun h h0 => (Ck.file_none (f := FM.fl ⟨e, .slice Aa args.length ka, args, .slice Ag stages.length kg, stages⟩) h (List.eq_nil_of_length_eq_zero (by rw [FM.fl, List.length_map]; exact h0))).symm.trans H.out
  have HF3 : Hid (¬ (e ≠ 92 ∧ e ≠ 96) → 0 < stages.length → 32 < stages.length ∨ 512 < tot → some (5, 0) = x) := Lib.hid fun h h0 h1 => (Ck.file_many (f := FM.fl ⟨e, .slice Aa args.length ka, args, .slice Ag stages.length kg, stages⟩) h (fun q => by have := congrArg List.length q; rw [FM.fl, List.length_map] at this; simp only [List.length_nil] at this; omega) (by rw [hct, FM.fl, List.length_map]; exact h1)).symm.trans H.out
  have HF4 : Hid (¬ (e ≠ 92 ∧ e ≠ 96) → 0 < stages.length → ¬ (32 < stages.length ∨ 512 < tot) → Ck.restA e (args.map SM.s) GS = x) := Lib.hid fun h h0 h1 => by
    rw [hGS]
    exact (Ck.file_go (f := FM.fl ⟨e, .slice Aa args.length ka, args, .slice Ag stages.length kg, stages⟩) h (fun q => by have := congrArg List.length q; rw [FM.fl, List.length_map] at this; simp only [List.length_nil] at this; omega) (by rw [hct, FM.fl, List.length_map]; exact h1)).symm.trans H.out
  rw [hct, show (FM.fl ⟨e, .slice Aa args.length ka, args, .slice Ag stages.length kg, stages⟩).stages.length = stages.length by rw [FM.fl, List.length_map]] at hsn
  have HTOT := Lib.hid htot
  have ht6 : tot ≤ 1050000 := by omega
  obtain ⟨na, hna⟩ : ∃ n, args.length = n := ⟨_, rfl⟩
  obtain ⟨ng, hng⟩ : ∃ n, stages.length = n := ⟨_, rfl⟩
  have hna6 : na ≤ 1050000 := by omega
  have hng6 : ng ≤ 1050000 := by omega
  rw [hna] at HA0 HTOT
  rw [hng] at HG0 HF2 HF3 HF4
  have HNA := Lib.hid hna
  have HNG := Lib.hid hng
  rw [hna, hng]
  clear hna hng hcount hct hsn hca hcg hT hM hV hsa hsg hGS htot H
  go_enter_defers Tryz.func36, Tryz.ntmps36
  go_upto_region 2 with fail
  have HI1 : Hid (FIn w #[.int .u8 (e.toNat : Int), .slice Aa na ka, .slice Ag ng kg] ((w.alloc (.cells #[.int .u8 (e.toNat : Int), .slice Aa na ka, .slice Ag ng kg] 25)).alloc (.cells #[.nilIface] 40))) := Lib.hid ⟨((Below.refl w.heap.size w).alloc (Nat.le_refl _) _).alloc (by rw [World.size_alloc]; omega) _, by rw [World.size_alloc, World.size_alloc]; omega, (Blk.new w _ _).alloc _, by have := Blk.new (w.alloc (.cells #[.int .u8 (e.toNat : Int), .slice Aa na ka, .slice Ag ng kg] 25)) 40 #[.nilIface]; rwa [World.size_alloc] at this⟩
  obtain ⟨w1, hw1⟩ : ∃ y, (w.alloc (.cells #[.int .u8 (e.toNat : Int), .slice Aa na ka, .slice Ag ng kg] 25)).alloc (.cells #[.nilIface] 40) = y := ⟨_, rfl⟩
  rw [hw1] at HI1
  rw [hw1]
  clear hw1
  have b1 : w1.cell? ⟨w.heap.size, 1, none⟩ = some (.slice Aa na ka) := HI1.out.file.cell 1
  have b2 : w1.cell? ⟨w.heap.size, 2, none⟩ = some (.slice Ag ng kg) := HI1.out.file.cell 2
  go_upto_block 0 with fail
  go_cut [3] from 20 to 29 (fun s3 wx => s3 = .int .i64 (tot : Int) ∧ Hid (FIn w #[.int .u8 (e.toNat : Int), .slice Aa na ka, .slice Ag ng kg] wx))
  case first =>
    as_aux_lemma =>
    go_wp2_with fail
    go_loopw [3, 5, 20] (fun t3 _ t20 wr => ∃ (i S : Nat), i ≤ ng ∧ t20 = .int .i64 (i : Int) ∧ t3 = .int .i64 (S : Int) ∧ S ≤ tot ∧ Hid (S = na + ((stages.take i).map fun g => g.ms.length).sum) ∧ Hid (FIn w #[.int .u8 (e.toNat : Int), .slice Aa na ka, .slice Ag ng kg] wr)) (fun _ _ t20 _ => ng - (intOf t20).toNat)
    case atStart => exact ⟨0, na, by omega, rfl, rfl, by have := HTOT.out; omega, Lib.hid (by simp), HI1⟩
    case round =>
      as_aux_lemma =>
      clear b1 b2
      rename World => wr
      obtain ⟨i, S, hi, rfl, rfl, hS, HS, HI⟩ := hrel
      rcases Nat.lt_or_ge i ng with hin | hin
      · have i0 : decide ((i : Int) < (ng : Int)) = true := by rw [decide_eq_true_eq]; omega
        have i1 : (i : Int) < (ng : Int) := by omega
        have j0 : (0 : Int) ≤ (i : Int) := by omega
        have hil : i < stages.length := by have := HNG.out; omega
        have hG := HG0.out.new HI.out.below
        rw [← HNG.out] at hG
        obtain ⟨g, o, c, G, A, k, hv, hGe, hvs, -, c0, c1, c2, c3⟩ := gm_full hG hil
        injection hv with hA _ hcc
        subst hA hcc
        have HS2 : Hid (S + G.ms.length = na + ((stages.take (i + 1)).map fun g => g.ms.length).sum) := Lib.hid (by
          have := HS.out
          rw [sum_take stages i hil, hGe]; omega)
        have hS2 : S + G.ms.length ≤ tot := by
          have h1 := sum_take_le stages (i + 1)
          have h2 := HS2.out
          have h3 := HTOT.out
          omega
        have HIA := Lib.hid (HI.out.alloc (.cells #[.int .i64 G.line, .string (bs G.base), .string (bs G.name), .slice A G.ms.length k] 88))
        clear hG hGe hvs hil
        go_wp2_with fail
        go_roundw
        case rel => first | exact ⟨i + 1, S + G.ms.length, by omega, by go_num, by go_num, hS2, HS2, HIA⟩ | exact ⟨_, _, _, ⟨i + 1, S + G.ms.length, by omega, by go_num, by go_num, hS2, HS2, HIA⟩, rfl, rfl, rfl⟩
        case measure => simp [intOf]; omega
      · have i0 : decide ((i : Int) < (ng : Int)) = false := by rw [decide_eq_false_iff_not]; omega
        have HSE : Hid (S = tot) := Lib.hid (by
          have h1 := HS.out
          have h2 := HTOT.out
          rw [List.take_of_length_le (by have := HNG.out; omega)] at h1
          omega)
        go_wp2_with fail
        go_meet
        exact ⟨by rw [HSE.out], HI⟩
  case rest =>
    obtain ⟨rfl, HI2⟩ := hcut
    rename World => w2
    clear b1 b2 HI1
    have b0 : w2.cell? ⟨w.heap.size, 0, none⟩ = some (.int .u8 (e.toNat : Int)) := HI2.out.file.cell 0
    have b1 : w2.cell? ⟨w.heap.size, 1, none⟩ = some (.slice Aa na ka) := HI2.out.file.cell 1
    have b2 : w2.cell? ⟨w.heap.size, 2, none⟩ = some (.slice Ag ng kg) := HI2.out.file.cell 2
    obtain ⟨q, hq⟩ : ∃ q, Hid (decide (e ≠ 92 ∧ e ≠ 96) = q) := ⟨_, Lib.hid rfl⟩
    obtain ⟨n1, h1⟩ : ∃ b, ((e.toNat : Int) != 92) = b := ⟨_, rfl⟩
    obtain ⟨n2, h2⟩ : ∃ b, ((e.toNat : Int) != 96) = b := ⟨_, rfl⟩
    have HQN : Hid ((n1 && n2) = q) := Lib.hid (by rw [← h1, ← h2, esc_test]; exact hq.out)
    go_upto_region 8 with fail
    go_cut [30] from 31 to 38 (fun s30 wx => s30 = .bool q ∧ w2 = wx)
    case first =>
      as_aux_lemma =>
      cases n1 <;> (
        go_wp2_with fail
        go_meet
        rw [← HQN.out]
        first | exact ⟨rfl, rfl⟩ | exact ⟨by cases n2 <;> rfl, rfl⟩)
    case rest =>
      obtain ⟨rfl, rfl⟩ := hcut
      clear h1 h2 HQN
      cases q with
      | true =>
        go_wp2_with fail
        refine (stop_eno 0 1 _ (HV0.out.below HI2.out.below HV0.out.lt)).mono ?_
        rintro r wz ⟨rfl, pz⟩
        have HIz := Lib.hid (HI2.out.new pz)
        clear pz
        go_wp2_with fail
        exact HIz.out.bad HV0.out rfl (congrArg filV (HF1.out (of_decide_eq_true hq.out)))
      | false =>
        have HE : Hid (¬ (e ≠ 92 ∧ e ≠ 96)) := Lib.hid (of_decide_eq_false hq.out)
        rcases Nat.eq_zero_or_pos ng with z | z
        · have k0 : ((ng : Int) == 0) = true := by rw [beq_iff_eq]; omega
          have k1 : (ng == 0) = true := by rw [beq_iff_eq]; omega
          have HZ := Lib.hid z
          clear z
          go_wp2_with fail
          refine (stop_eno 0 2 _ (HV0.out.below HI2.out.below HV0.out.lt)).mono ?_
          rintro r wz ⟨rfl, pz⟩
          have HIz := Lib.hid (HI2.out.new pz)
          clear pz
          go_wp2_with fail
          exact HIz.out.bad HV0.out rfl (congrArg filV (HF2.out HE.out HZ.out))
        · have k0 : ((ng : Int) == 0) = false := by rw [beq_eq_false_iff_ne]; omega
          have k1 : (ng == 0) = false := by rw [beq_eq_false_iff_ne]; omega
          rcases Nat.lt_or_ge 32 ng with g | g
          · have k2 : decide ((32 : Int) < (ng : Int)) = true := by rw [decide_eq_true_eq]; omega
            go_wp2_with fail
            refine (stop_eno 0 5 _ (HV0.out.below HI2.out.below HV0.out.lt)).mono ?_
            rintro r wz ⟨rfl, pz⟩
            have HIz := Lib.hid (HI2.out.new pz)
            clear pz
            go_wp2_with fail
            exact HIz.out.bad HV0.out rfl (congrArg filV (HF3.out HE.out z (.inl g)))
          · have k2 : decide ((32 : Int) < (ng : Int)) = false := by rw [decide_eq_false_iff_not]; omega
            have k3 : ¬ (32 : Int) < (ng : Int) := by omega
            rcases Nat.lt_or_ge 512 tot with y | y
            · have k4 : decide ((512 : Int) < (tot : Int)) = true := by rw [decide_eq_true_eq]; omega
              go_wp2_with fail
              refine (stop_eno 0 5 _ (HV0.out.below HI2.out.below HV0.out.lt)).mono ?_
              rintro r wz ⟨rfl, pz⟩
              have HIz := Lib.hid (HI2.out.new pz)
              clear pz
              go_wp2_with fail
              exact HIz.out.bad HV0.out rfl (congrArg filV (HF3.out HE.out z (.inr y)))
            · have k4 : decide ((512 : Int) < (tot : Int)) = false := by rw [decide_eq_false_iff_not]; omega
              have k5 : ¬ (512 : Int) < (tot : Int) := by omega
              have HX0 := Lib.hid (HF4.out HE.out z (by omega))
              go_wp2_with fail
              clear HF1 HF2 HF3 HF4 k0 k1 k2 k3 k4 k5 b0 b1 b2 hq
              go_loopw [7, 62] (fun _ t62 wr => ∃ (i : Nat), i ≤ na ∧ t62 = .int .i64 (i : Int) ∧ Hid (Ck.restA e ((args.map SM.s).drop i) GS = x) ∧ Hid (FIn w #[.int .u8 (e.toNat : Int), .slice Aa na ka, .slice Ag ng kg] wr)) (fun _ t62 _ => na - (intOf t62).toNat)
              case atStart => exact ⟨0, by omega, rfl, HX0, HI2⟩
              case round =>
                as_aux_lemma =>
                rename World => wr
                obtain ⟨i, hi, rfl, HX, HI⟩ := hrel
                clear HI2 HX0
                rcases Nat.lt_or_ge i na with hin | hin
                · have i0 : decide ((i : Int) < (na : Int)) = true := by rw [decide_eq_true_eq]; omega
                  have i1 : (i : Int) < (na : Int) := by omega
                  have j0 : (0 : Int) ≤ (i : Int) := by omega
                  have hil : i < args.length := by have := HNA.out; omega
                  have hA0 := HA0.out.new HI.out.below
                  rw [← HNA.out] at hA0
                  have hmok := HA0.out.2 _ (List.getElem_mem hil)
                  have hsmall := HSA.out _ (List.mem_map.2 ⟨_, List.getElem_mem hil, rfl⟩)
                  obtain ⟨g, o, c, s, Ap, Aw, Ad, Ae, kp, kw, kd, ke, hv, hse, c0, c1, c2, c3, c4, c5, c6, c7, c8, c9⟩ := sm_full hA0 hil
                  injection hv with hA _ hcc
                  subst hA hcc
                  rw [hse] at hmok hsmall
                  have hX := HX.out
                  rw [drop_map hil, hse] at hX
                  have HX2 := Lib.hid hX
                  have HMO := Lib.hid hmok
                  have HSS := Lib.hid hsmall
                  clear hA0 hse hmok hsmall hX HX hil
                  go_upto_region 17 with (refine wpList_store_st rfl _ _ _ rfl stepT wr.heap.size #[.int .i64 s.op, .int .i64 s.line, .string (bs s.from_), .string (bs s.mode), .bool s.force, .slice Ap s.pairs.length kp, .bool s.bare, .slice Aw s.words.length kw, .slice Ad s.docs.length kd, .slice Ae s.exec.length ke] #[.int .i64 0, .int .i64 0, .string ⟨#[]⟩, .string ⟨#[]⟩, .bool false, .slice none 0 0, .bool false, .slice none 0 0, .slice none 0 0, .slice none 0 0] rfl rfl (Blk.new _ _ _) rfl rfl rfl ?_; intro w7 hK7 hg7 hz7)
                  have HIA := Lib.hid (HI.out.alloc (.cells #[.int .i64 0, .int .i64 0, .string ⟨#[]⟩, .string ⟨#[]⟩, .bool false, .slice none 0 0, .bool false, .slice none 0 0, .slice none 0 0, .slice none 0 0] 100))
                  have HI7 := Lib.hid (HIA.out.grown hg7 HI.out.size)
                  have HK7 := Lib.hid hK7
                  clear hK7 hg7 hz7 HIA c0 c1 c2 c3 c4 c5 c6 c7 c8 c9
                  obtain ⟨G7, hG7⟩ : ∃ y, wr.heap.size = y := ⟨_, rfl⟩
                  rw [hG7] at HK7 ⊢
                  clear hG7
                  have d0 : w7.cell? ⟨G7, 0, none⟩ = some (.int .i64 s.op) := HK7.out.cell 0
                  have d1 : w7.cell? ⟨G7, 1, none⟩ = some (.int .i64 s.line) := HK7.out.cell 1
                  obtain ⟨t, ht⟩ : ∃ b, (s.op != 1) = b := ⟨_, rfl⟩
                  cases t with
                  | true =>
                    go_wp2_with fail
                    refine (stop_eno s.line 19 _ (HV0.out.below HI7.out.below HV0.out.lt)).mono ?_
                    rintro r wz ⟨rfl, pz⟩
                    have HIz := Lib.hid (HI7.out.new pz)
                    clear pz
                    go_wp2_with fail
                    exact HIz.out.bad HV0.out rfl (congrArg filV ((Ck.restA_op (bne_iff_ne.1 ht)).symm.trans HX2.out))
                  | false =>
                    have hop : s.op = 1 := by simpa using ht
                    have HOP := Lib.hid hop
                    clear hop
                    obtain ⟨n, HN⟩ : ∃ n, Hid (Ck.stepL s e = n) := ⟨_, Lib.hid rfl⟩
                    go_upto_region 19 with fail
                    refine' wp_region_rely_tail 6 (fun wx => Below w7.heap.size w7 wx) (VL [.pointer (some ⟨G7, 1, none⟩), .int .i64 s.line, .agg #[.int .i64 s.op, .int .i64 s.line, .string (bs s.from_), .string (bs s.mode), .bool s.force, .slice Ap s.pairs.length kp, .bool s.bare, .slice Aw s.words.length kw, .slice Ad s.docs.length kd, .slice Ae s.exec.length ke], .pointer (some ⟨w.heap.size, 0, none⟩), .int .u8 (e.toNat : Int), errV n]) ?F1 ?hF1 (by kernel_rfl) (by kernel_rfl) (by kernel_rfl) (by decide) (by kernel_rfl) (by kernel_rfl) (by kernel_rfl) (Below.refl _ _).drew ?hsteps1 ?hT1
                    case hF1 =>
                      intro xs
                      refine (frameX_eq _ _ _).trans ?_
                      simp only [frameL, Act.put, List.setIfInBounds_toArray, List.set_cons_zero, List.set_cons_succ, Nat.reduceAdd, Nat.zero_add]
                      exact rfl
                    case hsteps1 =>
                      as_aux_lemma =>
                      simp only [List.take_succ_cons, List.take_zero]
                      refine Steps.cons (n := []) (k := 1) rfl (by kernel_rfl) (fun xs wx hS hV K hK => ?_) ?_
                      · clear hV
                        go_simp
                        exact hK.out _ _ hS rfl (fun _ _ h => h)
                      refine Steps.cons (n := [0]) (k := 2) rfl (by kernel_rfl) (fun xs wx hS hV K hK => ?_) ?_
                      · obtain ⟨d0, -⟩ := hV
                        replace d0 : xs 0 = .pointer (some ⟨G7, 1, none⟩) := (Option.some.inj d0).symm
                        rw [d0] at hK ⊢
                        have c : wx.cell? ⟨G7, 1, none⟩ = some (.int .i64 s.line) := (HK7.out.below hS HK7.out.lt).cell 1
                        go_simp
                        exact hK.out _ _ hS rfl (fun _ _ h => h)
                      refine Steps.cons (n := []) (k := 3) rfl (by kernel_rfl) (fun xs wx hS hV K hK => ?_) ?_
                      · clear hV
                        have c0 : wx.cell? ⟨G7, 0, none⟩ = some (.int .i64 s.op) := (HK7.out.below hS HK7.out.lt).cell 0
                        have c1 : wx.cell? ⟨G7, 1, none⟩ = some (.int .i64 s.line) := (HK7.out.below hS HK7.out.lt).cell 1
                        have c2 : wx.cell? ⟨G7, 2, none⟩ = some (.string (bs s.from_)) := (HK7.out.below hS HK7.out.lt).cell 2
                        have c3 : wx.cell? ⟨G7, 3, none⟩ = some (.string (bs s.mode)) := (HK7.out.below hS HK7.out.lt).cell 3
                        have c4 : wx.cell? ⟨G7, 4, none⟩ = some (.bool s.force) := (HK7.out.below hS HK7.out.lt).cell 4
                        have c5 : wx.cell? ⟨G7, 5, none⟩ = some (.slice Ap s.pairs.length kp) := (HK7.out.below hS HK7.out.lt).cell 5
                        have c6 : wx.cell? ⟨G7, 6, none⟩ = some (.bool s.bare) := (HK7.out.below hS HK7.out.lt).cell 6
                        have c7 : wx.cell? ⟨G7, 7, none⟩ = some (.slice Aw s.words.length kw) := (HK7.out.below hS HK7.out.lt).cell 7
                        have c8 : wx.cell? ⟨G7, 8, none⟩ = some (.slice Ad s.docs.length kd) := (HK7.out.below hS HK7.out.lt).cell 8
                        have c9 : wx.cell? ⟨G7, 9, none⟩ = some (.slice Ae s.exec.length ke) := (HK7.out.below hS HK7.out.lt).cell 9
                        go_simp
                        exact hK.out _ _ hS rfl (fun _ _ h => h)
                      refine Steps.cons (n := []) (k := 4) rfl (by kernel_rfl) (fun xs wx hS hV K hK => ?_) ?_
                      · clear hV
                        go_simp
                        exact hK.out _ _ hS rfl (fun _ _ h => h)
                      refine Steps.cons (n := [3]) (k := 5) rfl (by kernel_rfl) (fun xs wx hS hV K hK => ?_) ?_
                      · obtain ⟨d3, -⟩ := hV
                        replace d3 : xs 3 = .pointer (some ⟨w.heap.size, 0, none⟩) := (Option.some.inj d3).symm
                        rw [d3] at hK ⊢
                        have c : wx.cell? ⟨w.heap.size, 0, none⟩ = some (.int .u8 (e.toNat : Int)) := (HI7.out.new hS).file.cell 0
                        go_simp
                        exact hK.out _ _ hS rfl (fun _ _ h => h)
                      refine Steps.cons (n := [2, 4]) (k := 6) rfl (by kernel_rfl) (fun xs wx hS hV K hK => ?_) ?_
                      · obtain ⟨d2, d4, -⟩ := hV
                        replace d2 : xs 2 = .agg #[.int .i64 s.op, .int .i64 s.line, .string (bs s.from_), .string (bs s.mode), .bool s.force, .slice Ap s.pairs.length kp, .bool s.bare, .slice Aw s.words.length kw, .slice Ad s.docs.length kd, .slice Ae s.exec.length ke] := (Option.some.inj d2).symm
                        replace d4 : xs 4 = .int .u8 (e.toNat : Int) := (Option.some.inj d4).symm
                        rw [d2, d4] at hK ⊢
                        go_simp
                        have hbx := (HI7.out.new hS).below
                        refine (step_any ⟨s, .slice Ap s.pairs.length kp, .slice Aw s.words.length kw, .slice Ad s.docs.length kd, .slice Ae s.exec.length ke⟩ e _ (HMO.out.new hbx) (HT0.out.new hbx) (HM0.out.grow hbx) HSS.out.1 HSS.out.2 HN).mono ?_
                        rintro r w2 ⟨rfl, p2⟩
                        exact hK.out _ _ (hS.trans (p2.mono hS.size)) rfl (fun _ _ h => h)
                      exact Steps.nil
                    case hT1 =>
                      intro xs w8 hS hV
                      have d1 : xs 1 = .int .i64 s.line := (Option.some.inj (hV 1 (by decide))).symm
                      have d5 : xs 5 = errV n := (Option.some.inj (hV 5 (by decide))).symm
                      simp only [List.drop_succ_cons, List.drop_zero]
                      rw [d1, d5]
                      have HI8 := Lib.hid (HI7.out.new hS)
                      clear hV d1 d5 hS HI7 HK7
                      rcases Nat.eq_zero_or_pos n with z | z
                      · subst z
                        have HX3 := Lib.hid ((Ck.restA_ok HOP.out HN.out).symm.trans HX2.out)
                        go_wp2_with fail
                        refine (stop_ok _ _).mono ?_
                        rintro r w9 ⟨rfl, p9⟩
                        have HI9 := Lib.hid (HI8.out.new p9)
                        clear p9
                        go_wp2_with fail
                        go_roundw
                        case rel => first | exact ⟨i + 1, by omega, by go_num, HX3, HI9⟩ | exact ⟨_, _, ⟨i + 1, by omega, by go_num, HX3, HI9⟩, rfl, rfl⟩
                        case measure => simp [intOf]; omega
                      · have HX3 := Lib.hid ((Ck.restA_bad HOP.out (by rw [HN.out]; omega)).symm.trans HX2.out)
                        rw [HN.out] at HX3
                        go_wp2_with fail
                        refine (stop_bad _ n _ (HV0.out.below HI8.out.below HV0.out.lt) (by omega)).mono ?_
                        rintro r w9 ⟨rfl, p9⟩
                        have HI9 := Lib.hid (HI8.out.new p9)
                        clear p9
                        go_wp2_with fail
                        exact HI9.out.bad HV0.out rfl (congrArg filV (HX3.out))
                · have i0 : decide ((i : Int) < (na : Int)) = false := by rw [decide_eq_false_iff_not]; omega
                  have e0n : decide (i < na) = false := by rw [decide_eq_false_iff_not]; omega
                  have HX1 : Hid (Ck.stagesL e [] GS = x) := Lib.hid (by
                    have h := HX.out
                    rw [List.drop_of_length_le (by rw [List.length_map]; have := HNA.out; omega)] at h
                    exact h)
                  have b2 : wr.cell? ⟨w.heap.size, 2, none⟩ = some (.slice Ag ng kg) := HI.out.file.cell 2
                  clear HX HA0 HSA
                  have b3 : (wr.alloc (.map #[] 0)).cell? ⟨w.heap.size, 2, none⟩ = some (.slice Ag ng kg) := (HI.out.alloc _).file.cell 2
                  go_wp2_with fail
                  obtain ⟨M, hMM⟩ : ∃ y, wr.heap.size = y := ⟨_, rfl⟩
                  have hNM := NM.new wr
                  have hMsz := HI.out.size
                  rw [hMM] at hNM hMsz ⊢
                  have HNM := Lib.hid hNM
                  have HIM := Lib.hid (HI.out.alloc (.map #[] 0))
                  clear hNM hMM b2 b3 HI
                  go_loopw [10, 12, 85, 145] (fun _ _ t85 _ wv => ∃ (i N : Nat), i ≤ ng ∧ t85 = .int .i64 (i : Int) ∧ Hid (NM wv M N (Ck.keptN ((stages.map GM.name).take i))) ∧ N ≤ i ∧ Hid (Ck.stagesL e ((stages.map GM.name).take i) (GS.drop i) = x) ∧ Hid (FIn w #[.int .u8 (e.toNat : Int), .slice Aa na ka, .slice Ag ng kg] wv)) (fun _ _ t85 _ _ => ng - (intOf t85).toNat)
                  case atStart => exact ⟨0, 0, by omega, rfl, HNM, by omega, HX1, HIM⟩
                  case round =>
                    as_aux_lemma =>
                    rename World => wv
                    obtain ⟨i, N, hi, rfl, HNM2, hN, HX, HI⟩ := hrel
                    clear HNM HIM HX1
                    rcases Nat.lt_or_ge i ng with hin | hin
                    · have i0 : decide ((i : Int) < (ng : Int)) = true := by rw [decide_eq_true_eq]; omega
                      have i1 : (i : Int) < (ng : Int) := by omega
                      have j0 : (0 : Int) ≤ (i : Int) := by omega
                      have hil : i < stages.length := by have := HNG.out; omega
                      have hG := HG0.out.new HI.out.below
                      rw [← HNG.out] at hG
                      have hsmall := HSG.out _ (List.mem_map.2 ⟨_, List.getElem_mem hil, rfl⟩)
                      obtain ⟨g, o, c, G, A, k, hv, hGe, hvs, hst, c0, c1, c2, c3⟩ := gm_full hG hil
                      injection hv with hA _ hcc
                      subst hA hcc
                      have hX := HX.out
                      rw [HGS.out, drop_map hil, ← HGS.out, hGe] at hX
                      have hnm := take_name hil
                      rw [hGe] at hnm hsmall
                      obtain ⟨names, hnames⟩ : ∃ y, (stages.map GM.name).take i = y := ⟨_, rfl⟩
                      rw [hnames] at hX hnm HNM2
                      obtain ⟨line, base, name, vs, ms⟩ := G
                      dsimp only at hvs hst c0 c1 c2 c3 hnm
                      have hb6 : base.length ≤ 1050000 := hsmall.1
                      have hn6 : name.length ≤ 1050000 := hsmall.2.1
                      have hms : ∀ s ∈ ms.map SM.s, s.Small := hsmall.2.2
                      subst hvs
                      have HX2 := Lib.hid hX
                      have HNX := Lib.hid hnm
                      have HMS := Lib.hid hms
                      have HST : Hid (StsA w (.slice A ms.length k) ms) := Lib.hid (by have h := HG0.out.2 _ (List.getElem_mem hil); rw [hGe] at h; exact h)
                      have hmsn : ms.length ≤ 1050000 := by
                        have h1 := sum_take_le stages (i + 1)
                        have h2 := HTOT.out
                        rw [sum_take stages i hil, hGe] at h1
                        dsimp only at h1
                        omega
                      clear hG hGe hst hX hnm hms hsmall hnames HX hil
                      go_upto_region 25 with fail
                      have HI7 := Lib.hid (HI.out.alloc (.cells #[.int .i64 line, .string (bs base), .string (bs name), .slice A ms.length k] 88))
                      have HK7 := Lib.hid (Blk.new wv 88 #[.int .i64 line, .string (bs base), .string (bs name), .slice A ms.length k])
                      have HNM7 := Lib.hid (HNM2.out.kept (World.grownBy_alloc wv (.cells #[.int .i64 line, .string (bs base), .string (bs name), .slice A ms.length k] 88) none) (by simp))
                      have hMw := HNM2.out.lt
                      have hszv := HI.out.size
                      obtain ⟨G7, hG7⟩ : ∃ y, wv.heap.size = y := ⟨_, rfl⟩
                      obtain ⟨w7, hw7⟩ : ∃ y, wv.alloc (.cells #[.int .i64 line, .string (bs base), .string (bs name), .slice A ms.length k] 88) = y := ⟨_, rfl⟩
                      rw [hG7] at HK7 hMw hszv
                      rw [hw7] at HI7 HK7 HNM7
                      rw [hw7, hG7]
                      clear hG7 hw7 HI HNM2 c0 c1 c2 c3
                      have HX3 : Hid (Ck.stagesL e names ((⟨line, base, name, ms.map SM.s⟩ : Ck.Sg) :: GS.drop (i + 1)) = x) := HX2
                      clear HX2
                      have d1 : w7.cell? ⟨G7, 1, none⟩ = some (.string (bs base)) := HK7.out.cell 1
                      have d2 : w7.cell? ⟨G7, 2, none⟩ = some (.string (bs name)) := HK7.out.cell 2
                      obtain ⟨t1, HB1⟩ : ∃ b, Hid (Ck.badT base = b) := ⟨_, Lib.hid rfl⟩
                      obtain ⟨t2, HB2⟩ : ∃ b, Hid (Ck.badT name = b) := ⟨_, Lib.hid rfl⟩
                      obtain ⟨tt, HTT⟩ : ∃ b, Hid ((t1 || t2) = b) := ⟨_, Lib.hid rfl⟩
                      go_cut [89] from 90 to 99 (fun s89 wx => s89 = .bool tt ∧ Hid (Below w7.heap.size w7 wx))
                      case first =>
                        as_aux_lemma =>
                        go_wp2_with fail
                        refine (valid_any base _ (by omega) (HT0.out.new HI7.out.below) HB1).mono ?_
                        rintro r wa ⟨rfl, pa⟩
                        have PA := Lib.hid pa
                        have d2a : wa.cell? ⟨G7, 2, none⟩ = some (.string (bs name)) := (HK7.out.below pa HK7.out.lt).cell 2
                        clear pa
                        cases t1 with
                        | true =>
                          go_wp2_with fail
                          go_meet
                          exact ⟨by rw [← HTT.out]; rfl, PA⟩
                        | false =>
                          go_wp2_with fail
                          refine (valid_any name _ (by omega) (HT0.out.new (HI7.out.new PA.out).below) HB2).mono ?_
                          rintro r wb ⟨rfl, pb⟩
                          have PB := Lib.hid (PA.out.trans (pb.mono PA.out.size))
                          clear pb
                          cases t2 <;> (
                            go_wp2_with fail
                            go_meet
                            exact ⟨by rw [← HTT.out]; rfl, PB⟩)
                      case rest =>
                        obtain ⟨rfl, PB⟩ := hcut
                        rename World => w8
                        have HI8 := Lib.hid (HI7.out.new PB.out)
                        have HK8 := Lib.hid (HK7.out.below PB.out HK7.out.lt)
                        have HNM8 := Lib.hid (HNM7.out.below PB.out HNM7.out.lt)
                        clear d1 d2 HI7 HK7 HNM7 PB
                        have d0 : w8.cell? ⟨G7, 0, none⟩ = some (.int .i64 line) := HK8.out.cell 0
                        have d1 : w8.cell? ⟨G7, 1, none⟩ = some (.string (bs base)) := HK8.out.cell 1
                        have HBB : Hid ((Ck.badT base || Ck.badT name) = tt) := Lib.hid (by rw [HB1.out, HB2.out]; exact HTT.out)
                        cases tt with
                        | true =>
                                  go_wp2_with fail
                                  refine (stop_eno line 6 _ (HV0.out.below HI8.out.below HV0.out.lt)).mono ?_
                                  rintro r wz ⟨rfl, pz⟩
                                  have HIz := Lib.hid (HI8.out.new pz)
                                  clear pz
                                  go_wp2_with fail
                                  exact HIz.out.bad HV0.out rfl (congrArg filV ((Ck.stagesL_bad (Ck.sg_bad HBB.out) (by decide)).symm.trans HX3.out))
                                | false =>
                                  obtain ⟨be, hbe⟩ : ∃ b, (bs base).toList.isEmpty = b := ⟨_, rfl⟩
                                  cases be with
                                  | true =>
                                    have HBN : Hid (base = []) := Lib.hid (by rw [bs_list] at hbe; exact List.isEmpty_iff.1 hbe)
                                    go_wp2_with fail
                                    refine (stop_eno line 2 _ (HV0.out.below HI8.out.below HV0.out.lt)).mono ?_
                                    rintro r wz ⟨rfl, pz⟩
                                    have HIz := Lib.hid (HI8.out.new pz)
                                    clear pz
                                    go_wp2_with fail
                                    exact HIz.out.bad HV0.out rfl (congrArg filV ((Ck.stagesL_bad (Ck.sg_short HBB.out HBN.out) (by decide)).symm.trans HX3.out))
                                  | false =>
                                    have HBN : Hid (base ≠ []) := Lib.hid (fun q => by rw [bs_list, q] at hbe; cases hbe)
                                    obtain ⟨n, HN⟩ : ∃ n, Hid (Ck.wordL e base = n) := ⟨_, Lib.hid rfl⟩
                                    go_upto_region 29 with fail
                                    clear hbe
                                    refine' wp_region_rely_tail 7 (fun wx => Below w8.heap.size w8 wx) (VL [.pointer (some ⟨G7, 0, none⟩), .int .i64 line, .pointer (some ⟨G7, 1, none⟩), .string (bs base), .pointer (some ⟨w.heap.size, 0, none⟩), .int .u8 (e.toNat : Int), errV n]) ?F2 ?hF2 (by kernel_rfl) (by kernel_rfl) (by kernel_rfl) (by decide) (by kernel_rfl) (by kernel_rfl) (by kernel_rfl) (Below.refl _ _).drew ?hsteps2 ?hT2
                                    case hF2 =>
                                      intro xs
                                      refine (frameX_eq _ _ _).trans ?_
                                      simp only [frameL, Act.put, List.setIfInBounds_toArray, List.set_cons_zero, List.set_cons_succ, Nat.reduceAdd, Nat.zero_add]
                                      exact rfl
                                    case hsteps2 =>
                                      as_aux_lemma =>
                                      simp only [List.take_succ_cons, List.take_zero]
                                      refine Steps.cons (n := []) (k := 1) rfl (by kernel_rfl) (fun xs wx hS hV K hK => ?_) ?_
                                      · clear hV
                                        go_simp
                                        exact hK.out _ _ hS rfl (fun _ _ h => h)
                                      refine Steps.cons (n := [0]) (k := 2) rfl (by kernel_rfl) (fun xs wx hS hV K hK => ?_) ?_
                                      · obtain ⟨d0, -⟩ := hV
                                        replace d0 : xs 0 = .pointer (some ⟨G7, 0, none⟩) := (Option.some.inj d0).symm
                                        rw [d0] at hK ⊢
                                        have c : wx.cell? ⟨G7, 0, none⟩ = some (.int .i64 line) := (HK8.out.below hS HK8.out.lt).cell 0
                                        go_simp
                                        exact hK.out _ _ hS rfl (fun _ _ h => h)
                                      refine Steps.cons (n := []) (k := 3) rfl (by kernel_rfl) (fun xs wx hS hV K hK => ?_) ?_
                                      · clear hV
                                        go_simp
                                        exact hK.out _ _ hS rfl (fun _ _ h => h)
                                      refine Steps.cons (n := [2]) (k := 4) rfl (by kernel_rfl) (fun xs wx hS hV K hK => ?_) ?_
                                      · obtain ⟨d2, -⟩ := hV
                                        replace d2 : xs 2 = .pointer (some ⟨G7, 1, none⟩) := (Option.some.inj d2).symm
                                        rw [d2] at hK ⊢
                                        have c : wx.cell? ⟨G7, 1, none⟩ = some (.string (bs base)) := (HK8.out.below hS HK8.out.lt).cell 1
                                        go_simp
                                        exact hK.out _ _ hS rfl (fun _ _ h => h)
                                      refine Steps.cons (n := []) (k := 5) rfl (by kernel_rfl) (fun xs wx hS hV K hK => ?_) ?_
                                      · clear hV
                                        go_simp
                                        exact hK.out _ _ hS rfl (fun _ _ h => h)
                                      refine Steps.cons (n := [4]) (k := 6) rfl (by kernel_rfl) (fun xs wx hS hV K hK => ?_) ?_
                                      · obtain ⟨d4, -⟩ := hV
                                        replace d4 : xs 4 = .pointer (some ⟨w.heap.size, 0, none⟩) := (Option.some.inj d4).symm
                                        rw [d4] at hK ⊢
                                        have c : wx.cell? ⟨w.heap.size, 0, none⟩ = some (.int .u8 (e.toNat : Int)) := (HI8.out.new hS).file.cell 0
                                        go_simp
                                        exact hK.out _ _ hS rfl (fun _ _ h => h)
                                      refine Steps.cons (n := [3, 5]) (k := 7) rfl (by kernel_rfl) (fun xs wx hS hV K hK => ?_) ?_
                                      · obtain ⟨d3, d5, -⟩ := hV
                                        replace d3 : xs 3 = .string (bs base) := (Option.some.inj d3).symm
                                        replace d5 : xs 5 = .int .u8 (e.toNat : Int) := (Option.some.inj d5).symm
                                        rw [d3, d5] at hK ⊢
                                        go_simp
                                        refine (word_any base e (Nat.le_trans hb6 (by decide)) _ HN).mono ?_
                                        rintro r w2 ⟨rfl, p2⟩
                                        exact hK.out _ _ (hS.trans (p2.mono hS.size)) rfl (fun _ _ h => h)
                                      exact Steps.nil
                                    case hT2 =>
                                      intro xs w9 hS hV
                                      have d1 : xs 1 = .int .i64 line := (Option.some.inj (hV 1 (by decide))).symm
                                      have d6 : xs 6 = errV n := (Option.some.inj (hV 6 (by decide))).symm
                                      simp only [List.drop_succ_cons, List.drop_zero]
                                      rw [d1, d6]
                                      have HI9 := Lib.hid (HI8.out.new hS)
                                      have HK9 := Lib.hid (HK8.out.below hS HK8.out.lt)
                                      have HNM9 := Lib.hid (HNM8.out.below hS HNM8.out.lt)
                                      clear hV d1 d6 hS HI8 HK8 HNM8 d0
                                      rcases Nat.eq_zero_or_pos n with z | z
                                      · subst z
                                        go_wp2_with fail
                                        refine (stop_ok _ _).mono ?_
                                        rintro r wa ⟨rfl, pa⟩
                                        have HIa := Lib.hid (HI9.out.new pa)
                                        have HKa := Lib.hid (HK9.out.below pa HK9.out.lt)
                                        have HNMa := Lib.hid (HNM9.out.below pa HNM9.out.lt)
                                        clear pa HI9 HK9 HNM9
                                        have d0 : wa.cell? ⟨G7, 0, none⟩ = some (.int .i64 line) := HKa.out.cell 0
                                        have d2 : wa.cell? ⟨G7, 2, none⟩ = some (.string (bs name)) := HKa.out.cell 2
                                        obtain ⟨ne, hne⟩ : ∃ b, (bs name).toList.isEmpty = b := ⟨_, rfl⟩
                                        go_upto_if 122 with fail
                                        go_cut [8] from 123 to 141 (fun s8 wx => s8 = .map (some M) ∧ (∃ N2, N2 ≤ i + 1 ∧ Hid (NM wx M N2 (Ck.keptN (names ++ [name])))) ∧ Hid (Ck.stageL e names (⟨line, base, name, ms.map SM.s⟩ : Ck.Sg) = 0) ∧ Hid (FIn w #[.int .u8 (e.toNat : Int), .slice Aa na ka, .slice (some ⟨g, o, none⟩) ng kg] wx) ∧ Hid (Blk wx G7 88 #[.int .i64 line, .string (bs base), .string (bs name), .slice A ms.length k]))
                                        case first =>
                                          as_aux_lemma =>
                                          cases ne with
                                          | true =>
                                            have HNE : Hid (name = []) := Lib.hid (by rw [bs_list] at hne; exact List.isEmpty_iff.1 hne)
                                            have HK2 : Hid (NM wa M N (Ck.keptN (names ++ [name]))) := Lib.hid (by rw [Ck.keptN_snoc, if_pos HNE.out]; exact HNMa.out)
                                            have HS0 : Hid (Ck.stageL e names (⟨line, base, name, ms.map SM.s⟩ : Ck.Sg) = 0) := Lib.hid (Ck.sg_none HBB.out HBN.out HN.out HNE.out)
                                            go_wp2_with fail
                                            go_meet
                                            exact ⟨rfl, ⟨N, by omega, HK2⟩, HS0, HIa, HKa⟩
                                          | false =>
                                            have HNE : Hid (name ≠ []) := Lib.hid (fun q => by rw [bs_list, q] at hne; cases hne)
                                            obtain ⟨sb, HSB⟩ : ∃ b, Hid (Ck.stageP name = b) := ⟨_, Lib.hid rfl⟩
                                            go_wp2_with fail
                                            refine (stage_any name (by omega) _ HSB).mono ?_
                                            rintro r wb ⟨rfl, rfl⟩
                                            cases sb with
                                            | false =>
                                                go_wp2_with fail
                                                refine (stop_eno line 8 _ (HV0.out.below HIa.out.below HV0.out.lt)).mono ?_
                                                rintro r wz ⟨rfl, pz⟩
                                                have HIz := Lib.hid (HIa.out.new pz)
                                                clear pz
                                                go_wp2_with fail
                                                exact HIz.out.bad HV0.out rfl (congrArg filV ((Ck.stagesL_bad (Ck.sg_name HBB.out HBN.out HN.out HNE.out ((Ck.stage_same _).symm.trans HSB.out)) (by decide)).symm.trans HX3.out))
                                              | true =>
                                                have hlook := HNMa.out.look name (by omega)
                                                obtain ⟨dd, hdd⟩ : ∃ b, decide (name ∈ Ck.keptN names) = b := ⟨_, rfl⟩
                                                rw [hdd] at hlook
                                                have HDD : Hid (decide (name ∈ names) = dd) := Lib.hid (by rw [← hdd, decide_eq_decide]; exact (Ck.keptN_mem HNE.out).symm)
                                                clear hdd
                                                cases dd with
                                                | true =>
                                                  go_wp2_with fail
                                                  refine (stop_eno line 11 _ (HV0.out.below HIa.out.below HV0.out.lt)).mono ?_
                                                  rintro r wz ⟨rfl, pz⟩
                                                  have HIz := Lib.hid (HIa.out.new pz)
                                                  clear pz
                                                  go_wp2_with fail
                                                  exact HIz.out.bad HV0.out rfl (congrArg filV ((Ck.stagesL_bad (Ck.sg_twice HBB.out HBN.out HN.out HNE.out ((Ck.stage_same _).symm.trans HSB.out) (of_decide_eq_true HDD.out)) (by decide)).symm.trans HX3.out))
                                                | false =>
                                                  have HS0 : Hid (Ck.stageL e names (⟨line, base, name, ms.map SM.s⟩ : Ck.Sg) = 0) := Lib.hid (Ck.sg_ok HBB.out HBN.out HN.out ((Ck.stage_same _).symm.trans HSB.out) (of_decide_eq_false HDD.out))
                                                  go_wp2_with (at_mapUpdate; refine wpList_nm rfl _ _ _ rfl M N _ rfl HNMa.out (by omega) name rfl rfl (by omega) ?_; intro wc hNc hgc)
                                                  have HIc := Lib.hid (HIa.out.grown hgc hMsz)
                                                  have HKc : Hid (Blk wc G7 88 #[.int .i64 line, .string (bs base), .string (bs name), .slice A ms.length k]) := Lib.hid ((hgc.block G7 HKa.out.lt (fun q => by injection q with q; omega)).trans HKa.out)
                                                  have HK2 : Hid (NM wc M (N + 1) (Ck.keptN (names ++ [name]))) := Lib.hid (by rw [Ck.keptN_snoc, if_neg HNE.out]; exact hNc)
                                                  clear hNc hgc
                                                  go_meet
                                                  exact ⟨rfl, ⟨N + 1, by omega, HK2⟩, HS0, HIc, HKc⟩
                                        case rest =>
                                          obtain ⟨rfl, ⟨N2, hN2, HNb⟩, HS0, HIb, HKb⟩ := hcut
                                          rename World => wb
                                          clear HIa HKa HNMa d0 d2 hne
                                          have d3 : wb.cell? ⟨G7, 3, none⟩ = some (.slice A ms.length k) := HKb.out.cell 3
                                          have HX4 : Hid (Ck.restS e (ms.map SM.s) (names ++ [name]) (GS.drop (i + 1)) = x) := Lib.hid ((Ck.stagesL_ok HS0.out).symm.trans HX3.out)
                                          go_wp2_with fail
                                          clear d3 HKb HX3 HS0
                                          go_loopw [12, 145] (fun _ t145 wu => ∃ (j : Nat), j ≤ ms.length ∧ t145 = .int .i64 (j : Int) ∧ Hid (NM wu M N2 (Ck.keptN (names ++ [name]))) ∧ Hid (Ck.restS e ((ms.map SM.s).drop j) (names ++ [name]) (GS.drop (i + 1)) = x) ∧ Hid (FIn w #[.int .u8 (e.toNat : Int), .slice Aa na ka, .slice (some ⟨g, o, none⟩) ng kg] wu)) (fun _ t145 _ => ms.length - (intOf t145).toNat)
                                          case atStart => exact ⟨0, by omega, rfl, HNb, HX4, HIb⟩
                                          case round =>
                                            as_aux_lemma =>
                                            rename World => wu
                                            obtain ⟨j, hj, rfl, HNu, HXu, HIu⟩ := hrel
                                            clear HNb HX4 HIb
                                            rcases Nat.lt_or_ge j ms.length with hjn | hjn
                                            · have i2 : decide ((j : Int) < (ms.length : Int)) = true := by rw [decide_eq_true_eq]; omega
                                              have i3 : (j : Int) < (ms.length : Int) := by omega
                                              have j2 : (0 : Int) ≤ (j : Int) := by omega
                                              have hA0 := HST.out.new HIu.out.below
                                              have hmok := HST.out.2 _ (List.getElem_mem hjn)
                                              have hsmall := HMS.out _ (List.mem_map.2 ⟨_, List.getElem_mem hjn, rfl⟩)
                                              obtain ⟨g2, o2, c', s, Ap, Aw, Ad, Ae, kp, kw, kd, ke, hv, hse, c0, c1, c2, c3, c4, c5, c6, c7, c8, c9⟩ := sm_full hA0 hjn
                                              injection hv with hA _ hcc
                                              subst hA hcc
                                              rw [hse] at hmok hsmall
                                              have hX := HXu.out
                                              rw [drop_map hjn, hse] at hX
                                              have HX2 := Lib.hid hX
                                              have HMO := Lib.hid hmok
                                              have HSS := Lib.hid hsmall
                                              clear hA0 hse hmok hsmall hX HXu
                                              go_upto_region 39 with (refine wpList_store_st rfl _ _ _ rfl stepT wu.heap.size #[.int .i64 s.op, .int .i64 s.line, .string (bs s.from_), .string (bs s.mode), .bool s.force, .slice Ap s.pairs.length kp, .bool s.bare, .slice Aw s.words.length kw, .slice Ad s.docs.length kd, .slice Ae s.exec.length ke] #[.int .i64 0, .int .i64 0, .string ⟨#[]⟩, .string ⟨#[]⟩, .bool false, .slice none 0 0, .bool false, .slice none 0 0, .slice none 0 0, .slice none 0 0] rfl rfl (Blk.new _ _ _) rfl rfl rfl ?_; intro w7 hK7 hg7 hz7)
                                              have HIA := Lib.hid (HIu.out.alloc (.cells #[.int .i64 0, .int .i64 0, .string ⟨#[]⟩, .string ⟨#[]⟩, .bool false, .slice none 0 0, .bool false, .slice none 0 0, .slice none 0 0, .slice none 0 0] 100))
                                              have HI7 := Lib.hid (HIA.out.grown hg7 HIu.out.size)
                                              have HK7 := Lib.hid hK7
                                              have HNA := Lib.hid (HNu.out.kept (World.grownBy_alloc wu (.cells #[.int .i64 0, .int .i64 0, .string ⟨#[]⟩, .string ⟨#[]⟩, .bool false, .slice none 0 0, .bool false, .slice none 0 0, .slice none 0 0, .slice none 0 0] 100) none) (by simp))
                                              have HN7 := Lib.hid (HNA.out.kept hg7 (fun q => by injection q with q; have := HNu.out.lt; omega))
                                              clear hK7 hg7 hz7 HIA HNA HNu c0 c1 c2 c3 c4 c5 c6 c7 c8 c9
                                              obtain ⟨G7, hG7⟩ : ∃ y, wu.heap.size = y := ⟨_, rfl⟩
                                              rw [hG7] at HK7 ⊢
                                              clear hG7
                                              obtain ⟨n, HN⟩ : ∃ n, Hid (Ck.stepL s e = n) := ⟨_, Lib.hid rfl⟩
                                              refine' wp_region_rely_tail 6 (fun wx => Below w7.heap.size w7 wx) (VL [.pointer (some ⟨G7, 1, none⟩), .int .i64 s.line, .agg #[.int .i64 s.op, .int .i64 s.line, .string (bs s.from_), .string (bs s.mode), .bool s.force, .slice Ap s.pairs.length kp, .bool s.bare, .slice Aw s.words.length kw, .slice Ad s.docs.length kd, .slice Ae s.exec.length ke], .pointer (some ⟨w.heap.size, 0, none⟩), .int .u8 (e.toNat : Int), errV n]) ?F3 ?hF3 (by kernel_rfl) (by kernel_rfl) (by kernel_rfl) (by decide) (by kernel_rfl) (by kernel_rfl) (by kernel_rfl) (Below.refl _ _).drew ?hsteps3 ?hT3
                                              case hF3 =>
                                                intro xs
                                                refine (frameX_eq _ _ _).trans ?_
                                                simp only [frameL, Act.put, List.setIfInBounds_toArray, List.set_cons_zero, List.set_cons_succ, Nat.reduceAdd, Nat.zero_add]
                                                exact rfl
                                              case hsteps3 =>
                                                as_aux_lemma =>
                                                simp only [List.take_succ_cons, List.take_zero]
                                                refine Steps.cons (n := []) (k := 1) rfl (by kernel_rfl) (fun xs wx hS hV K hK => ?_) ?_
                                                · clear hV
                                                  go_simp
                                                  exact hK.out _ _ hS rfl (fun _ _ h => h)
                                                refine Steps.cons (n := [0]) (k := 2) rfl (by kernel_rfl) (fun xs wx hS hV K hK => ?_) ?_
                                                · obtain ⟨d0, -⟩ := hV
                                                  replace d0 : xs 0 = .pointer (some ⟨G7, 1, none⟩) := (Option.some.inj d0).symm
                                                  rw [d0] at hK ⊢
                                                  have c : wx.cell? ⟨G7, 1, none⟩ = some (.int .i64 s.line) := (HK7.out.below hS HK7.out.lt).cell 1
                                                  go_simp
                                                  exact hK.out _ _ hS rfl (fun _ _ h => h)
                                                refine Steps.cons (n := []) (k := 3) rfl (by kernel_rfl) (fun xs wx hS hV K hK => ?_) ?_
                                                · clear hV
                                                  have c0 : wx.cell? ⟨G7, 0, none⟩ = some (.int .i64 s.op) := (HK7.out.below hS HK7.out.lt).cell 0
                                                  have c1 : wx.cell? ⟨G7, 1, none⟩ = some (.int .i64 s.line) := (HK7.out.below hS HK7.out.lt).cell 1
                                                  have c2 : wx.cell? ⟨G7, 2, none⟩ = some (.string (bs s.from_)) := (HK7.out.below hS HK7.out.lt).cell 2
                                                  have c3 : wx.cell? ⟨G7, 3, none⟩ = some (.string (bs s.mode)) := (HK7.out.below hS HK7.out.lt).cell 3
                                                  have c4 : wx.cell? ⟨G7, 4, none⟩ = some (.bool s.force) := (HK7.out.below hS HK7.out.lt).cell 4
                                                  have c5 : wx.cell? ⟨G7, 5, none⟩ = some (.slice Ap s.pairs.length kp) := (HK7.out.below hS HK7.out.lt).cell 5
                                                  have c6 : wx.cell? ⟨G7, 6, none⟩ = some (.bool s.bare) := (HK7.out.below hS HK7.out.lt).cell 6
                                                  have c7 : wx.cell? ⟨G7, 7, none⟩ = some (.slice Aw s.words.length kw) := (HK7.out.below hS HK7.out.lt).cell 7
                                                  have c8 : wx.cell? ⟨G7, 8, none⟩ = some (.slice Ad s.docs.length kd) := (HK7.out.below hS HK7.out.lt).cell 8
                                                  have c9 : wx.cell? ⟨G7, 9, none⟩ = some (.slice Ae s.exec.length ke) := (HK7.out.below hS HK7.out.lt).cell 9
                                                  go_simp
                                                  exact hK.out _ _ hS rfl (fun _ _ h => h)
                                                refine Steps.cons (n := []) (k := 4) rfl (by kernel_rfl) (fun xs wx hS hV K hK => ?_) ?_
                                                · clear hV
                                                  go_simp
                                                  exact hK.out _ _ hS rfl (fun _ _ h => h)
                                                refine Steps.cons (n := [3]) (k := 5) rfl (by kernel_rfl) (fun xs wx hS hV K hK => ?_) ?_
                                                · obtain ⟨d3, -⟩ := hV
                                                  replace d3 : xs 3 = .pointer (some ⟨w.heap.size, 0, none⟩) := (Option.some.inj d3).symm
                                                  rw [d3] at hK ⊢
                                                  have c : wx.cell? ⟨w.heap.size, 0, none⟩ = some (.int .u8 (e.toNat : Int)) := (HI7.out.new hS).file.cell 0
                                                  go_simp
                                                  exact hK.out _ _ hS rfl (fun _ _ h => h)
                                                refine Steps.cons (n := [2, 4]) (k := 6) rfl (by kernel_rfl) (fun xs wx hS hV K hK => ?_) ?_
                                                · obtain ⟨d2, d4, -⟩ := hV
                                                  replace d2 : xs 2 = .agg #[.int .i64 s.op, .int .i64 s.line, .string (bs s.from_), .string (bs s.mode), .bool s.force, .slice Ap s.pairs.length kp, .bool s.bare, .slice Aw s.words.length kw, .slice Ad s.docs.length kd, .slice Ae s.exec.length ke] := (Option.some.inj d2).symm
                                                  replace d4 : xs 4 = .int .u8 (e.toNat : Int) := (Option.some.inj d4).symm
                                                  rw [d2, d4] at hK ⊢
                                                  go_simp
                                                  have hbx := (HI7.out.new hS).below
                                                  refine (step_any ⟨s, .slice Ap s.pairs.length kp, .slice Aw s.words.length kw, .slice Ad s.docs.length kd, .slice Ae s.exec.length ke⟩ e _ (HMO.out.new hbx) (HT0.out.new hbx) (HM0.out.grow hbx) HSS.out.1 HSS.out.2 HN).mono ?_
                                                  rintro r w2 ⟨rfl, p2⟩
                                                  exact hK.out _ _ (hS.trans (p2.mono hS.size)) rfl (fun _ _ h => h)
                                                exact Steps.nil
                                              case hT3 =>
                                                intro xs w8 hS hV
                                                have d1 : xs 1 = .int .i64 s.line := (Option.some.inj (hV 1 (by decide))).symm
                                                have d5 : xs 5 = errV n := (Option.some.inj (hV 5 (by decide))).symm
                                                simp only [List.drop_succ_cons, List.drop_zero]
                                                rw [d1, d5]
                                                have HI8 := Lib.hid (HI7.out.new hS)
                                                have HN8 := Lib.hid (HN7.out.below hS HN7.out.lt)
                                                clear hV d1 d5 hS HI7 HK7 HN7
                                                rcases Nat.eq_zero_or_pos n with z | z
                                                · subst z
                                                  have HX3 := Lib.hid ((Ck.restS_ok HN.out).symm.trans HX2.out)
                                                  go_wp2_with fail
                                                  refine (stop_ok _ _).mono ?_
                                                  rintro r w9 ⟨rfl, p9⟩
                                                  have HI9 := Lib.hid (HI8.out.new p9)
                                                  have HN9 := Lib.hid (HN8.out.below p9 HN8.out.lt)
                                                  clear p9
                                                  go_wp2_with fail
                                                  go_roundw
                                                  case rel => first | exact ⟨j + 1, by omega, by go_num, HN9, HX3, HI9⟩ | exact ⟨_, _, ⟨j + 1, by omega, by go_num, HN9, HX3, HI9⟩, rfl, rfl⟩
                                                  case measure => simp [intOf]; omega
                                                · have HX3 := Lib.hid ((Ck.restS_bad (by rw [HN.out]; omega)).symm.trans HX2.out)
                                                  rw [HN.out] at HX3
                                                  go_wp2_with fail
                                                  refine (stop_bad _ n _ (HV0.out.below HI8.out.below HV0.out.lt) (by omega)).mono ?_
                                                  rintro r w9 ⟨rfl, p9⟩
                                                  have HI9 := Lib.hid (HI8.out.new p9)
                                                  clear p9
                                                  go_wp2_with fail
                                                  exact HI9.out.bad HV0.out rfl (congrArg filV (HX3.out))
                                            · have i2 : decide ((j : Int) < (ms.length : Int)) = false := by rw [decide_eq_false_iff_not]; omega
                                              have e2n : decide (j < ms.length) = false := by rw [decide_eq_false_iff_not]; omega
                                              have HX5 : Hid (Ck.stagesL e ((stages.map GM.name).take (i + 1)) (GS.drop (i + 1)) = x) := Lib.hid (by
                                                have h := HXu.out
                                                rw [List.drop_of_length_le (by rw [List.length_map]; omega)] at h
                                                rw [HNX.out]
                                                exact h)
                                              have HN5 : Hid (NM wu M N2 (Ck.keptN ((stages.map GM.name).take (i + 1)))) := Lib.hid (by rw [HNX.out]; exact HNu.out)
                                              clear HNu HXu
                                              go_wp2_with fail
                                              go_roundw
                                              case rel => first | exact ⟨i + 1, N2, by omega, by go_num, HN5, hN2, HX5, HIu⟩ | exact ⟨_, _, _, _, ⟨i + 1, N2, by omega, by go_num, HN5, hN2, HX5, HIu⟩, rfl, rfl, rfl, rfl⟩
                                              case measure => simp [intOf]; omega
                                      · have HX4 := Lib.hid ((Ck.stagesL_bad (Ck.sg_word HBB.out HBN.out (by rw [show Ck.wordL e base = n from HN.out]; omega)) (by rw [show Ck.wordL e base = n from HN.out]; omega)).symm.trans HX3.out)
                                        rw [show Ck.wordL e base = n from HN.out] at HX4
                                        go_wp2_with fail
                                        refine (stop_bad _ n _ (HV0.out.below HI9.out.below HV0.out.lt) (by omega)).mono ?_
                                        rintro r wa ⟨rfl, pa⟩
                                        have HIa := Lib.hid (HI9.out.new pa)
                                        clear pa
                                        go_wp2_with fail
                                        exact HIa.out.bad HV0.out rfl (congrArg filV (HX4.out))
                    · have i0 : decide ((i : Int) < (ng : Int)) = false := by rw [decide_eq_false_iff_not]; omega
                      have e0n : decide (i < ng) = false := by rw [decide_eq_false_iff_not]; omega
                      have HX1 : Hid (none = x) := Lib.hid (by
                        have h := HX.out
                        rw [List.drop_of_length_le (by rw [HGS.out, List.length_map]; have := HNG.out; omega)] at h
                        exact h)
                      have e0 : wv.cell? ⟨w.heap.size + 1, 0, none⟩ = some .nilIface := HI.out.err.cell 0
                      have f0 := HI.out.err.frozen 0
                      go_wp2_with fail
                      exact end_idle (v := .nilIface) rfl (by simp [go_sem, e0]) ⟨congrArg (fun y => Ending.returned (filV y)) HX1.out, HI.out.below.setCell (p := ⟨w.heap.size + 1, 0, none⟩) (Nat.le_succ _) _⟩
end Go.Proofs.YtnlkmljdcmfogaaGreatDoor
