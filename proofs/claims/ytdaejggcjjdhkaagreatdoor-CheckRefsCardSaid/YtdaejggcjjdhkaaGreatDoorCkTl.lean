/- CheckTags: the law's walk. -/
import Derived.Test.YtdaejggcjjdhkaaGreatDoorCkWk
import Derived.Test.YtdaejggcjjdhkaaGreatDoorMkB
import Derived.Deep.RegionHeld3
import Derived.Deep.DeepCutAuto
namespace Go.Proofs.YtdaejggcjjdhkaaGreatDoor
open Go Go.RowKit Go.Extern.Stop Go.Stop Go.Extern
theorem ErrVar.drw {w : World} (h : ErrVar w) : ErrVar w.drew := h.below ((Below.refl _ _).drew) h.lt
theorem ref_yes (s : List UInt8) (hs : s.length ≤ 1100000) (w : World) (hm : Maxl w) (h : Ck.refR s = true) : Calls Tryz.prog 20 #[.string (bs s)] w fun e w' => e = .returned .nilIface ∧ Below w.heap.size w w' := ckRef_any s hs w hm (b := true) (Lib.hid h)
theorem ref_not (s : List UInt8) (hs : s.length ≤ 1100000) (w : World) (hm : Maxl w) (h : Ck.refR s = false) : Calls Tryz.prog 20 #[.string (bs s)] w fun e w' => e = .returned (.iface 70 (.int .i64 31)) ∧ Below w.heap.size w w' := ckRef_any s hs w hm (b := false) (Lib.hid h)
set_option maxRecDepth 100000 in
set_option maxHeartbeats 1000000 in
theorem lawTags (p q : ByteArray) (w : World) (hT : Tabs w) (hg : ErrVar w) (hm : Maxl w) : Calls Tryz.prog 8 #[.string p, .string q] w fun e w' => e = .returned (.bool true) ∧ Below w.heap.size w w' := by
  have HT := Lib.hid hT
  have HV := Lib.hid hg
  have HM := Lib.hid hm
  clear hT hg hm
  obtain ⟨s, rfl⟩ : ∃ s, p = bs s := ⟨bl p, (bs_bl p).symm⟩
  obtain ⟨t, rfl⟩ : ∃ t, q = bs t := ⟨bl q, (bs_bl q).symm⟩
  have zs := bs_size s
  have zt := bs_size t
  have ZS := Lib.hid zs
  have ZT := Lib.hid zt
  rcases Nat.lt_or_ge 65536 (bs s).size with ls | ls
  · have k1 : decide ((65536 : Int) < ((bs s).size : Int)) = true := by rw [decide_eq_true_eq]; omega
    clear zs zt
    go_enter Tryz.func8, Tryz.ntmps8
    go_wp2_with fail
    go_ret
    exact ⟨rfl, Below.refl _ _⟩
  · have k1 : decide ((65536 : Int) < ((bs s).size : Int)) = false := by rw [decide_eq_false_iff_not]; omega
    have k1' : ¬ (65536 : Int) < ((bs s).size : Int) := by omega
    rcases Nat.lt_or_ge 65536 (bs t).size with lt | lt
    · have k2 : decide ((65536 : Int) < ((bs t).size : Int)) = true := by rw [decide_eq_true_eq]; omega
      clear zs zt
      go_enter Tryz.func8, Tryz.ntmps8
      go_wp2_with fail
      go_ret
      exact ⟨rfl, Below.refl _ _⟩
    · have k2 : decide ((65536 : Int) < ((bs t).size : Int)) = false := by rw [decide_eq_false_iff_not]; omega
      have k2' : ¬ (65536 : Int) < ((bs t).size : Int) := by omega
      have ls' : s.length ≤ 65536 := by omega
      have lt' : t.length ≤ 65536 := by omega
      have lat : Ck.latest.length = 6 := rfl
      have zl : (⟨#[58, 108, 97, 116, 101, 115, 116]⟩ : ByteArray).size = 7 := rfl
      obtain ⟨V1, hV1⟩ : ∃ V, bs s ++ ⟨#[58, 108, 97, 116, 101, 115, 116]⟩ = V := ⟨_, rfl⟩
      have ad1 : ∀ w, (Op.stringOp .add (bs s) ⟨#[58, 108, 97, 116, 101, 115, 116]⟩).run Tryz.prog w = .ok (.string V1) w := fun w => by rw [← hV1]; exact run_string_add_sum w _ _ (by rw [zl]; omega)
      have HV1 : Hid (V1 = bs (s ++ 58 :: Ck.latest)) := by show _ = _; rw [← hV1, ← bs_append]; rfl
      obtain ⟨V2, hV2⟩ : ∃ V, (⟨#[97, 58]⟩ : ByteArray) ++ bs t = V := ⟨_, rfl⟩
      have z2 : (⟨#[97, 58]⟩ : ByteArray).size = 2 := rfl
      have ad2 : ∀ w, (Op.stringOp .add ⟨#[97, 58]⟩ (bs t)).run Tryz.prog w = .ok (.string V2) w := fun w => by rw [← hV2]; exact run_string_add_sum w _ _ (by rw [z2]; omega)
      have HV2 : Hid (V2 = bs ([97] ++ 58 :: t)) := by show _ = _; rw [← hV2]; rw [show (⟨#[97, 58]⟩ : ByteArray) = bs [97, 58] from rfl, ← bs_append]; rfl
      obtain ⟨V3, hV3⟩ : ∃ V, bs s ++ ⟨#[58]⟩ = V := ⟨_, rfl⟩
      have z3 : (⟨#[58]⟩ : ByteArray).size = 1 := rfl
      have ad3 : ∀ w, (Op.stringOp .add (bs s) ⟨#[58]⟩).run Tryz.prog w = .ok (.string V3) w := fun w => by rw [← hV3]; exact run_string_add_sum w _ _ (by rw [z3]; omega)
      have z4 : V3.size ≤ 65537 := by rw [← hV3, ByteArray.size_append, z3]; omega
      obtain ⟨V4, hV4⟩ : ∃ V, V3 ++ bs t = V := ⟨_, rfl⟩
      have ad4 : ∀ w, (Op.stringOp .add V3 (bs t)).run Tryz.prog w = .ok (.string V4) w := fun w => by rw [← hV4]; exact run_string_add_sum w _ _ (by omega)
      have HV4 : Hid (V4 = bs (s ++ 58 :: t)) := by show _ = _; rw [← hV4, ← hV3]; rw [show (⟨#[58]⟩ : ByteArray) = bs [58] from rfl, bs_append, bs_append, List.append_assoc]; rfl
      obtain ⟨b0, HB0⟩ : ∃ b, Hid (Ck.refR s = b) := ⟨_, Lib.hid rfl⟩
      have l1 : (s ++ 58 :: Ck.latest).length ≤ 1100000 := by rw [List.length_append, List.length_cons, lat]; omega
      have l2 : ([97] ++ 58 :: t).length ≤ 1100000 := by rw [List.length_append, List.length_cons, List.length_cons, List.length_nil]; omega
      have l4 : (s ++ 58 :: t).length ≤ 1100000 := by rw [List.length_append, List.length_cons]; omega
      have L1 := Lib.hid l1
      have L2 := Lib.hid l2
      have L4 := Lib.hid l4
      clear zs zt zl z2 z3 z4 lat hV1 hV2 hV3 hV4 l1 l2 l4
      go_enter Tryz.func8, Tryz.ntmps8
      go_wp2_with fail
      refine (ckRef_any s (by omega) w HM.out HB0).mono ?_
      rintro r w1 ⟨rfl, p1⟩
      have P1 := Lib.hid p1
      clear p1
      go_wp2_with fail
      go_loop [6] (fun t6 => ∃ i : Nat, i ≤ (bs s).size ∧ t6 = .int .i64 (i : Int) ∧ Hid (∀ c ∈ s.take i, c ≠ 58)) (fun t6 => (bs s).size - (intOf t6).toNat)
      case atStart => exact ⟨0, by omega, rfl, Lib.hid (fun c h => by simp at h)⟩
      case round =>
        obtain ⟨i, hi, rfl, HC⟩ := hrel
        have j0 : (0 : Int) ≤ (i : Int) := by omega
        rcases Nat.lt_or_ge i (bs s).size with hin | hin
        · have i0 : decide ((i : Int) < ((bs s).size : Int)) = true := by rw [decide_eq_true_eq]; omega
          have i1 : (i : Int) < ((bs s).size : Int) := by omega
          have hil : i < s.length := by rw [← ZS.out]; exact hin
          obtain ⟨c, hc⟩ : ∃ c, (bs s)[i]'hin = c := ⟨_, rfl⟩
          have hsc : s[i] = c := hc
          have HSC := Lib.hid hsc
          clear hsc
          rcases Decidable.em (c = 58) with h58 | h58
          · have e58 : ((c.toNat : Int) == 58) = true := by rw [h58]; rfl
            have HN : Hid ((58 : UInt8) ∈ s) := Lib.hid (by rw [← h58, ← HSC.out]; exact List.getElem_mem hil)
            clear h58
            go_wp2_with fail
            have hc1 := ref_not (s ++ 58 :: Ck.latest) L1.out w1 (HM.out.grow P1.out) (Ck.ref_two HN.out)
            rw [← HV1.out] at hc1
            refine hc1.mono ?_
            rintro r w2 ⟨rfl, p2⟩
            have P2 := Lib.hid (P1.out.trans (p2.mono P1.out.size))
            clear p2 hc1
            go_wp2_with fail
            refine (plain_31 w2 (HV.out.below P2.out HV.out.lt)).mono ?_
            rintro r w3 ⟨rfl, p3⟩
            have P3 := Lib.hid (P2.out.trans (p3.mono P2.out.size))
            clear p3
            go_wp2_with fail
            refine (works_ck w3 (HT.out.new P3.out) (HV.out.below P3.out HV.out.lt) (HM.out.grow P3.out)).mono ?_
            rintro r w4 ⟨rfl, p4⟩
            go_wp2_with fail
            go_ret
            exact ⟨rfl, P3.out.trans (p4.mono P3.out.size)⟩
          · have e58 : ((c.toNat : Int) == 58) = false := by
              rw [beq_eq_false_iff_ne]
              intro q
              exact h58 (UInt8.toNat_inj.1 (by have : c.toNat = 58 := by omega
                                               exact this))
            have HC2 : Hid (∀ c ∈ s.take (i + 1), c ≠ 58) := Lib.hid fun d hd => by
              rw [List.take_succ_eq_append_getElem hil] at hd
              rcases List.mem_append.1 hd with hd | hd
              · exact HC.out d hd
              · rw [List.mem_singleton.1 hd, HSC.out]; exact h58
            clear h58
            go_wp2_with fail
            go_round
            case rel => exact ⟨i + 1, by omega, by go_num, HC2⟩
            case measure => simp [intOf]; omega
        · have i0 : decide ((i : Int) < ((bs s).size : Int)) = false := by rw [decide_eq_false_iff_not]; omega
          have HCs : Hid (∀ c ∈ s, c ≠ 58) := Lib.hid (by
            have h := HC.out
            rw [List.take_of_length_le (by rw [← ZS.out]; exact hin)] at h
            exact h)
          have HB1 : Hid (Ck.refR (s ++ 58 :: Ck.latest) = b0) := Lib.hid ((Ck.ref_latest HCs.out).trans HB0.out)
          clear HC
          go_wp2_with fail
          have hc1 := ckRef_any (s ++ 58 :: Ck.latest) L1.out w1 (HM.out.grow P1.out) HB1
          rw [← HV1.out] at hc1
          refine hc1.mono ?_
          rintro r w2 ⟨rfl, p2⟩
          have P2 := Lib.hid (P1.out.trans (p2.mono P1.out.size))
          clear p2 hc1
          go_wp2_with fail
          obtain ⟨b2, HB2⟩ : ∃ b, Hid (Ck.refR ([97] ++ 58 :: t) = b) := ⟨_, Lib.hid rfl⟩
          have hc2 := ckRef_any ([97] ++ 58 :: t) L2.out w2 (HM.out.grow P2.out) HB2
          rw [← HV2.out] at hc2
          refine hc2.mono ?_
          rintro r w3 ⟨rfl, p3⟩
          have P3 := Lib.hid (P2.out.trans (p3.mono P2.out.size))
          clear p3 hc2
          have HE3 := Lib.hid (HV.out.below P3.out HV.out.lt)
          obtain ⟨v0, hv0⟩ : ∃ v, refV b0 = v := ⟨_, rfl⟩
          obtain ⟨v2, hv2⟩ : ∃ v, refV b2 = v := ⟨_, rfl⟩
          rw [hv0, hv2]
          go_upto_region 11 with fail
          go_cut [55] from 42 to 54 (fun s55 wx => s55 = .bool false ∧ Hid (Below w.heap.size w wx))
          case first =>
            cases b0 with
            | true =>
              obtain rfl : .nilIface = v0 := hv0
              go_quiet (fail)
              go_wp2_with fail
              go_meet
              exact ⟨rfl, Lib.hid (by first | exact P3.out | exact P3.out.drew | exact below_drewN P3.out _)⟩
            | false =>
              obtain rfl : .iface 70 (.int .i64 31) = v0 := hv0
              go_region_held3 (fun _ => True) (trivial) ((go_at_call 19; refine (plain_31 _ (by first | exact HE3.out | exact HE3.out.drw)).mono ?_; rintro r w4 ⟨rfl, p4⟩; have P4 := Lib.hid p4; clear p4))
              go_wp2_with fail
              go_meet
              exact ⟨rfl, Lib.hid (P3.out.drew.trans (P4.out.mono P3.out.drew.size))⟩
          case rest =>
            obtain ⟨rfl, P4⟩ := hcut
            rename World => w4
            have HE4 := Lib.hid (HV.out.below P4.out HV.out.lt)
            clear P1 P2 P3 HE3
            go_upto_region 13 with fail
            go_cut [74] from 56 to 73 (fun s74 wx => s74 = .bool false ∧ Hid (Below w.heap.size w wx))
            case first =>
              cases b0 with
              | false =>
                obtain rfl : .iface 70 (.int .i64 31) = v0 := hv0
                go_wp2_with fail
                go_meet
                exact ⟨rfl, P4⟩
              | true =>
                obtain rfl : .nilIface = v0 := hv0
                cases b2 with
                | false =>
                  obtain rfl : .iface 70 (.int .i64 31) = v2 := hv2
                  go_wp2_with fail
                  go_meet
                  exact ⟨rfl, P4⟩
                | true =>
                  obtain rfl : .nilIface = v2 := hv2
                  rcases Nat.lt_or_ge 6 (bs t).size with l6 | l6
                  · have k6 : decide (((bs t).size : Int) ≤ 6) = false := by rw [decide_eq_false_iff_not]; omega
                    have k6' : ¬ ((bs t).size : Int) ≤ 6 := by omega
                    go_wp2_with fail
                    go_meet
                    exact ⟨rfl, P4⟩
                  · have k6 : decide (((bs t).size : Int) ≤ 6) = true := by rw [decide_eq_true_eq]; omega
                    have HR4 : Hid (Ck.refR (s ++ 58 :: t) = true) := Lib.hid (Ck.ref_tag HCs.out HB0.out HB2.out (by rw [← ZT.out]; exact l6))
                    go_wp2_with fail
                    have hc4 := ref_yes (s ++ 58 :: t) L4.out w4 (HM.out.grow P4.out) HR4.out
                    rw [← HV4.out] at hc4
                    refine hc4.mono ?_
                    rintro r w5 ⟨rfl, p5⟩
                    have P5 := Lib.hid (P4.out.trans (p5.mono P4.out.size))
                    clear p5 hc4
                    go_wp2_with fail
                    go_meet
                    exact ⟨rfl, P5⟩
            case rest =>
              obtain ⟨rfl, P5⟩ := hcut
              rename World => w5
              clear P4 HE4
              rcases Nat.lt_or_ge 96 (bs s).size with l9 | l9
              · have k9 : decide (((bs s).size : Int) ≤ 96) = false := by rw [decide_eq_false_iff_not]; omega
                have k9' : ¬ ((bs s).size : Int) ≤ 96 := by omega
                cases b0 with
                | true => exact absurd (Ck.ref_len HB0.out) (by rw [← ZS.out]; omega)
                | false =>
                  obtain rfl : .iface 70 (.int .i64 31) = v0 := hv0
                  go_wp2_with fail
                  refine (works_ck w5 (HT.out.new P5.out) (HV.out.below P5.out HV.out.lt) (HM.out.grow P5.out)).mono ?_
                  rintro r w6 ⟨rfl, p6⟩
                  go_wp2_with fail
                  go_ret
                  exact ⟨rfl, P5.out.trans (p6.mono P5.out.size)⟩
              · have k9 : decide (((bs s).size : Int) ≤ 96) = true := by rw [decide_eq_true_eq]; omega
                go_wp2_with fail
                refine (works_ck w5 (HT.out.new P5.out) (HV.out.below P5.out HV.out.lt) (HM.out.grow P5.out)).mono ?_
                rintro r w6 ⟨rfl, p6⟩
                go_wp2_with fail
                go_ret
                exact ⟨rfl, P5.out.trans (p6.mono P5.out.size)⟩
end Go.Proofs.YtdaejggcjjdhkaaGreatDoor
