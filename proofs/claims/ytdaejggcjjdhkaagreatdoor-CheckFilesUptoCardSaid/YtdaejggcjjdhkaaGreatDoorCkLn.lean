/- stratakit: stages, files that were lent are kept: KeptStage, KeptStages, KeptFile, walked. (Printed by wip/genlk.py.) -/
import Derived.Test.YtdaejggcjjdhkaaGreatDoorCkLk
import Derived.Test.YtdaejggcjjdhkaaGreatDoorCkLg
namespace Go.Proofs.YtdaejggcjjdhkaaGreatDoor
open Go Go.RowKit
set_option maxRecDepth 100000 in
set_option maxHeartbeats 2000000 in
theorem keptStage_any (line : Int) (base name : List UInt8) (ms ms1 : List SM) (A A1 : Option Addr) (k k1 : Nat) (w : World) {X : Nat → Prop} (hx : LSs w X (.slice A1 ms1.length k1) ms1) (hm : StsA w (.slice A ms.length k) ms) (he : ms1.map SM.s = ms.map SM.s) (hsm : ∀ m ∈ ms, m.s.words.length + m.s.exec.length + m.s.pairs.length + m.s.docs.length ≤ 1050000) (hn : ms.length ≤ 1050000) : Calls Tryz.prog 104 #[.agg #[.int .i64 line, .string (bs base), .string (bs name), .slice A1 ms1.length k1], .agg #[.int .i64 line, .string (bs base), .string (bs name), .slice A ms.length k]] w fun r w' => r = .returned (.bool true) ∧ Below w.heap.size w w' := by
  have HX := Lib.hid hx
  have HM := Lib.hid hm
  have HSM := Lib.hid hsm
  have HE := Lib.hid he
  clear hx hm he hsm
  obtain ⟨w1, hw1⟩ : ∃ y, (w.alloc (.cells #[.int .i64 line, .string (bs base), .string (bs name), .slice A1 ms1.length k1] 53)).alloc (.cells #[.int .i64 line, .string (bs base), .string (bs name), .slice A ms.length k] 53) = y := ⟨_, rfl⟩
  have HB : Hid (Below w.heap.size w w1) := Lib.hid (by rw [← hw1]; exact ((Below.refl _ _).alloc (Nat.le_refl _) _).alloc (by rw [World.size_alloc]; omega) _)
  have KX : Hid (Blk w1 w.heap.size 53 #[.int .i64 line, .string (bs base), .string (bs name), .slice A1 ms1.length k1]) := Lib.hid (by rw [← hw1]; exact (Blk.new w _ _).alloc _)
  have KM : Hid (Blk w1 (w.heap.size + 1) 53 #[.int .i64 line, .string (bs base), .string (bs name), .slice A ms.length k]) := Lib.hid (by have q := Blk.new (w.alloc (.cells #[.int .i64 line, .string (bs base), .string (bs name), .slice A1 ms1.length k1] 53)) 53 #[.int .i64 line, .string (bs base), .string (bs name), .slice A ms.length k]; rw [World.size_alloc] at q; rw [← hw1]; exact q)
  have HW1 := Lib.hid hw1
  clear hw1
  have e1 : ((bs base).toList == (bs base).toList) = true := beq_self_eq_true _
  have e2 : ((bs name).toList == (bs name).toList) = true := beq_self_eq_true _
  have e0 : (line == line) = true := beq_self_eq_true _
  go_enter Tryz.func104, Tryz.ntmps104
  go_upto_region 1 with fail
  rw [HW1.out]
  clear HW1
  have x0 : w1.cell? ⟨w.heap.size, 0, none⟩ = some (.int .i64 line) := KX.out.cell 0
  have y0 : w1.cell? ⟨w.heap.size + 1, 0, none⟩ = some (.int .i64 line) := KM.out.cell 0
  have x1 : w1.cell? ⟨w.heap.size, 1, none⟩ = some (.string (bs base)) := KX.out.cell 1
  have y1 : w1.cell? ⟨w.heap.size + 1, 1, none⟩ = some (.string (bs base)) := KM.out.cell 1
  have x2 : w1.cell? ⟨w.heap.size, 2, none⟩ = some (.string (bs name)) := KX.out.cell 2
  have y2 : w1.cell? ⟨w.heap.size + 1, 2, none⟩ = some (.string (bs name)) := KM.out.cell 2
  have x3 : w1.cell? ⟨w.heap.size, 3, none⟩ = some (.slice A1 ms1.length k1) := KX.out.cell 3
  have y3 : w1.cell? ⟨w.heap.size + 1, 3, none⟩ = some (.slice A ms.length k) := KM.out.cell 3
  have HC := Lib.hid (keptSteps_any ms ms1 _ _ w1 (HX.out.new HB.out) (HM.out.new HB.out) HE.out HSM.out hn)
  go_wp2_with fail
  refine HC.out.mono ?_
  rintro a w2 ⟨rfl, hb⟩
  have HB2 := Lib.hid (below_of_below HB.out hb HB.out.size)
  clear hb HC x0 y0 x1 y1 x2 y2 x3 y3
  go_wp2_with fail
  go_ret
  exact ⟨rfl, HB2.out⟩
set_option maxRecDepth 100000 in
set_option maxHeartbeats 4000000 in
theorem keptStages_any (l l' : List GM) (v v' : Value) (w : World) {X : Nat → Prop} (hx : LGs w X v' l') (hl : GsA w v l) (he : l'.map GM.sg = l.map GM.sg) (hsm : ∀ G ∈ l, G.ms.length ≤ 1050000 ∧ ∀ m ∈ G.ms, m.s.words.length + m.s.exec.length + m.s.pairs.length + m.s.docs.length ≤ 1050000) (hn : l.length ≤ 1050000) : Calls Tryz.prog 48 #[v', v] w fun r w' => r = .returned (.bool true) ∧ Below w.heap.size w w' := by
  have hll : l'.length = l.length := by have := congrArg List.length he; simpa using this
  obtain ⟨A0, k0, rfl⟩ := hl.1.form
  obtain ⟨g, c, rfl, hc, hf⟩ := hx.r.full
  rw [hll] at hc hf
  have HX := Lib.hid hx
  have HF := Lib.hid hf
  rw [hll]
  have HL := Lib.hid hl
  have HE := Lib.hid he
  have HSM := Lib.hid hsm
  have HLN := Lib.hid hll
  have t0 : ((l.length : Int) != (l.length : Int)) = false := by simp
  have i1 : (0 : Int) ≤ (l.length : Int) + 16 := by omega
  have i2 : (l.length : Int) + 16 ≤ (c : Int) := by omega
  clear hx hl he hsm hll hf
  go_enter Tryz.func48, Tryz.ntmps48
  go_wp2_with fail
  go_loopw [7] (fun t7 wr => ∃ i : Nat, i ≤ l.length ∧ t7 = .int .i64 (i : Int) ∧ Hid (Below w.heap.size w wr)) (fun t7 _ => l.length - (intOf t7).toNat)
  case atStart => exact ⟨0, by omega, rfl, Lib.hid (Below.refl _ _)⟩
  case round =>
    rename World => wr
    obtain ⟨i, hi, rfl, HB⟩ := hrel
    have j0 : (0 : Int) ≤ (i : Int) := by omega
    rcases Nat.lt_or_ge i l.length with hin | hin
    · have i0 : decide ((i : Int) < (l.length : Int)) = true := by rw [decide_eq_true_eq]; omega
      have i3 : (i : Int) < (l.length : Int) + 16 := by omega
      have i4 : (i : Int) < (l.length : Int) := by omega
      have hin' : i < l'.length := by have := HLN.out; omega
      have hsmi := HSM.out _ (List.getElem_mem hin)
      have hes : l'[i].sg = l[i].sg := by
        have h := congrArg (fun q => q[i]?) HE.out
        simpa [hin, hin'] using h
      have hlt := (HX.out.m _ (List.getElem_mem hin')).new HB.out
      obtain ⟨g0, o, cc, G, A, kk, hv, hG, hGv, hGs, cells⟩ := gm_full (GsA.new HL.out HB.out) hin
      injection hv with hA _ hcc
      subst hA hcc
      obtain ⟨g1, o1, cc1, G1, A1, kk1, hv1, hG1, hGv1, hGs1, cells1⟩ := gm_full (GsA.new HX.out.ok HB.out) hin'
      injection hv1 with hA1 _ hcc1
      injection hA1 with hA1
      injection hA1 with q1 q2 _
      subst q1 q2 hcc1
      rw [hG] at hsmi hes
      rw [hG1] at hlt hes
      obtain ⟨line, base, name, vs, ms⟩ := G
      obtain ⟨line1, base1, name1, vs1, ms1⟩ := G1
      dsimp only at hGv hGs hGv1 cells cells1 hsmi
      have hes2 : (⟨line1, base1, name1, ms1.map SM.s⟩ : Ck.Sg) = ⟨line, base, name, ms.map SM.s⟩ := hes
      injection hes2 with z1 z2 z3 z4
      subst z1 z2 z3
      subst hGv1
      have HLT : Hid (LSs wr X (.slice A1 ms1.length kk1) ms1) := Lib.hid hlt
      rw [hGv] at hGs
      have HMO := Lib.hid hGs
      have HZ := Lib.hid z4
      simp only [Nat.zero_add] at cells1
      have HCX := Lib.hid cells1
      have HCM := Lib.hid cells
      clear hlt hGs cells cells1 hG hG1 hGv z4 hes hGs1
      go_upto_region 8 with fail
      refine' wp_region_rely_tail 8 (fun wx => Below wr.heap.size wr wx) (VL [.slice (some ⟨g, 0, none⟩) (l.length + 16) c, .int .i64 (i : Int), .pointer (some ⟨g, i * 4, none⟩), .agg #[.int .i64 line1, .string (bs base1), .string (bs name1), .slice A1 ms1.length kk1], .slice (some ⟨g0, o, none⟩) l.length k0, .int .i64 (i : Int), .pointer (some ⟨g0, o + i * 4, none⟩), .agg #[.int .i64 line1, .string (bs base1), .string (bs name1), .slice A ms.length kk]]) ?F2 ?hF2 (by kernel_rfl) (by kernel_rfl) (by kernel_rfl) (by decide) (by kernel_rfl) (by kernel_rfl) (by kernel_rfl) (Below.refl _ _).drew ?hsteps2 ?hT2
      case hF2 =>
        intro xs
        refine (frameX_eq _ _ _).trans ?_
        simp only [frameL, Act.put, List.setIfInBounds_toArray, List.set_cons_zero, List.set_cons_succ, Nat.reduceAdd, Nat.zero_add]
        exact rfl
      case hsteps2 =>
        as_aux_lemma =>
        simp only [List.take_succ_cons, List.take_zero]
        refine Steps.cons (n := []) (k := 1) rfl (by kernel_rfl) (fun xs wx hS hV K hK => ?_) ?_
        · clear hV
          go_simp
          exact hK.out _ _ hS rfl (fun _ _ h => h)
        refine Steps.cons (n := []) (k := 2) rfl (by kernel_rfl) (fun xs wx hS hV K hK => ?_) ?_
        · clear hV
          go_simp
          exact hK.out _ _ hS rfl (fun _ _ h => h)
        refine Steps.cons (n := [0, 1]) (k := 3) rfl (by kernel_rfl) (fun xs wx hS hV K hK => ?_) ?_
        · obtain ⟨d0, d1, -⟩ := hV
          replace d0 : xs 0 = .slice (some ⟨g, 0, none⟩) (l.length + 16) c := (Option.some.inj d0).symm
          replace d1 : xs 1 = .int .i64 (i : Int) := (Option.some.inj d1).symm
          rw [d0, d1] at hK ⊢
          go_simp
          exact hK.out _ _ hS rfl (fun _ _ h => h)
        refine Steps.cons (n := [2]) (k := 4) rfl (by kernel_rfl) (fun xs wx hS hV K hK => ?_) ?_
        · obtain ⟨d2, -⟩ := hV
          replace d2 : xs 2 = .pointer (some ⟨g, i * 4, none⟩) := (Option.some.inj d2).symm
          rw [d2] at hK ⊢
          have q0 : wx.cell? ⟨g, i * 4, none⟩ = some (.int .i64 line1) := (hS.cell (World.block_lt_of_cell? wr _ HCX.out.1)).trans HCX.out.1
          have q1 : wx.cell? ⟨g, i * 4 + 1, none⟩ = some (.string (bs base1)) := (hS.cell (World.block_lt_of_cell? wr _ HCX.out.2.1)).trans HCX.out.2.1
          have q2 : wx.cell? ⟨g, i * 4 + 2, none⟩ = some (.string (bs name1)) := (hS.cell (World.block_lt_of_cell? wr _ HCX.out.2.2.1)).trans HCX.out.2.2.1
          have q3 : wx.cell? ⟨g, i * 4 + 3, none⟩ = some (.slice A1 ms1.length kk1) := (hS.cell (World.block_lt_of_cell? wr _ HCX.out.2.2.2)).trans HCX.out.2.2.2
          go_simp
          exact hK.out _ _ hS rfl (fun _ _ h => h)
        refine Steps.cons (n := []) (k := 5) rfl (by kernel_rfl) (fun xs wx hS hV K hK => ?_) ?_
        · clear hV
          go_simp
          exact hK.out _ _ hS rfl (fun _ _ h => h)
        refine Steps.cons (n := []) (k := 6) rfl (by kernel_rfl) (fun xs wx hS hV K hK => ?_) ?_
        · clear hV
          go_simp
          exact hK.out _ _ hS rfl (fun _ _ h => h)
        refine Steps.cons (n := [4, 5]) (k := 7) rfl (by kernel_rfl) (fun xs wx hS hV K hK => ?_) ?_
        · obtain ⟨d4, d5, -⟩ := hV
          replace d4 : xs 4 = .slice (some ⟨g0, o, none⟩) l.length k0 := (Option.some.inj d4).symm
          replace d5 : xs 5 = .int .i64 (i : Int) := (Option.some.inj d5).symm
          rw [d4, d5] at hK ⊢
          go_simp
          exact hK.out _ _ hS rfl (fun _ _ h => h)
        refine Steps.cons (n := [6]) (k := 8) rfl (by kernel_rfl) (fun xs wx hS hV K hK => ?_) ?_
        · obtain ⟨d6, -⟩ := hV
          replace d6 : xs 6 = .pointer (some ⟨g0, o + i * 4, none⟩) := (Option.some.inj d6).symm
          rw [d6] at hK ⊢
          have q0 : wx.cell? ⟨g0, o + i * 4, none⟩ = some (.int .i64 line1) := (hS.cell (World.block_lt_of_cell? wr _ HCM.out.1)).trans HCM.out.1
          have q1 : wx.cell? ⟨g0, o + i * 4 + 1, none⟩ = some (.string (bs base1)) := (hS.cell (World.block_lt_of_cell? wr _ HCM.out.2.1)).trans HCM.out.2.1
          have q2 : wx.cell? ⟨g0, o + i * 4 + 2, none⟩ = some (.string (bs name1)) := (hS.cell (World.block_lt_of_cell? wr _ HCM.out.2.2.1)).trans HCM.out.2.2.1
          have q3 : wx.cell? ⟨g0, o + i * 4 + 3, none⟩ = some (.slice A ms.length kk) := (hS.cell (World.block_lt_of_cell? wr _ HCM.out.2.2.2)).trans HCM.out.2.2.2
          go_simp
          exact hK.out _ _ hS rfl (fun _ _ h => h)
        exact Steps.nil
      case hT2 =>
        intro xs w8 hS hV
        have d3 : xs 3 = .agg #[.int .i64 line1, .string (bs base1), .string (bs name1), .slice A1 ms1.length kk1] := (Option.some.inj (hV 3 (by decide))).symm
        have d7 : xs 7 = .agg #[.int .i64 line1, .string (bs base1), .string (bs name1), .slice A ms.length kk] := (Option.some.inj (hV 7 (by decide))).symm
        simp only [List.drop_succ_cons, List.drop_zero]
        rw [d3, d7]
        have HC := Lib.hid (keptStage_any line1 base1 name1 ms ms1 A A1 kk kk1 _ (HLT.out.new hS) (HMO.out.new hS) HZ.out hsmi.2 hsmi.1)
        have HB8 := Lib.hid (HB.out.trans (hS.mono HB.out.size))
        clear hV d3 d7 hS HCX HCM HLT HMO HB
        go_wp2_with fail
        refine HC.out.mono ?_
        rintro a w9 ⟨rfl, hb⟩
        have HB9 := Lib.hid (HB8.out.trans (hb.mono HB8.out.size))
        clear HC hb HB8
        go_wp2_with fail
        go_roundw
        case rel => exact ⟨i + 1, by omega, by go_num, HB9⟩
        case measure => simp [intOf]; omega
    · have i0 : decide ((i : Int) < (l.length : Int)) = false := by rw [decide_eq_false_iff_not]; omega
      have e0n : decide (i < l.length) = false := by rw [decide_eq_false_iff_not]; omega
      go_wp2_with fail
      go_loopw [8] (fun t8 ws => ∃ j : Nat, l.length ≤ j ∧ j ≤ l.length + 16 ∧ t8 = .int .i64 (j : Int) ∧ Hid (Below w.heap.size w ws)) (fun t8 _ => l.length + 16 - (intOf t8).toNat)
      case atStart => exact ⟨l.length, by omega, by omega, by first | rfl | trivial, HB⟩
      case round =>
        clear HB i0 e0n
        rename World => ws
        obtain ⟨j, hj0, hj, rfl, HB⟩ := hrel
        have j1 : (0 : Int) ≤ (j : Int) := by omega
        rcases Nat.lt_or_ge j (l.length + 16) with hjn | hjn
        · have k0 : decide ((j : Int) < (l.length : Int) + 16) = true := by rw [decide_eq_true_eq]; omega
          have k0n : decide (j < l.length + 16) = true := by rw [decide_eq_true_eq]; omega
          have k1 : (j : Int) < (l.length : Int) + 16 := by omega
          have hcell : ws.cell? ⟨g, j * 4, none⟩ = some (.int .i64 (-7)) := by
            have hfl := flat_at (f := gmL) (k := 4) (fun _ => rfl) (l' ++ marksG 16) j 0 (by rw [List.length_append]; simp only [marksG, List.length_replicate]; have := HLN.out; omega) (by omega)
            have hel : (l' ++ marksG 16)[j]'(by rw [List.length_append]; simp only [marksG, List.length_replicate]; have := HLN.out; omega) = mkG := by
              rw [List.getElem_append_right (by have := HLN.out; omega)]
              simp only [marksG, List.getElem_replicate]
            rw [hel] at hfl
            have hcs : (gmC l' ++ gmC (marksG 16))[j * 4 + 0]? = some (.int .i64 (-7)) := by rw [← gmC_app]; exact hfl
            rcases HF.out with ⟨_, h0, _⟩ | ⟨g2, o2, c2, e, hx⟩
            · omega
            · injection e with e1 _ _
              injection e1 with e1
              injection e1 with q1 q2 _
              subst q1 q2
              have := hx _ _ hcs
              rw [Nat.zero_add] at this
              exact (HB.out.cell (World.block_lt_of_cell? w _ this)).trans this
          go_wp2_with fail
          go_roundw
          case rel => exact ⟨j + 1, by omega, by omega, by go_num, HB⟩
          case measure => simp [intOf]; omega
        · have k0 : decide ((j : Int) < (l.length : Int) + 16) = false := by rw [decide_eq_false_iff_not]; omega
          have k0n : decide (j < l.length + 16) = false := by rw [decide_eq_false_iff_not]; omega
          go_wp2_with fail
          go_ret
          exact ⟨by first | rfl | trivial, HB.out⟩
set_option maxRecDepth 100000 in
set_option maxHeartbeats 2000000 in
theorem keptFile_any (e : UInt8) (args args1 : List SM) (stages stages1 : List GM) (Aa Aa1 Ag Ag1 : Option Addr) (ka ka1 kg kg1 : Nat) (w : World) {X : Nat → Prop} (hxa : LSs w X (.slice Aa1 args1.length ka1) args1) (hxg : LGs w X (.slice Ag1 stages1.length kg1) stages1) (hma : StsA w (.slice Aa args.length ka) args) (hmg : GsA w (.slice Ag stages.length kg) stages) (hea : args1.map SM.s = args.map SM.s) (heg : stages1.map GM.sg = stages.map GM.sg)
    (hsa : ∀ m ∈ args, m.s.words.length + m.s.exec.length + m.s.pairs.length + m.s.docs.length ≤ 1050000) (hsg : ∀ G ∈ stages, G.ms.length ≤ 1050000 ∧ ∀ m ∈ G.ms, m.s.words.length + m.s.exec.length + m.s.pairs.length + m.s.docs.length ≤ 1050000) (hna : args.length ≤ 1050000) (hng : stages.length ≤ 1050000) : Calls Tryz.prog 15 #[.agg #[.int .u8 (e.toNat : Int), .slice Aa1 args1.length ka1, .slice Ag1 stages1.length kg1], .agg #[.int .u8 (e.toNat : Int), .slice Aa args.length ka, .slice Ag stages.length kg]] w fun r w' => r = .returned (.bool true) ∧ Below w.heap.size w w' := by
  have HXA := Lib.hid hxa
  have HXG := Lib.hid hxg
  have HMA := Lib.hid hma
  have HMG := Lib.hid hmg
  have HEA := Lib.hid hea
  have HEG := Lib.hid heg
  have HSA := Lib.hid hsa
  have HSG := Lib.hid hsg
  have heb : e.toNat < 256 := UInt8.toNat_lt _
  clear hxa hxg hma hmg hea heg hsa hsg
  obtain ⟨w1, hw1⟩ : ∃ y, (w.alloc (.cells #[.int .u8 (e.toNat : Int), .slice Aa1 args1.length ka1, .slice Ag1 stages1.length kg1] 25)).alloc (.cells #[.int .u8 (e.toNat : Int), .slice Aa args.length ka, .slice Ag stages.length kg] 25) = y := ⟨_, rfl⟩
  have HB : Hid (Below w.heap.size w w1) := Lib.hid (by rw [← hw1]; exact ((Below.refl _ _).alloc (Nat.le_refl _) _).alloc (by rw [World.size_alloc]; omega) _)
  have KX : Hid (Blk w1 w.heap.size 25 #[.int .u8 (e.toNat : Int), .slice Aa1 args1.length ka1, .slice Ag1 stages1.length kg1]) := Lib.hid (by rw [← hw1]; exact (Blk.new w _ _).alloc _)
  have KM : Hid (Blk w1 (w.heap.size + 1) 25 #[.int .u8 (e.toNat : Int), .slice Aa args.length ka, .slice Ag stages.length kg]) := Lib.hid (by have q := Blk.new (w.alloc (.cells #[.int .u8 (e.toNat : Int), .slice Aa1 args1.length ka1, .slice Ag1 stages1.length kg1] 25)) 25 #[.int .u8 (e.toNat : Int), .slice Aa args.length ka, .slice Ag stages.length kg]; rw [World.size_alloc] at q; rw [← hw1]; exact q)
  have HW1 := Lib.hid hw1
  clear hw1
  have e0 : ((e.toNat : Int) == (e.toNat : Int)) = true := beq_self_eq_true _
  go_enter Tryz.func15, Tryz.ntmps15
  go_upto_region 1 with fail
  rw [HW1.out]
  clear HW1
  have x0 : w1.cell? ⟨w.heap.size, 0, none⟩ = some (.int .u8 (e.toNat : Int)) := KX.out.cell 0
  have y0 : w1.cell? ⟨w.heap.size + 1, 0, none⟩ = some (.int .u8 (e.toNat : Int)) := KM.out.cell 0
  have x1 : w1.cell? ⟨w.heap.size, 1, none⟩ = some (.slice Aa1 args1.length ka1) := KX.out.cell 1
  have y1 : w1.cell? ⟨w.heap.size + 1, 1, none⟩ = some (.slice Aa args.length ka) := KM.out.cell 1
  have x2 : w1.cell? ⟨w.heap.size, 2, none⟩ = some (.slice Ag1 stages1.length kg1) := KX.out.cell 2
  have y2 : w1.cell? ⟨w.heap.size + 1, 2, none⟩ = some (.slice Ag stages.length kg) := KM.out.cell 2
  have HC := Lib.hid (keptSteps_any args args1 _ _ w1 (HXA.out.new HB.out) (HMA.out.new HB.out) HEA.out HSA.out hna)
  go_wp2_with fail
  refine HC.out.mono ?_
  rintro a w2 ⟨rfl, hb⟩
  have HB2 := Lib.hid (below_of_below HB.out hb HB.out.size)
  have KX2 := Lib.hid (KX.out.below hb KX.out.lt)
  have KM2 := Lib.hid (KM.out.below hb KM.out.lt)
  clear hb HC KX KM HB x0 y0 x1 y1 x2 y2
  have x2 : w2.cell? ⟨w.heap.size, 2, none⟩ = some (.slice Ag1 stages1.length kg1) := KX2.out.cell 2
  have y2 : w2.cell? ⟨w.heap.size + 1, 2, none⟩ = some (.slice Ag stages.length kg) := KM2.out.cell 2
  have HC := Lib.hid (keptStages_any stages stages1 _ _ w2 (HXG.out.new HB2.out) (HMG.out.new HB2.out) HEG.out HSG.out hng)
  go_wp2_with fail
  refine HC.out.mono ?_
  rintro a w3 ⟨rfl, hb⟩
  have HB3 := Lib.hid (below_of_below HB2.out hb HB2.out.size)
  clear hb HC
  go_wp2_with fail
  go_ret
  exact ⟨rfl, HB3.out⟩
end Go.Proofs.YtdaejggcjjdhkaaGreatDoor
