/- stratakit: steps that were lent are kept: KeptStep, KeptSteps, walked. (Printed by wip/genlk.py.) -/
import Derived.Test.YtdaejggcjjdhkaaGreatDoorCkLs
import Derived.Test.YtdaejggcjjdhkaaGreatDoorMkD
namespace Go.Proofs.YtdaejggcjjdhkaaGreatDoor
open Go Go.RowKit
set_option maxRecDepth 100000 in
set_option maxHeartbeats 2000000 in
theorem keptStep_any (s : Ck.St) (Ap Aw Ad Ae : Option Addr) (kp kw kd ke : Nat) (gp cp gw cw gd cd ge ce : Nat) (w : World) {X : Nat → Prop} (hx : LSt w X (⟨s, .slice (some ⟨gp, 0, none⟩) s.pairs.length cp, .slice (some ⟨gw, 0, none⟩) s.words.length cw, .slice (some ⟨gd, 0, none⟩) s.docs.length cd, .slice (some ⟨ge, 0, none⟩) s.exec.length ce⟩ : SM)) (hm : SM.Ok w (⟨s, .slice Ap s.pairs.length kp, .slice Aw s.words.length kw, .slice Ad s.docs.length kd, .slice Ae s.exec.length ke⟩ : SM)) (hn : s.words.length + s.exec.length + s.pairs.length + s.docs.length ≤ 1050000) : Calls Tryz.prog 103 #[.agg #[.int .i64 s.op, .int .i64 s.line, .string (bs s.from_), .string (bs s.mode), .bool s.force, .slice (some ⟨gp, 0, none⟩) s.pairs.length cp, .bool s.bare, .slice (some ⟨gw, 0, none⟩) s.words.length cw, .slice (some ⟨gd, 0, none⟩) s.docs.length cd, .slice (some ⟨ge, 0, none⟩) s.exec.length ce], .agg #[.int .i64 s.op, .int .i64 s.line, .string (bs s.from_), .string (bs s.mode), .bool s.force, .slice Ap s.pairs.length kp, .bool s.bare, .slice Aw s.words.length kw, .slice Ad s.docs.length kd, .slice Ae s.exec.length ke]] w fun r w' => r = .returned (.bool true) ∧ Below w.heap.size w w' := by
  have HX := Lib.hid hx
  have HM := Lib.hid hm
  clear hx hm
  obtain ⟨w1, hw1⟩ : ∃ y, (w.alloc (.cells #[.int .i64 s.op, .int .i64 s.line, .string (bs s.from_), .string (bs s.mode), .bool s.force, .slice (some ⟨gp, 0, none⟩) s.pairs.length cp, .bool s.bare, .slice (some ⟨gw, 0, none⟩) s.words.length cw, .slice (some ⟨gd, 0, none⟩) s.docs.length cd, .slice (some ⟨ge, 0, none⟩) s.exec.length ce] 41)).alloc (.cells #[.int .i64 s.op, .int .i64 s.line, .string (bs s.from_), .string (bs s.mode), .bool s.force, .slice Ap s.pairs.length kp, .bool s.bare, .slice Aw s.words.length kw, .slice Ad s.docs.length kd, .slice Ae s.exec.length ke] 41) = y := ⟨_, rfl⟩
  have HB : Hid (Below w.heap.size w w1) := Lib.hid (by rw [← hw1]; exact ((Below.refl _ _).alloc (Nat.le_refl _) _).alloc (by rw [World.size_alloc]; omega) _)
  have KX : Hid (Blk w1 w.heap.size 41 #[.int .i64 s.op, .int .i64 s.line, .string (bs s.from_), .string (bs s.mode), .bool s.force, .slice (some ⟨gp, 0, none⟩) s.pairs.length cp, .bool s.bare, .slice (some ⟨gw, 0, none⟩) s.words.length cw, .slice (some ⟨gd, 0, none⟩) s.docs.length cd, .slice (some ⟨ge, 0, none⟩) s.exec.length ce]) := Lib.hid (by rw [← hw1]; exact (Blk.new w _ _).alloc _)
  have KM : Hid (Blk w1 (w.heap.size + 1) 41 #[.int .i64 s.op, .int .i64 s.line, .string (bs s.from_), .string (bs s.mode), .bool s.force, .slice Ap s.pairs.length kp, .bool s.bare, .slice Aw s.words.length kw, .slice Ad s.docs.length kd, .slice Ae s.exec.length ke]) := Lib.hid (by have q := Blk.new (w.alloc (.cells #[.int .i64 s.op, .int .i64 s.line, .string (bs s.from_), .string (bs s.mode), .bool s.force, .slice (some ⟨gp, 0, none⟩) s.pairs.length cp, .bool s.bare, .slice (some ⟨gw, 0, none⟩) s.words.length cw, .slice (some ⟨gd, 0, none⟩) s.docs.length cd, .slice (some ⟨ge, 0, none⟩) s.exec.length ce] 41)) 41 #[.int .i64 s.op, .int .i64 s.line, .string (bs s.from_), .string (bs s.mode), .bool s.force, .slice Ap s.pairs.length kp, .bool s.bare, .slice Aw s.words.length kw, .slice Ad s.docs.length kd, .slice Ae s.exec.length ke]; rw [World.size_alloc] at q; rw [← hw1]; exact q)
  have HW1 := Lib.hid hw1
  clear hw1
  have e2 : ((bs s.from_).toList == (bs s.from_).toList) = true := beq_self_eq_true _
  have e3 : ((bs s.mode).toList == (bs s.mode).toList) = true := beq_self_eq_true _
  have e0 : (s.op == s.op) = true := beq_self_eq_true _
  have e1 : (s.line == s.line) = true := beq_self_eq_true _
  have e4 : (s.force == s.force) = true := beq_self_eq_true _
  have e6 : (s.bare == s.bare) = true := beq_self_eq_true _
  go_enter Tryz.func103, Tryz.ntmps103
  go_upto_region 1 with fail
  rw [HW1.out]
  clear HW1
  have x0 : w1.cell? ⟨w.heap.size, 0, none⟩ = some (.int .i64 s.op) := KX.out.cell 0
  have y0 : w1.cell? ⟨w.heap.size + 1, 0, none⟩ = some (.int .i64 s.op) := KM.out.cell 0
  have x1 : w1.cell? ⟨w.heap.size, 1, none⟩ = some (.int .i64 s.line) := KX.out.cell 1
  have y1 : w1.cell? ⟨w.heap.size + 1, 1, none⟩ = some (.int .i64 s.line) := KM.out.cell 1
  have x2 : w1.cell? ⟨w.heap.size, 2, none⟩ = some (.string (bs s.from_)) := KX.out.cell 2
  have y2 : w1.cell? ⟨w.heap.size + 1, 2, none⟩ = some (.string (bs s.from_)) := KM.out.cell 2
  have x3 : w1.cell? ⟨w.heap.size, 3, none⟩ = some (.string (bs s.mode)) := KX.out.cell 3
  have y3 : w1.cell? ⟨w.heap.size + 1, 3, none⟩ = some (.string (bs s.mode)) := KM.out.cell 3
  have x4 : w1.cell? ⟨w.heap.size, 4, none⟩ = some (.bool s.force) := KX.out.cell 4
  have y4 : w1.cell? ⟨w.heap.size + 1, 4, none⟩ = some (.bool s.force) := KM.out.cell 4
  have x6 : w1.cell? ⟨w.heap.size, 6, none⟩ = some (.bool s.bare) := KX.out.cell 6
  have y6 : w1.cell? ⟨w.heap.size + 1, 6, none⟩ = some (.bool s.bare) := KM.out.cell 6
  go_upto_region 3 with fail
  clear e0 e1 e2 e3 e4 e6 x0 y0 x1 y1 x2 y2 x3 y3 x4 y4 x6 y6
  have x5 : w1.cell? ⟨w.heap.size, 5, none⟩ = some (.slice (some ⟨gp, 0, none⟩) s.pairs.length cp) := KX.out.cell 5
  have y5 : w1.cell? ⟨w.heap.size + 1, 5, none⟩ = some (.slice Ap s.pairs.length kp) := KM.out.cell 5
  obtain ⟨g', c', eg, hc, hf⟩ := (HX.out.new HB.out).p.full
  injection eg with e1 _ e2
  injection e1 with e1
  injection e1 with e1 _ _
  subst e1 e2
  rw [← prC_app] at hf
  have HC := Lib.hid (keptP_any s.pairs gp cp Ap kp w1 hf hc (HM.out.new HB.out).cp (by have h := hn; omega))
  clear hf
  go_wp2_with fail
  refine HC.out.mono ?_
  rintro a w2 ⟨rfl, hb⟩
  have J0 := Lib.hid (KX.out.below hb KX.out.lt)
  have J1 := Lib.hid (KM.out.below hb KM.out.lt)
  have JB := Lib.hid (below_of_below HB.out hb HB.out.size)
  clear hb HC x5 y5 KX KM HB hc
  have KX := J0
  have KM := J1
  have HB := JB
  clear J0 J1 JB
  have x7 : w2.cell? ⟨w.heap.size, 7, none⟩ = some (.slice (some ⟨gw, 0, none⟩) s.words.length cw) := KX.out.cell 7
  have y7 : w2.cell? ⟨w.heap.size + 1, 7, none⟩ = some (.slice Aw s.words.length kw) := KM.out.cell 7
  obtain ⟨g', c', eg, hc, hf⟩ := (HX.out.new HB.out).t.full
  injection eg with e1 _ e2
  injection e1 with e1
  injection e1 with e1 _ _
  subst e1 e2
  rw [← sc_append] at hf
  have HC := Lib.hid (keptT_any s.words gw cw Aw kw w2 hf hc (HM.out.new HB.out).cw (by have h := hn; omega))
  clear hf
  go_wp2_with fail
  refine HC.out.mono ?_
  rintro a w3 ⟨rfl, hb⟩
  have J0 := Lib.hid (KX.out.below hb KX.out.lt)
  have J1 := Lib.hid (KM.out.below hb KM.out.lt)
  have JB := Lib.hid (below_of_below HB.out hb HB.out.size)
  clear hb HC x7 y7 KX KM HB hc
  have KX := J0
  have KM := J1
  have HB := JB
  clear J0 J1 JB
  have x8 : w3.cell? ⟨w.heap.size, 8, none⟩ = some (.slice (some ⟨gd, 0, none⟩) s.docs.length cd) := KX.out.cell 8
  have y8 : w3.cell? ⟨w.heap.size + 1, 8, none⟩ = some (.slice Ad s.docs.length kd) := KM.out.cell 8
  obtain ⟨g', c', eg, hc, hf⟩ := (HX.out.new HB.out).d.full
  injection eg with e1 _ e2
  injection e1 with e1
  injection e1 with e1 _ _
  subst e1 e2
  rw [← doC_app] at hf
  have HC := Lib.hid (keptD_any s.docs gd cd Ad kd w3 hf hc (HM.out.new HB.out).cd (by have h := hn; omega))
  clear hf
  go_wp2_with fail
  refine HC.out.mono ?_
  rintro a w4 ⟨rfl, hb⟩
  have J0 := Lib.hid (KX.out.below hb KX.out.lt)
  have J1 := Lib.hid (KM.out.below hb KM.out.lt)
  have JB := Lib.hid (below_of_below HB.out hb HB.out.size)
  clear hb HC x8 y8 KX KM HB hc
  have KX := J0
  have KM := J1
  have HB := JB
  clear J0 J1 JB
  have x9 : w4.cell? ⟨w.heap.size, 9, none⟩ = some (.slice (some ⟨ge, 0, none⟩) s.exec.length ce) := KX.out.cell 9
  have y9 : w4.cell? ⟨w.heap.size + 1, 9, none⟩ = some (.slice Ae s.exec.length ke) := KM.out.cell 9
  obtain ⟨g', c', eg, hc, hf⟩ := (HX.out.new HB.out).e.full
  injection eg with e1 _ e2
  injection e1 with e1
  injection e1 with e1 _ _
  subst e1 e2
  rw [← sc_append] at hf
  have HC := Lib.hid (keptT_any s.exec ge ce Ae ke w4 hf hc (HM.out.new HB.out).ce (by have h := hn; omega))
  clear hf
  go_wp2_with fail
  refine HC.out.mono ?_
  rintro a w5 ⟨rfl, hb⟩
  have J0 := Lib.hid (KX.out.below hb KX.out.lt)
  have J1 := Lib.hid (KM.out.below hb KM.out.lt)
  have JB := Lib.hid (below_of_below HB.out hb HB.out.size)
  clear hb HC x9 y9 KX KM HB hc
  have KX := J0
  have KM := J1
  have HB := JB
  clear J0 J1 JB
  go_wp2_with fail
  go_ret
  exact ⟨rfl, HB.out⟩
set_option maxRecDepth 100000 in
set_option maxHeartbeats 4000000 in
theorem keptSteps_any (l l' : List SM) (v v' : Value) (w : World) {X : Nat → Prop} (hx : LSs w X v' l') (hl : StsA w v l) (he : l'.map SM.s = l.map SM.s) (hsm : ∀ m ∈ l, m.s.words.length + m.s.exec.length + m.s.pairs.length + m.s.docs.length ≤ 1050000) (hn : l.length ≤ 1050000) : Calls Tryz.prog 47 #[v', v] w fun r w' => r = .returned (.bool true) ∧ Below w.heap.size w w' := by
  have hll : l'.length = l.length := by have := congrArg List.length he; simpa using this
  obtain ⟨A0, k0, rfl⟩ := hl.1.form
  obtain ⟨g, c, rfl, hc, hf⟩ := hx.r.full
  rw [hll] at hc hf
  have HX := Lib.hid hx
  have HF := Lib.hid hf
  rw [hll]
  have HL := Lib.hid hl
  have HE := Lib.hid he
  have HSM := Lib.hid hsm
  have HLN := Lib.hid hll
  have t0 : ((l.length : Int) != (l.length : Int)) = false := by simp
  have i1 : (0 : Int) ≤ (l.length : Int) + 16 := by omega
  have i2 : (l.length : Int) + 16 ≤ (c : Int) := by omega
  clear hx hl he hsm hll hf
  go_enter Tryz.func47, Tryz.ntmps47
  go_wp2_with fail
  go_loopw [7] (fun t7 wr => ∃ i : Nat, i ≤ l.length ∧ t7 = .int .i64 (i : Int) ∧ Hid (Below w.heap.size w wr)) (fun t7 _ => l.length - (intOf t7).toNat)
  case atStart => exact ⟨0, by omega, rfl, Lib.hid (Below.refl _ _)⟩
  case round =>
    rename World => wr
    obtain ⟨i, hi, rfl, HB⟩ := hrel
    have j0 : (0 : Int) ≤ (i : Int) := by omega
    rcases Nat.lt_or_ge i l.length with hin | hin
    · have i0 : decide ((i : Int) < (l.length : Int)) = true := by rw [decide_eq_true_eq]; omega
      have i3 : (i : Int) < (l.length : Int) + 16 := by omega
      have i4 : (i : Int) < (l.length : Int) := by omega
      have hin' : i < l'.length := by have := HLN.out; omega
      have hsmi := HSM.out _ (List.getElem_mem hin)
      have hes : l'[i].s = l[i].s := by
        have h := congrArg (fun q => q[i]?) HE.out
        simpa [hin, hin'] using h
      have hlt := (HX.out.m _ (List.getElem_mem hin')).new HB.out
      have hmok := (HL.out.2 _ (List.getElem_mem hin)).new HB.out
      obtain ⟨g0, o, cc, s, Ap, Aw, Ad, Ae, kp, kw, kd, ke, hv, hse, cells⟩ := sm_full (StsA.new HL.out HB.out) hin
      injection hv with hA _ hcc
      subst hA hcc
      obtain ⟨g1, o1, cc1, s1, Ap1, Aw1, Ad1, Ae1, kp1, kw1, kd1, ke1, hv1, hse1, cells1⟩ := sm_full (StsA.new HX.out.ok HB.out) hin'
      injection hv1 with hA1 _ hcc1
      injection hA1 with hA1
      injection hA1 with q1 q2 _
      subst q1 q2 hcc1
      rw [hse] at hmok hsmi hes
      rw [hse1] at hlt hes
      dsimp only at hes
      subst hes
      obtain ⟨gp, cp, ep, _⟩ := hlt.p
      obtain ⟨gw, cw, ew, _⟩ := hlt.t
      obtain ⟨gd, cd, ed, _⟩ := hlt.d
      obtain ⟨ge, ce, ee, _⟩ := hlt.e
      dsimp only at ep ew ed ee
      injection ep with ep _ ep2
      injection ew with ew _ ew2
      injection ed with ed _ ed2
      injection ee with ee _ ee2
      subst ep ep2 ew ew2 ed ed2 ee ee2
      simp only [Nat.zero_add] at cells1
      have HCX := Lib.hid cells1
      have HCM := Lib.hid cells
      have HLT := Lib.hid hlt
      have HMO := Lib.hid hmok
      clear hlt hmok cells cells1 hse hse1
      go_upto_region 8 with fail
      refine' wp_region_rely_tail 8 (fun wx => Below wr.heap.size wr wx) (VL [.slice (some ⟨g, 0, none⟩) (l.length + 16) c, .int .i64 (i : Int), .pointer (some ⟨g, i * 10, none⟩), .agg #[.int .i64 s1.op, .int .i64 s1.line, .string (bs s1.from_), .string (bs s1.mode), .bool s1.force, .slice (some ⟨gp, 0, none⟩) s1.pairs.length kp1, .bool s1.bare, .slice (some ⟨gw, 0, none⟩) s1.words.length kw1, .slice (some ⟨gd, 0, none⟩) s1.docs.length kd1, .slice (some ⟨ge, 0, none⟩) s1.exec.length ke1], .slice (some ⟨g0, o, none⟩) l.length k0, .int .i64 (i : Int), .pointer (some ⟨g0, o + i * 10, none⟩), .agg #[.int .i64 s1.op, .int .i64 s1.line, .string (bs s1.from_), .string (bs s1.mode), .bool s1.force, .slice Ap s1.pairs.length kp, .bool s1.bare, .slice Aw s1.words.length kw, .slice Ad s1.docs.length kd, .slice Ae s1.exec.length ke]]) ?F1 ?hF1 (by kernel_rfl) (by kernel_rfl) (by kernel_rfl) (by decide) (by kernel_rfl) (by kernel_rfl) (by kernel_rfl) (Below.refl _ _).drew ?hsteps1 ?hT1
      case hF1 =>
        intro xs
        refine (frameX_eq _ _ _).trans ?_
        simp only [frameL, Act.put, List.setIfInBounds_toArray, List.set_cons_zero, List.set_cons_succ, Nat.reduceAdd, Nat.zero_add]
        exact rfl
      case hsteps1 =>
        as_aux_lemma =>
        simp only [List.take_succ_cons, List.take_zero]
        refine Steps.cons (n := []) (k := 1) rfl (by kernel_rfl) (fun xs wx hS hV K hK => ?_) ?_
        · clear hV
          go_simp
          exact hK.out _ _ hS rfl (fun _ _ h => h)
        refine Steps.cons (n := []) (k := 2) rfl (by kernel_rfl) (fun xs wx hS hV K hK => ?_) ?_
        · clear hV
          go_simp
          exact hK.out _ _ hS rfl (fun _ _ h => h)
        refine Steps.cons (n := [0, 1]) (k := 3) rfl (by kernel_rfl) (fun xs wx hS hV K hK => ?_) ?_
        · obtain ⟨d0, d1, -⟩ := hV
          replace d0 : xs 0 = .slice (some ⟨g, 0, none⟩) (l.length + 16) c := (Option.some.inj d0).symm
          replace d1 : xs 1 = .int .i64 (i : Int) := (Option.some.inj d1).symm
          rw [d0, d1] at hK ⊢
          go_simp
          exact hK.out _ _ hS rfl (fun _ _ h => h)
        refine Steps.cons (n := [2]) (k := 4) rfl (by kernel_rfl) (fun xs wx hS hV K hK => ?_) ?_
        · obtain ⟨d2, -⟩ := hV
          replace d2 : xs 2 = .pointer (some ⟨g, i * 10, none⟩) := (Option.some.inj d2).symm
          rw [d2] at hK ⊢
          have q0 : wx.cell? ⟨g, i * 10, none⟩ = some (.int .i64 s1.op) := (hS.cell (World.block_lt_of_cell? wr _ HCX.out.1)).trans HCX.out.1
          have q1 : wx.cell? ⟨g, i * 10 + 1, none⟩ = some (.int .i64 s1.line) := (hS.cell (World.block_lt_of_cell? wr _ HCX.out.2.1)).trans HCX.out.2.1
          have q2 : wx.cell? ⟨g, i * 10 + 2, none⟩ = some (.string (bs s1.from_)) := (hS.cell (World.block_lt_of_cell? wr _ HCX.out.2.2.1)).trans HCX.out.2.2.1
          have q3 : wx.cell? ⟨g, i * 10 + 3, none⟩ = some (.string (bs s1.mode)) := (hS.cell (World.block_lt_of_cell? wr _ HCX.out.2.2.2.1)).trans HCX.out.2.2.2.1
          have q4 : wx.cell? ⟨g, i * 10 + 4, none⟩ = some (.bool s1.force) := (hS.cell (World.block_lt_of_cell? wr _ HCX.out.2.2.2.2.1)).trans HCX.out.2.2.2.2.1
          have q5 : wx.cell? ⟨g, i * 10 + 5, none⟩ = some (.slice (some ⟨gp, 0, none⟩) s1.pairs.length kp1) := (hS.cell (World.block_lt_of_cell? wr _ HCX.out.2.2.2.2.2.1)).trans HCX.out.2.2.2.2.2.1
          have q6 : wx.cell? ⟨g, i * 10 + 6, none⟩ = some (.bool s1.bare) := (hS.cell (World.block_lt_of_cell? wr _ HCX.out.2.2.2.2.2.2.1)).trans HCX.out.2.2.2.2.2.2.1
          have q7 : wx.cell? ⟨g, i * 10 + 7, none⟩ = some (.slice (some ⟨gw, 0, none⟩) s1.words.length kw1) := (hS.cell (World.block_lt_of_cell? wr _ HCX.out.2.2.2.2.2.2.2.1)).trans HCX.out.2.2.2.2.2.2.2.1
          have q8 : wx.cell? ⟨g, i * 10 + 8, none⟩ = some (.slice (some ⟨gd, 0, none⟩) s1.docs.length kd1) := (hS.cell (World.block_lt_of_cell? wr _ HCX.out.2.2.2.2.2.2.2.2.1)).trans HCX.out.2.2.2.2.2.2.2.2.1
          have q9 : wx.cell? ⟨g, i * 10 + 9, none⟩ = some (.slice (some ⟨ge, 0, none⟩) s1.exec.length ke1) := (hS.cell (World.block_lt_of_cell? wr _ HCX.out.2.2.2.2.2.2.2.2.2)).trans HCX.out.2.2.2.2.2.2.2.2.2
          go_simp
          exact hK.out _ _ hS rfl (fun _ _ h => h)
        refine Steps.cons (n := []) (k := 5) rfl (by kernel_rfl) (fun xs wx hS hV K hK => ?_) ?_
        · clear hV
          go_simp
          exact hK.out _ _ hS rfl (fun _ _ h => h)
        refine Steps.cons (n := []) (k := 6) rfl (by kernel_rfl) (fun xs wx hS hV K hK => ?_) ?_
        · clear hV
          go_simp
          exact hK.out _ _ hS rfl (fun _ _ h => h)
        refine Steps.cons (n := [4, 5]) (k := 7) rfl (by kernel_rfl) (fun xs wx hS hV K hK => ?_) ?_
        · obtain ⟨d4, d5, -⟩ := hV
          replace d4 : xs 4 = .slice (some ⟨g0, o, none⟩) l.length k0 := (Option.some.inj d4).symm
          replace d5 : xs 5 = .int .i64 (i : Int) := (Option.some.inj d5).symm
          rw [d4, d5] at hK ⊢
          go_simp
          exact hK.out _ _ hS rfl (fun _ _ h => h)
        refine Steps.cons (n := [6]) (k := 8) rfl (by kernel_rfl) (fun xs wx hS hV K hK => ?_) ?_
        · obtain ⟨d6, -⟩ := hV
          replace d6 : xs 6 = .pointer (some ⟨g0, o + i * 10, none⟩) := (Option.some.inj d6).symm
          rw [d6] at hK ⊢
          have q0 : wx.cell? ⟨g0, o + i * 10, none⟩ = some (.int .i64 s1.op) := (hS.cell (World.block_lt_of_cell? wr _ HCM.out.1)).trans HCM.out.1
          have q1 : wx.cell? ⟨g0, o + i * 10 + 1, none⟩ = some (.int .i64 s1.line) := (hS.cell (World.block_lt_of_cell? wr _ HCM.out.2.1)).trans HCM.out.2.1
          have q2 : wx.cell? ⟨g0, o + i * 10 + 2, none⟩ = some (.string (bs s1.from_)) := (hS.cell (World.block_lt_of_cell? wr _ HCM.out.2.2.1)).trans HCM.out.2.2.1
          have q3 : wx.cell? ⟨g0, o + i * 10 + 3, none⟩ = some (.string (bs s1.mode)) := (hS.cell (World.block_lt_of_cell? wr _ HCM.out.2.2.2.1)).trans HCM.out.2.2.2.1
          have q4 : wx.cell? ⟨g0, o + i * 10 + 4, none⟩ = some (.bool s1.force) := (hS.cell (World.block_lt_of_cell? wr _ HCM.out.2.2.2.2.1)).trans HCM.out.2.2.2.2.1
          have q5 : wx.cell? ⟨g0, o + i * 10 + 5, none⟩ = some (.slice Ap s1.pairs.length kp) := (hS.cell (World.block_lt_of_cell? wr _ HCM.out.2.2.2.2.2.1)).trans HCM.out.2.2.2.2.2.1
          have q6 : wx.cell? ⟨g0, o + i * 10 + 6, none⟩ = some (.bool s1.bare) := (hS.cell (World.block_lt_of_cell? wr _ HCM.out.2.2.2.2.2.2.1)).trans HCM.out.2.2.2.2.2.2.1
          have q7 : wx.cell? ⟨g0, o + i * 10 + 7, none⟩ = some (.slice Aw s1.words.length kw) := (hS.cell (World.block_lt_of_cell? wr _ HCM.out.2.2.2.2.2.2.2.1)).trans HCM.out.2.2.2.2.2.2.2.1
          have q8 : wx.cell? ⟨g0, o + i * 10 + 8, none⟩ = some (.slice Ad s1.docs.length kd) := (hS.cell (World.block_lt_of_cell? wr _ HCM.out.2.2.2.2.2.2.2.2.1)).trans HCM.out.2.2.2.2.2.2.2.2.1
          have q9 : wx.cell? ⟨g0, o + i * 10 + 9, none⟩ = some (.slice Ae s1.exec.length ke) := (hS.cell (World.block_lt_of_cell? wr _ HCM.out.2.2.2.2.2.2.2.2.2)).trans HCM.out.2.2.2.2.2.2.2.2.2
          go_simp
          exact hK.out _ _ hS rfl (fun _ _ h => h)
        exact Steps.nil
      case hT1 =>
        intro xs w8 hS hV
        have d3 : xs 3 = .agg #[.int .i64 s1.op, .int .i64 s1.line, .string (bs s1.from_), .string (bs s1.mode), .bool s1.force, .slice (some ⟨gp, 0, none⟩) s1.pairs.length kp1, .bool s1.bare, .slice (some ⟨gw, 0, none⟩) s1.words.length kw1, .slice (some ⟨gd, 0, none⟩) s1.docs.length kd1, .slice (some ⟨ge, 0, none⟩) s1.exec.length ke1] := (Option.some.inj (hV 3 (by decide))).symm
        have d7 : xs 7 = .agg #[.int .i64 s1.op, .int .i64 s1.line, .string (bs s1.from_), .string (bs s1.mode), .bool s1.force, .slice Ap s1.pairs.length kp, .bool s1.bare, .slice Aw s1.words.length kw, .slice Ad s1.docs.length kd, .slice Ae s1.exec.length ke] := (Option.some.inj (hV 7 (by decide))).symm
        simp only [List.drop_succ_cons, List.drop_zero]
        rw [d3, d7]
        have HC := Lib.hid (keptStep_any s1 Ap Aw Ad Ae kp kw kd ke gp kp1 gw kw1 gd kd1 ge ke1 _ (HLT.out.new hS) (HMO.out.new hS) hsmi)
        have HB8 := Lib.hid (HB.out.trans (hS.mono HB.out.size))
        clear hV d3 d7 hS HCX HCM HLT HMO HB
        go_wp2_with fail
        refine HC.out.mono ?_
        rintro a w9 ⟨rfl, hb⟩
        have HB9 := Lib.hid (HB8.out.trans (hb.mono HB8.out.size))
        clear HC hb HB8
        go_wp2_with fail
        go_roundw
        case rel => exact ⟨i + 1, by omega, by go_num, HB9⟩
        case measure => simp [intOf]; omega
    · have i0 : decide ((i : Int) < (l.length : Int)) = false := by rw [decide_eq_false_iff_not]; omega
      have e0n : decide (i < l.length) = false := by rw [decide_eq_false_iff_not]; omega
      go_wp2_with fail
      go_loopw [8] (fun t8 ws => ∃ j : Nat, l.length ≤ j ∧ j ≤ l.length + 16 ∧ t8 = .int .i64 (j : Int) ∧ Hid (Below w.heap.size w ws)) (fun t8 _ => l.length + 16 - (intOf t8).toNat)
      case atStart => exact ⟨l.length, by omega, by omega, by first | rfl | trivial, HB⟩
      case round =>
        clear HB i0 e0n
        rename World => ws
        obtain ⟨j, hj0, hj, rfl, HB⟩ := hrel
        have j1 : (0 : Int) ≤ (j : Int) := by omega
        rcases Nat.lt_or_ge j (l.length + 16) with hjn | hjn
        · have k0 : decide ((j : Int) < (l.length : Int) + 16) = true := by rw [decide_eq_true_eq]; omega
          have k0n : decide (j < l.length + 16) = true := by rw [decide_eq_true_eq]; omega
          have k1 : (j : Int) < (l.length : Int) + 16 := by omega
          have hcell : ws.cell? ⟨g, j * 10 + 1, none⟩ = some (.int .i64 (-7)) := by
            have hfl := flat_at (f := smL) (k := 10) (fun _ => rfl) (l' ++ marksS 16) j 1 (by rw [List.length_append]; simp only [marksS, List.length_replicate]; have := HLN.out; omega) (by omega)
            have hel : (l' ++ marksS 16)[j]'(by rw [List.length_append]; simp only [marksS, List.length_replicate]; have := HLN.out; omega) = mkS := by
              rw [List.getElem_append_right (by have := HLN.out; omega)]
              simp only [marksS, List.getElem_replicate]
            rw [hel] at hfl
            have hcs : (smC l' ++ smC (marksS 16))[j * 10 + 1]? = some (.int .i64 (-7)) := by rw [← smC_app]; exact hfl
            rcases HF.out with ⟨_, h0, _⟩ | ⟨g2, o2, c2, e, hx⟩
            · omega
            · injection e with e1 _ _
              injection e1 with e1
              injection e1 with q1 q2 _
              subst q1 q2
              have := hx _ _ hcs
              rw [Nat.zero_add] at this
              exact (HB.out.cell (World.block_lt_of_cell? w _ this)).trans this
          go_wp2_with fail
          go_roundw
          case rel => exact ⟨j + 1, by omega, by omega, by go_num, HB⟩
          case measure => simp [intOf]; omega
        · have k0 : decide ((j : Int) < (l.length : Int) + 16) = false := by rw [decide_eq_false_iff_not]; omega
          have k0n : decide (j < l.length + 16) = false := by rw [decide_eq_false_iff_not]; omega
          go_wp2_with fail
          go_ret
          exact ⟨by first | rfl | trivial, HB.out⟩
end Go.Proofs.YtdaejggcjjdhkaaGreatDoor
