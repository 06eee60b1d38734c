/- The chapter's first example: what Make makes of it. stratakit: nodes and plans that were lent are kept: KeptNode, KeptNodes, KeptPlan, walked. (Printed by wip/gengwn.py.) stratakit.Plain, by contracts over any error of which errors.Is and errors.As are known. -/
import Derived.Test.YtnlkmljdcmfogaaGreatDoorGwG
import Derived.Test.YtnlkmljdcmfogaaGreatDoorGwN
import Derived.Test.YtnlkmljdcmfogaaGreatDoorGwX0
import Derived.Test.YtnlkmljdcmfogaaGreatDoorRely0
import Derived.Test.YtnlkmljdcmfogaaGreatDoorErrAs0
namespace Go.Proofs.YtnlkmljdcmfogaaGreatDoor
open Go Go.RowKit
def nds19 : List Gw.Nd := [⟨⟨0, 0, []⟩, []⟩, ⟨⟨2, 0, [105, 109, 103, 58, 108, 97, 116, 101, 115, 116]⟩, [⟨1, 0, []⟩]⟩, ⟨⟨1, 1, []⟩, [⟨1, 0, []⟩, ⟨2, 0, [111, 116, 104, 101, 114, 58, 49]⟩]⟩]
/-- the bytes of a reference's key. -/
noncomputable def keyB (r : Gw.Rf) : List UInt8 := match keyOf Tryz.prog 77 (rfV r) with
  | some (.string s) => s
  | _ => []
noncomputable def keyT (r : Gw.Rf) : Bool := match keyOf Tryz.prog 77 (rfV r) with
  | some (.string _) => true
  | _ => false
theorem key_ok {r : Gw.Rf} (h : keyT r = true) : keyOf Tryz.prog 77 (rfV r) = some (.string (keyB r)) := by
  unfold keyT at h
  unfold keyB
  split at h
  · rename_i s hs
    rw [hs]
  · cases h
theorem three_file (vg v1 v2 wa wb wc : Value) : Ck.fileL (threeM vg v1 v2 wa wb wc).fl = none := by kernel_rfl
theorem three_need : needL nds19 = [0, 1, 2] := by kernel_rfl
theorem three_seen : (seenL keyB nds19 [0, 1, 2]).2 = [[105, 109, 103, 58, 108, 97, 116, 101, 115, 116], [111, 116, 104, 101, 114, 58, 49]] := by kernel_rfl
theorem three_waves : wavesI nds19 [0, 1, 2] 4 [] = [[0], [1], [2]] := by kernel_rfl
theorem three_small (vg v1 v2 wa wb wc : Value) : (threeM vg v1 v2 wa wb wc).fl.Small := by
  refine ⟨fun s h => absurd h (List.not_mem_nil), fun g h => ?_, ?_⟩
  · have h2 : g ∈ [(⟨1, [115, 99, 114, 97, 116, 99, 104], [97], []⟩ : Ck.Sg), ⟨2, [105, 109, 103], [98], [st19 [97] 3]⟩, ⟨4, [98], [], [st19 [48] 5, st19 [111, 116, 104, 101, 114, 58, 49] 6]⟩] := h
    have hT : ∀ (s : Ck.St), s.words.length + s.exec.length + s.pairs.length + s.docs.length ≤ 1050000 → (Ck.textsL s).all (fun t => decide (t.length ≤ 1050000)) = true → s.Small := fun s h1 h2 => ⟨h1, fun t ht => of_decide_eq_true (List.all_eq_true.1 h2 t ht)⟩
    simp only [List.mem_cons, List.not_mem_nil, or_false] at h2
    rcases h2 with rfl | rfl | rfl
    · exact ⟨by decide, by decide, fun s h => absurd h (List.not_mem_nil)⟩
    · refine ⟨by decide, by decide, fun s h => ?_⟩
      rw [List.mem_singleton.1 h]
      exact hT _ (by decide) (by decide)
    · refine ⟨by decide, by decide, fun s h => ?_⟩
      rcases List.mem_cons.1 h with rfl | h
      · exact hT _ (by decide) (by decide)
      · rw [List.mem_singleton.1 h]
        exact hT _ (by decide) (by decide)
  · exact Nat.le_of_ble_eq_true (by kernel_rfl)
theorem three_ok (vg v1 v2 wa wb wc : Value) : MkOk (threeM vg v1 v2 wa wb wc) nds19 keyB where
  len := rfl
  pos := by decide
  few := by decide
  ms := by
    intro G hG
    simp only [threeM, List.mem_cons, List.not_mem_nil, or_false] at hG
    rcases hG with rfl | rfl | rfl <;> exact ⟨Nat.le_of_ble_eq_true rfl, Nat.le_of_ble_eq_true rfl⟩
  b := by
    intro i h h'
    have hi : i < 3 := h
    rcases i with _ | _ | _ | i
    · exact ⟨[115, 99, 114, 97, 116, 99, 104], [], by kernel_rfl, by decide, by decide, .inl ⟨by decide, rfl⟩⟩
    · exact ⟨[105, 109, 103], [], by kernel_rfl, by decide, by decide, .inr ⟨by decide, .inr ⟨by kernel_rfl, by kernel_rfl, by kernel_rfl⟩⟩⟩
    · exact ⟨[98], [], by kernel_rfl, by decide, by decide, .inr ⟨by decide, .inl ⟨1, by kernel_rfl, by decide, by decide, rfl⟩⟩⟩
    · omega
  fl := by
    intro i h h'
    have hi : i < 3 := h
    rcases i with _ | _ | _ | i
    · rfl
    · rfl
    · rfl
    · omega
  f := by
    intro i h h' k hk hk'
    have hi : i < 3 := h
    rcases i with _ | _ | _ | i
    · exact absurd hk' (by show ¬ k < 0; omega)
    · have hk2 : k < 1 := hk'
      obtain rfl : k = 0 := by omega
      exact ⟨rfl, Nat.le_of_ble_eq_true rfl, .inr ⟨by kernel_rfl, .inl ⟨0, by kernel_rfl, by decide, by decide, rfl⟩⟩⟩
    · have hk2 : k < 2 := hk'
      rcases k with _ | _ | k
      · exact ⟨rfl, Nat.le_of_ble_eq_true rfl, .inl ⟨rfl, by decide, rfl⟩⟩
      · exact ⟨rfl, Nat.le_of_ble_eq_true rfl, .inr ⟨by kernel_rfl, .inr ⟨by kernel_rfl, by kernel_rfl, by kernel_rfl⟩⟩⟩
      · omega
    · omega
  hkey := by
    intro n hn r hr hk
    simp only [nds19, List.mem_cons, List.not_mem_nil, or_false] at hn
    rcases hn with rfl | rfl | rfl
    · simp only [List.mem_cons, List.not_mem_nil, or_false] at hr
      subst hr
      cases hk
    · simp only [List.mem_cons, List.not_mem_nil, or_false] at hr
      rcases hr with rfl | rfl
      · exact key_ok (by kernel_rfl)
      · cases hk
    · simp only [List.mem_cons, List.not_mem_nil, or_false] at hr
      rcases hr with rfl | rfl | rfl
      · cases hk
      · cases hk
      · exact key_ok (by kernel_rfl)
  hkey0 := key_ok (by kernel_rfl)
theorem three_c (vg v1 v2 wa wb wc : Value) : TgOk (threeM vg v1 v2 wa wb wc) [99] true := .inr ⟨rfl, rfl, by decide, by kernel_rfl, by kernel_rfl⟩
theorem three_all (vg v1 v2 wa wb wc : Value) : TgOk (threeM vg v1 v2 wa wb wc) [] false := .inl ⟨rfl, rfl⟩
end Go.Proofs.YtnlkmljdcmfogaaGreatDoor
namespace Go.Proofs.YtnlkmljdcmfogaaGreatDoor
open Go Go.RowKit
theorem eql_rf (z : Gw.Rf) (w : World) : (binOp .eql 77 (.agg #[.int .i64 z.kind, .int .i64 z.stage, .string (bs z.name)]) (.agg #[.int .i64 z.kind, .int .i64 z.stage, .string (bs z.name)])).run Tryz.prog w = .ok (.bool true) w := by
  rw [run_eql_struct, equalIn_rf]; rfl
set_option maxRecDepth 100000 in
set_option maxHeartbeats 2000000 in
theorem keptNode_any (z : Gw.Rf) (ms : List Gw.Rf) (A A1 : Option Addr) (k k1 : Nat) (w : World) {X : Nat → Prop} (hx : LtV w X (.slice A1 ms.length k1) ms.length (rfC ms ++ rfC (marksR 16))) (hm : SlA w (.slice A ms.length k) ms.length (rfC ms)) (hn : ms.length ≤ 1050000) : Calls Tryz.prog 152 #[.agg #[.int .i64 z.kind, .int .i64 z.stage, .string (bs z.name), .slice A1 ms.length k1], .agg #[.int .i64 z.kind, .int .i64 z.stage, .string (bs z.name), .slice A ms.length k]] w fun r w' => r = .returned (.bool true) ∧ Below w.heap.size w w' := by
  have xq := eql_rf z
  obtain ⟨kd, sg, nm⟩ := z
  dsimp only at xq ⊢
  obtain ⟨g1, c1, hv1, hc1, hf1⟩ := hx.full
  injection hv1 with hA1 _ hk1
  subst hA1 hk1
  have HF := Lib.hid hf1
  have HM := Lib.hid hm
  have t0 : ((ms.length : Int) != (ms.length : Int)) = false := by simp
  clear hx hm hf1
  obtain ⟨w1, hw1⟩ : ∃ y, (w.alloc (.cells #[.int .i64 kd, .int .i64 sg, .string (bs nm), .slice (some ⟨g1, 0, none⟩) ms.length k1] 80)).alloc (.cells #[.int .i64 kd, .int .i64 sg, .string (bs nm), .slice A ms.length k] 80) = y := ⟨_, rfl⟩
  have HB : Hid (Below w.heap.size w w1) := Lib.hid (by rw [← hw1]; exact ((Below.refl _ _).alloc (Nat.le_refl _) _).alloc (by rw [World.size_alloc]; omega) _)
  have KX : Hid (Blk w1 w.heap.size 80 #[.int .i64 kd, .int .i64 sg, .string (bs nm), .slice (some ⟨g1, 0, none⟩) ms.length k1]) := Lib.hid (by rw [← hw1]; exact (Blk.new w _ _).alloc _)
  have KM : Hid (Blk w1 (w.heap.size + 1) 80 #[.int .i64 kd, .int .i64 sg, .string (bs nm), .slice A ms.length k]) := Lib.hid (by have q := Blk.new (w.alloc (.cells #[.int .i64 kd, .int .i64 sg, .string (bs nm), .slice (some ⟨g1, 0, none⟩) ms.length k1] 80)) 80 #[.int .i64 kd, .int .i64 sg, .string (bs nm), .slice A ms.length k]; rw [World.size_alloc] at q; rw [← hw1]; exact q)
  have HW1 := Lib.hid hw1
  clear hw1
  go_enter Tryz.func152, Tryz.ntmps152
  go_upto_region 1 with fail
  rw [HW1.out]
  clear HW1
  have x0 : w1.cell? ⟨w.heap.size, 0, none⟩ = some (.int .i64 kd) := KX.out.cell 0
  have x1 : w1.cell? ⟨w.heap.size, 1, none⟩ = some (.int .i64 sg) := KX.out.cell 1
  have x2 : w1.cell? ⟨w.heap.size, 2, none⟩ = some (.string (bs nm)) := KX.out.cell 2
  have x3 : w1.cell? ⟨w.heap.size, 3, none⟩ = some (.slice (some ⟨g1, 0, none⟩) ms.length k1) := KX.out.cell 3
  have y0 : w1.cell? ⟨w.heap.size + 1, 0, none⟩ = some (.int .i64 kd) := KM.out.cell 0
  have y1 : w1.cell? ⟨w.heap.size + 1, 1, none⟩ = some (.int .i64 sg) := KM.out.cell 1
  have y2 : w1.cell? ⟨w.heap.size + 1, 2, none⟩ = some (.string (bs nm)) := KM.out.cell 2
  have y3 : w1.cell? ⟨w.heap.size + 1, 3, none⟩ = some (.slice A ms.length k) := KM.out.cell 3
  have HC := Lib.hid (keptR_any ms g1 k1 A k w1 (by rw [rfC_app]; exact HF.out.new HB.out) hc1 (HM.out.new HB.out) (by omega))
  go_wp2_with fail
  refine HC.out.mono ?_
  rintro a w2 ⟨rfl, hb⟩
  have HB2 := Lib.hid (below_of_below HB.out hb HB.out.size)
  clear hb HC x0 y0 x1 y1 x2 y2 x3 y3
  go_wp2_with fail
  go_ret
  exact ⟨rfl, HB2.out⟩
set_option maxRecDepth 100000 in
set_option maxHeartbeats 4000000 in
theorem keptNodes_any (l l' : List NdM) (v v' : Value) (w : World) {X : Nat → Prop} (hx : LNs w X v' l') (hl : NdsA w v l) (he : l'.map NdM.nd = l.map NdM.nd) (hsm : ∀ G ∈ l, G.froms.length ≤ 1050000) (hn : l.length ≤ 1050000) : Calls Tryz.prog 91 #[v', v] w fun r w' => r = .returned (.bool true) ∧ Below w.heap.size w w' := by
  have hll : l'.length = l.length := by have := congrArg List.length he; simpa using this
  obtain ⟨A0, k0, rfl⟩ := hl.1.form
  obtain ⟨g, c, rfl, hc, hf⟩ := hx.r.full
  rw [hll] at hc hf
  have HX := Lib.hid hx
  have HF := Lib.hid hf
  rw [hll]
  have HL := Lib.hid hl
  have HE := Lib.hid he
  have HSM := Lib.hid hsm
  have HLN := Lib.hid hll
  have t0 : ((l.length : Int) != (l.length : Int)) = false := by simp
  have i1 : (0 : Int) ≤ (l.length : Int) + 16 := by omega
  have i2 : (l.length : Int) + 16 ≤ (c : Int) := by omega
  clear hx hl he hsm hll hf
  go_enter Tryz.func91, Tryz.ntmps91
  go_wp2_with fail
  go_loopw [7] (fun t7 wr => ∃ i : Nat, i ≤ l.length ∧ t7 = .int .i64 (i : Int) ∧ Hid (Below w.heap.size w wr)) (fun t7 _ => l.length - (intOf t7).toNat)
  case atStart => exact ⟨0, by omega, rfl, Lib.hid (Below.refl _ _)⟩
  case round =>
    rename World => wr
    obtain ⟨i, hi, rfl, HB⟩ := hrel
    have j0 : (0 : Int) ≤ (i : Int) := by omega
    rcases Nat.lt_or_ge i l.length with hin | hin
    · have i0 : decide ((i : Int) < (l.length : Int)) = true := by rw [decide_eq_true_eq]; omega
      have i3 : (i : Int) < (l.length : Int) + 16 := by omega
      have i4 : (i : Int) < (l.length : Int) := by omega
      have hin' : i < l'.length := by have := HLN.out; omega
      have hsmi := HSM.out _ (List.getElem_mem hin)
      have hes : l'[i].nd = l[i].nd := by
        have h := congrArg (fun q => q[i]?) HE.out
        simpa [hin, hin'] using h
      have hlt := (HX.out.m _ (List.getElem_mem hin')).new HB.out
      obtain ⟨g0, o, cc, G, A, kk, hv, hG, hGv, hGs, cells⟩ := nd_full (NdsA.new HL.out HB.out) hin
      injection hv with hA _ hcc
      subst hA hcc
      obtain ⟨g1, o1, cc1, G1, A1, kk1, hv1, hG1, hGv1, hGs1, cells1⟩ := nd_full (NdsA.new HX.out.ok HB.out) hin'
      injection hv1 with hA1 _ hcc1
      injection hA1 with hA1
      injection hA1 with q1 q2 _
      subst q1 q2 hcc1
      rw [hG] at hsmi hes
      rw [hG1] at hlt hes
      obtain ⟨⟨line, base, name⟩, vs, ms⟩ := G
      obtain ⟨⟨line1, base1, name1⟩, vs1, ms1⟩ := G1
      dsimp only at hGv hGs hGv1 cells cells1 hsmi
      have hes2 : (⟨⟨line1, base1, name1⟩, ms1⟩ : Gw.Nd) = ⟨⟨line, base, name⟩, ms⟩ := hes
      injection hes2 with z1 z4
      injection z1 with z1 z2 z3
      subst z1 z2 z3 z4
      subst hGv1
      have HLT : Hid (LtV wr X (.slice A1 ms1.length kk1) ms1.length (rfC ms1 ++ rfC (marksR 16))) := Lib.hid hlt
      rw [hGv] at hGs
      have HMO := Lib.hid hGs
      simp only [Nat.zero_add] at cells1
      have HCX := Lib.hid cells1
      have HCM := Lib.hid cells
      clear hlt hGs cells cells1 hG hG1 hGv hes hGs1
      go_upto_region 8 with fail
      refine' wp_region_rely_tail 8 (fun wx => Below wr.heap.size wr wx) (VL [.slice (some ⟨g, 0, none⟩) (l.length + 16) c, .int .i64 (i : Int), .pointer (some ⟨g, i * 4, none⟩), .agg #[.int .i64 line1, .int .i64 base1, .string (bs name1), .slice A1 ms1.length kk1], .slice (some ⟨g0, o, none⟩) l.length k0, .int .i64 (i : Int), .pointer (some ⟨g0, o + i * 4, none⟩), .agg #[.int .i64 line1, .int .i64 base1, .string (bs name1), .slice A ms1.length kk]]) ?F2 ?hF2 (by kernel_rfl) (by kernel_rfl) (by kernel_rfl) (by decide) (by kernel_rfl) (by kernel_rfl) (by kernel_rfl) (Below.refl _ _).drew ?hsteps2 ?hT2
      case hF2 =>
        intro xs
        refine (frameX_eq _ _ _).trans ?_
        simp only [frameL, Act.put, List.setIfInBounds_toArray, List.set_cons_zero, List.set_cons_succ, Nat.reduceAdd, Nat.zero_add]
        exact rfl
      case hsteps2 =>
        as_aux_lemma =>
        simp only [List.take_succ_cons, List.take_zero]
        refine Steps.cons (n := []) (k := 1) rfl (by kernel_rfl) (fun xs wx hS hV K hK => ?_) ?_
        · clear hV
          go_simp
          exact hK.out _ _ hS rfl (fun _ _ h => h)
        refine Steps.cons (n := []) (k := 2) rfl (by kernel_rfl) (fun xs wx hS hV K hK => ?_) ?_
        · clear hV
          go_simp
          exact hK.out _ _ hS rfl (fun _ _ h => h)
        refine Steps.cons (n := [0, 1]) (k := 3) rfl (by kernel_rfl) (fun xs wx hS hV K hK => ?_) ?_
        · obtain ⟨d0, d1, -⟩ := hV
          replace d0 : xs 0 = .slice (some ⟨g, 0, none⟩) (l.length + 16) c := (Option.some.inj d0).symm
          replace d1 : xs 1 = .int .i64 (i : Int) := (Option.some.inj d1).symm
          rw [d0, d1] at hK ⊢
          go_simp
          exact hK.out _ _ hS rfl (fun _ _ h => h)
        refine Steps.cons (n := [2]) (k := 4) rfl (by kernel_rfl) (fun xs wx hS hV K hK => ?_) ?_
        · obtain ⟨d2, -⟩ := hV
          replace d2 : xs 2 = .pointer (some ⟨g, i * 4, none⟩) := (Option.some.inj d2).symm
          rw [d2] at hK ⊢
          have q0 : wx.cell? ⟨g, i * 4, none⟩ = some (.int .i64 line1) := (hS.cell (World.block_lt_of_cell? wr _ HCX.out.1)).trans HCX.out.1
          have q1 : wx.cell? ⟨g, i * 4 + 1, none⟩ = some (.int .i64 base1) := (hS.cell (World.block_lt_of_cell? wr _ HCX.out.2.1)).trans HCX.out.2.1
          have q2 : wx.cell? ⟨g, i * 4 + 2, none⟩ = some (.string (bs name1)) := (hS.cell (World.block_lt_of_cell? wr _ HCX.out.2.2.1)).trans HCX.out.2.2.1
          have q3 : wx.cell? ⟨g, i * 4 + 3, none⟩ = some (.slice A1 ms1.length kk1) := (hS.cell (World.block_lt_of_cell? wr _ HCX.out.2.2.2)).trans HCX.out.2.2.2
          go_simp
          exact hK.out _ _ hS rfl (fun _ _ h => h)
        refine Steps.cons (n := []) (k := 5) rfl (by kernel_rfl) (fun xs wx hS hV K hK => ?_) ?_
        · clear hV
          go_simp
          exact hK.out _ _ hS rfl (fun _ _ h => h)
        refine Steps.cons (n := []) (k := 6) rfl (by kernel_rfl) (fun xs wx hS hV K hK => ?_) ?_
        · clear hV
          go_simp
          exact hK.out _ _ hS rfl (fun _ _ h => h)
        refine Steps.cons (n := [4, 5]) (k := 7) rfl (by kernel_rfl) (fun xs wx hS hV K hK => ?_) ?_
        · obtain ⟨d4, d5, -⟩ := hV
          replace d4 : xs 4 = .slice (some ⟨g0, o, none⟩) l.length k0 := (Option.some.inj d4).symm
          replace d5 : xs 5 = .int .i64 (i : Int) := (Option.some.inj d5).symm
          rw [d4, d5] at hK ⊢
          go_simp
          exact hK.out _ _ hS rfl (fun _ _ h => h)
        refine Steps.cons (n := [6]) (k := 8) rfl (by kernel_rfl) (fun xs wx hS hV K hK => ?_) ?_
        · obtain ⟨d6, -⟩ := hV
          replace d6 : xs 6 = .pointer (some ⟨g0, o + i * 4, none⟩) := (Option.some.inj d6).symm
          rw [d6] at hK ⊢
          have q0 : wx.cell? ⟨g0, o + i * 4, none⟩ = some (.int .i64 line1) := (hS.cell (World.block_lt_of_cell? wr _ HCM.out.1)).trans HCM.out.1
          have q1 : wx.cell? ⟨g0, o + i * 4 + 1, none⟩ = some (.int .i64 base1) := (hS.cell (World.block_lt_of_cell? wr _ HCM.out.2.1)).trans HCM.out.2.1
          have q2 : wx.cell? ⟨g0, o + i * 4 + 2, none⟩ = some (.string (bs name1)) := (hS.cell (World.block_lt_of_cell? wr _ HCM.out.2.2.1)).trans HCM.out.2.2.1
          have q3 : wx.cell? ⟨g0, o + i * 4 + 3, none⟩ = some (.slice A ms1.length kk) := (hS.cell (World.block_lt_of_cell? wr _ HCM.out.2.2.2)).trans HCM.out.2.2.2
          go_simp
          exact hK.out _ _ hS rfl (fun _ _ h => h)
        exact Steps.nil
      case hT2 =>
        intro xs w8 hS hV
        have d3 : xs 3 = .agg #[.int .i64 line1, .int .i64 base1, .string (bs name1), .slice A1 ms1.length kk1] := (Option.some.inj (hV 3 (by decide))).symm
        have d7 : xs 7 = .agg #[.int .i64 line1, .int .i64 base1, .string (bs name1), .slice A ms1.length kk] := (Option.some.inj (hV 7 (by decide))).symm
        simp only [List.drop_succ_cons, List.drop_zero]
        rw [d3, d7]
        have HC := Lib.hid (keptNode_any ⟨line1, base1, name1⟩ ms1 A A1 kk kk1 _ (HLT.out.new hS) (HMO.out.new hS) hsmi)
        have HB8 := Lib.hid (HB.out.trans (hS.mono HB.out.size))
        clear hV d3 d7 hS HCX HCM HLT HMO HB
        go_wp2_with fail
        refine HC.out.mono ?_
        rintro a w9 ⟨rfl, hb⟩
        have HB9 := Lib.hid (HB8.out.trans (hb.mono HB8.out.size))
        clear HC hb HB8
        go_wp2_with fail
        go_roundw
        case rel => exact ⟨i + 1, by omega, by go_num, HB9⟩
        case measure => simp [intOf]; omega
    · have i0 : decide ((i : Int) < (l.length : Int)) = false := by rw [decide_eq_false_iff_not]; omega
      have e0n : decide (i < l.length) = false := by rw [decide_eq_false_iff_not]; omega
      go_wp2_with fail
      go_loopw [8] (fun t8 ws => ∃ j : Nat, l.length ≤ j ∧ j ≤ l.length + 16 ∧ t8 = .int .i64 (j : Int) ∧ Hid (Below w.heap.size w ws)) (fun t8 _ => l.length + 16 - (intOf t8).toNat)
      case atStart => exact ⟨l.length, by omega, by omega, by first | rfl | trivial, HB⟩
      case round =>
        clear HB i0 e0n
        rename World => ws
        obtain ⟨j, hj0, hj, rfl, HB⟩ := hrel
        have j1 : (0 : Int) ≤ (j : Int) := by omega
        rcases Nat.lt_or_ge j (l.length + 16) with hjn | hjn
        · have k0 : decide ((j : Int) < (l.length : Int) + 16) = true := by rw [decide_eq_true_eq]; omega
          have k0n : decide (j < l.length + 16) = true := by rw [decide_eq_true_eq]; omega
          have k1 : (j : Int) < (l.length : Int) + 16 := by omega
          have hcell : ws.cell? ⟨g, j * 4, none⟩ = some (.int .i64 (-7)) := by
            have hfl := flat_at (f := ndL) (k := 4) (fun _ => rfl) (l' ++ marksN 16) j 0 (by rw [List.length_append]; simp only [marksN, List.length_replicate]; have := HLN.out; omega) (by omega)
            have hel : (l' ++ marksN 16)[j]'(by rw [List.length_append]; simp only [marksN, List.length_replicate]; have := HLN.out; omega) = mkN := by
              rw [List.getElem_append_right (by have := HLN.out; omega)]
              simp only [marksN, List.getElem_replicate]
            rw [hel] at hfl
            have hcs : (ndC l' ++ ndC (marksN 16))[j * 4 + 0]? = some (.int .i64 (-7)) := by rw [← ndC_app]; exact hfl
            rcases HF.out with ⟨_, h0, _⟩ | ⟨g2, o2, c2, e, hx⟩
            · omega
            · injection e with e1 _ _
              injection e1 with e1
              injection e1 with q1 q2 _
              subst q1 q2
              have := hx _ _ hcs
              rw [Nat.zero_add] at this
              exact (HB.out.cell (World.block_lt_of_cell? w _ this)).trans this
          go_wp2_with fail
          go_roundw
          case rel => exact ⟨j + 1, by omega, by omega, by go_num, HB⟩
          case measure => simp [intOf]; omega
        · have k0 : decide ((j : Int) < (l.length : Int) + 16) = false := by rw [decide_eq_false_iff_not]; omega
          have k0n : decide (j < l.length + 16) = false := by rw [decide_eq_false_iff_not]; omega
          go_wp2_with fail
          go_ret
          exact ⟨by first | rfl | trivial, HB.out⟩
set_option maxRecDepth 100000 in
set_option maxHeartbeats 2000000 in
theorem keptPlan_any (p : PM) (vn1 vd1 vi1 : Value) (nodes1 : List NdM) (w : World) {X : Nat → Prop} (hok : p.Ok w) (h1 : LNs w X vn1 nodes1) (h2 : nodes1.map NdM.nd = p.nodes.map NdM.nd) (h3 : LtV w X vd1 p.need.length (icC p.need ++ icC (marksI 16))) (h4 : LtV w X vi1 p.images.length (sc p.images ++ sc (marksT 16))) (hn : p.nodes.length ≤ 1050000) (hnf : ∀ n ∈ p.nodes, n.froms.length ≤ 1050000) (hd : p.need.length ≤ 1050000) (hi : p.images.length ≤ 1050000) :
    Calls Tryz.prog 21 #[.agg #[vn1, .int .i64 p.target, vd1, vi1], .agg #[p.vn, .int .i64 p.target, p.vd, p.vi]] w fun r w' => r = .returned (.bool true) ∧ Below w.heap.size w w' := by
  obtain ⟨vn, nodes, target, vd, need, vi, images⟩ := p
  have hcn : NdsA w vn nodes := hok.n
  have hcd : SlA w vd need.length (icC need) := hok.d
  have hci : SlA w vi images.length (sc images) := hok.i
  dsimp only at hn hnf hd hi h2 h3 h4 ⊢
  clear hok
  obtain ⟨An, kn, rfl⟩ := hcn.1.form
  obtain ⟨Ad, kd, rfl⟩ := hcd.form
  obtain ⟨Ai, ki, rfl⟩ := hci.form
  obtain ⟨gn1, kn1, en1, _⟩ := h1.r
  subst en1
  obtain ⟨gd1, kd1, ed1, hkd, hfd⟩ := h3.full
  subst ed1
  obtain ⟨gi1, ki1, ei1, hki, hfi⟩ := h4.full
  subst ei1
  have HN := Lib.hid hcn
  have HD := Lib.hid hcd
  have HI := Lib.hid hci
  have HNF := Lib.hid hnf
  have HN1 := Lib.hid h1
  have HE := Lib.hid h2
  have HFD := Lib.hid hfd
  have HFI := Lib.hid hfi
  have e0 : (target == target) = true := beq_self_eq_true _
  clear hcn hcd hci hnf h1 h2 h3 h4 hfd hfi
  obtain ⟨w1, hw1⟩ : ∃ y, (w.alloc (.cells #[.slice (some ⟨gn1, 0, none⟩) nodes1.length kn1, .int .i64 target, .slice (some ⟨gd1, 0, none⟩) need.length kd1, .slice (some ⟨gi1, 0, none⟩) images.length ki1] 32)).alloc (.cells #[.slice An nodes.length kn, .int .i64 target, .slice Ad need.length kd, .slice Ai images.length ki] 32) = y := ⟨_, rfl⟩
  have HB : Hid (Below w.heap.size w w1) := Lib.hid (by rw [← hw1]; exact ((Below.refl _ _).alloc (Nat.le_refl _) _).alloc (by rw [World.size_alloc]; omega) _)
  have KX : Hid (Blk w1 w.heap.size 32 #[.slice (some ⟨gn1, 0, none⟩) nodes1.length kn1, .int .i64 target, .slice (some ⟨gd1, 0, none⟩) need.length kd1, .slice (some ⟨gi1, 0, none⟩) images.length ki1]) := Lib.hid (by rw [← hw1]; exact (Blk.new w _ _).alloc _)
  have KM : Hid (Blk w1 (w.heap.size + 1) 32 #[.slice An nodes.length kn, .int .i64 target, .slice Ad need.length kd, .slice Ai images.length ki]) := Lib.hid (by have q := Blk.new (w.alloc (.cells #[.slice (some ⟨gn1, 0, none⟩) nodes1.length kn1, .int .i64 target, .slice (some ⟨gd1, 0, none⟩) need.length kd1, .slice (some ⟨gi1, 0, none⟩) images.length ki1] 32)) 32 #[.slice An nodes.length kn, .int .i64 target, .slice Ad need.length kd, .slice Ai images.length ki]; rw [World.size_alloc] at q; rw [← hw1]; exact q)
  have HW1 := Lib.hid hw1
  clear hw1
  go_enter Tryz.func21, Tryz.ntmps21
  go_upto_region 1 with fail
  rw [HW1.out]
  clear HW1
  have x0 : w1.cell? ⟨w.heap.size, 0, none⟩ = some (.slice (some ⟨gn1, 0, none⟩) nodes1.length kn1) := KX.out.cell 0
  have x1 : w1.cell? ⟨w.heap.size, 1, none⟩ = some (.int .i64 target) := KX.out.cell 1
  have y0 : w1.cell? ⟨w.heap.size + 1, 0, none⟩ = some (.slice An nodes.length kn) := KM.out.cell 0
  have y1 : w1.cell? ⟨w.heap.size + 1, 1, none⟩ = some (.int .i64 target) := KM.out.cell 1
  have HC := Lib.hid (keptNodes_any nodes nodes1 _ _ w1 (HN1.out.new HB.out) (HN.out.new HB.out) HE.out HNF.out hn)
  go_wp2_with fail
  refine HC.out.mono ?_
  rintro a w2 ⟨rfl, hb⟩
  have HB2 := Lib.hid (below_of_below HB.out hb HB.out.size)
  have KX2 := Lib.hid (KX.out.below hb KX.out.lt)
  have KM2 := Lib.hid (KM.out.below hb KM.out.lt)
  clear hb HC x0 y0 x1 y1 KX KM
  have x2 : w2.cell? ⟨w.heap.size, 2, none⟩ = some (.slice (some ⟨gd1, 0, none⟩) need.length kd1) := KX2.out.cell 2
  have y2 : w2.cell? ⟨w.heap.size + 1, 2, none⟩ = some (.slice Ad need.length kd) := KM2.out.cell 2
  have HC := Lib.hid (keptI_any need gd1 kd1 Ad kd w2 (by rw [icC_app]; exact HFD.out.new HB2.out) hkd (HD.out.new HB2.out) (by omega))
  go_wp2_with fail
  refine HC.out.mono ?_
  rintro a w3 ⟨rfl, hb⟩
  have HB3 := Lib.hid (below_of_below HB2.out hb HB2.out.size)
  have KX3 := Lib.hid (KX2.out.below hb KX2.out.lt)
  have KM3 := Lib.hid (KM2.out.below hb KM2.out.lt)
  clear hb HC x2 y2 KX2 KM2
  have x3 : w3.cell? ⟨w.heap.size, 3, none⟩ = some (.slice (some ⟨gi1, 0, none⟩) images.length ki1) := KX3.out.cell 3
  have y3 : w3.cell? ⟨w.heap.size + 1, 3, none⟩ = some (.slice Ai images.length ki) := KM3.out.cell 3
  have HC := Lib.hid (keptT_any images gi1 ki1 Ai ki w3 (by rw [sc_app]; exact HFI.out.new HB3.out) hki (HI.out.new HB3.out) (by omega))
  go_wp2_with fail
  refine HC.out.mono ?_
  rintro a w4 ⟨rfl, hb⟩
  have HB4 := Lib.hid (below_of_below HB3.out hb HB3.out.size)
  clear hb HC x3 y3 KX3 KM3
  go_wp2_with fail
  go_ret
  exact ⟨rfl, HB4.out⟩
end Go.Proofs.YtnlkmljdcmfogaaGreatDoor
namespace Go.Proofs.YtnlkmljdcmfogaaGreatDoor
open Go.RowKit

theorem plainK_nil (n : Int) (w : World) : Calls Tryz.prog 45 #[.nilIface, .int .i64 n] w fun e w' => e = .returned (.bool ((0 : Int) == n)) ∧ Below w.heap.size w w' := by
  have hz : Below w.heap.size w (w.alloc (.cells #[.int .i64 0, .int .i64 0, .int .i64 0] 179)) := (Below.refl _ _).alloc (Nat.le_refl _) _
  rcases hb : ((0 : Int) == n) with _ | _
  all_goals
    go_enter Tryz.func45, Tryz.ntmps45
    go_wp2_with (go_at_call 124; refine (num_nil _).mono ?_; rintro e w1 ⟨rfl, rfl⟩)
    go_ret
    exact ⟨rfl, hz⟩

set_option maxHeartbeats 2000000 in
theorem plain_of (T : TypeId) (v : Value) (k : Int) (h : IsNum (.iface T v) k) (h' : IsPlain (.iface T v)) (h1 : 1 ≤ k) (h2 : k ≤ 32) (n : Int) (w : World) (hg : ErrVar w) :
    Calls Tryz.prog 45 #[.iface T v, .int .i64 n] w fun e w' => e = .returned (.bool (k == n)) ∧ Below w.heap.size w w' := by
  have hz : Below w.heap.size w (w.alloc (.cells #[.int .i64 0, .int .i64 0, .int .i64 0] 179)) := (Below.refl _ _).alloc (Nat.le_refl _) _
  have HZ := Lib.hid hz
  have H := Lib.hid h
  have H' := Lib.hid h'
  have HG := Lib.hid hg
  clear h h' hz hg
  rcases hb : (k == n) with _ | _
  · go_enter Tryz.func45, Tryz.ntmps45
    go_wp2_with (go_at_call 124; refine (num_of _ _ k H.out h1 h2 _).mono ?_; rintro e w1 ⟨rfl, hb1⟩)
    go_ret
    exact ⟨rfl, below_of_below' HZ.out hb1 (by simp)⟩
  · go_enter Tryz.func45, Tryz.ntmps45
    go_wp2_with (go_at_call 124; refine (num_of _ _ k H.out h1 h2 _).mono ?_; rintro e w1 ⟨rfl, hb1⟩)
    have hs1 := hb1.size
    simp at hs1
    refine (H'.out _ _ ?_).mono ?_
    · exact HG.out.below (below_of_below' HZ.out hb1 (by simp)) HG.out.lt
    · rintro e w2 ⟨rfl, hb2⟩
      go_wp2_with fail
      go_ret
      exact ⟨rfl, below_of_below' (below_of_below' HZ.out hb1 (by simp)) hb2 (by omega)⟩
end Go.Proofs.YtnlkmljdcmfogaaGreatDoor
