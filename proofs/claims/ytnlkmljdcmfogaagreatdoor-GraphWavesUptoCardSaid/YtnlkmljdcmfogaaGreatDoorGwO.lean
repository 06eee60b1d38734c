/- What the statements of this layer ask first: walked. -/
import Derived.Test.YtnlkmljdcmfogaaGreatDoorGwH0
import Derived.Test.YtnlkmljdcmfogaaGreatDoorGwE0
namespace Go.Proofs.YtnlkmljdcmfogaaGreatDoor
open Go Go.RowKit
set_option maxRecDepth 100000 in
set_option maxHeartbeats 1000000 in
theorem sameTx_any (w : World) (l : List (List UInt8)) (A B : Option Addr) (ca cb : Nat) (ha : SlA w (.slice A l.length ca) l.length (sc l)) (hb : SlA w (.slice B l.length cb) l.length (sc l)) (hn : l.length ≤ 1100000) :
    Calls Tryz.prog 48 #[.slice A l.length ca, .slice B l.length cb] w fun e w' => e = .returned (.bool true) ∧ Below w.heap.size w w' := by
  have HA := Lib.hid ha
  have HB := Lib.hid hb
  have t0 : ((l.length : Int) != (l.length : Int)) = false := by simp
  clear ha hb
  go_enter Tryz.func48, Tryz.ntmps48
  go_wp2_with fail
  go_loopw [5] (fun t5 wr => ∃ i : Nat, i ≤ l.length ∧ t5 = .int .i64 (i : Int) ∧ Hid (Below w.heap.size w wr)) (fun t5 _ => l.length - (intOf t5).toNat)
  case atStart => exact ⟨0, by omega, rfl, Lib.hid (Below.refl _ _)⟩
  case round =>
    rename World => wr
    obtain ⟨i, hi, rfl, HBL⟩ := hrel
    have j0 : (0 : Int) ≤ (i : Int) := by omega
    rcases Nat.lt_or_ge i l.length with hin | hin
    · have i0 : decide ((i : Int) < (l.length : Int)) = true := by rw [decide_eq_true_eq]; omega
      have i1 : (i : Int) < (l.length : Int) := by omega
      obtain ⟨b, o, c, hve, d0⟩ := sc_at (HA.out.new HBL.out) hin
      injection hve with e1 _ e3
      subst e1
      obtain ⟨b', o', c', hve, f0⟩ := sc_at (HB.out.new HBL.out) hin
      injection hve with e1 _ e4
      subst e1
      obtain ⟨x, hx⟩ : ∃ x, l[i] = x := ⟨_, rfl⟩
      rw [hx] at d0 f0
      have xn : ((bs x).toList == (bs x).toList) = true := by simp
      clear hx e3 e4
      go_upto_region 6 with fail
      go_cut [25] (fun s25 wx => s25 = .bool false ∧ ∃ n, wx = wr.drewN n)
      case first =>
        go_quiet (fail)
        go_wp2_with fail
        go_meet
        exact ⟨by first | rfl | trivial, _, rfl⟩
      case rest =>
        rename World => wz
        obtain ⟨rfl, n, hwz⟩ := hcut
        have HB5 : Hid (Below w.heap.size w wz) := Lib.hid (by rw [hwz]; exact below_drewN HBL.out n)
        clear hwz d0 f0 xn
        go_wp2_with fail
        go_roundw
        case rel => exact ⟨i + 1, by omega, by go_num, HB5⟩
        case measure => simp [intOf]; omega
    · have i0 : decide ((i : Int) < (l.length : Int)) = false := by rw [decide_eq_false_iff_not]; omega
      go_wp2_with fail
      go_ret
      exact ⟨by first | rfl | trivial, HBL.out⟩
/-- what is seen of the plan that is made of the example. -/
theorem plan19 (p : PM) (w : World) (hok : p.Ok w) (hn : p.nodes.map NdM.nd = nds19) (ht : p.target = (nds19.length : Int) - 1) (hd : p.need = toI (needL nds19)) (hi : p.images = (seenL keyB nds19 (needL nds19)).2) : ∃ (g o c : Nat) (Ad : Option Addr) (cd : Nat) (Ai : Option Addr) (ci : Nat), p.vn = .slice (some ⟨g, o, none⟩) 3 c ∧ p.target = 2 ∧ p.vd = .slice Ad 3 cd ∧ p.vi = .slice Ai 2 ci ∧ w.cell? ⟨g, o + 8, none⟩ = some (.int .i64 1) ∧ w.cell? ⟨g, o + 8 + 1, none⟩ = some (.int .i64 1) ∧ w.cell? ⟨g, o + 8 + 2, none⟩ = some (.string ⟨#[]⟩) ∧ SlA w (.slice Ad 3 cd) 3 (icC [0, 1, 2]) ∧ SlA w (.slice Ai 2 ci) 2 (sc [[105, 109, 103, 58, 108, 97, 116, 101, 115, 116], [111, 116, 104, 101, 114, 58, 49]]) := by
  obtain ⟨vn, nodes, target, vd, need, vi, images⟩ := p
  dsimp only at hn ht hd hi ⊢
  rw [three_need] at hd hi
  rw [three_seen] at hi
  have hd2 : need = [0, 1, 2] := hd
  subst hd2 hi
  have hl : nodes.length = 3 := by have := congrArg List.length hn; rwa [List.length_map] at this
  have hcn : NdsA w vn nodes := hok.n
  have hcd : SlA w vd 3 (icC [0, 1, 2]) := hok.d
  have hci : SlA w vi 2 (sc [[105, 109, 103, 58, 108, 97, 116, 101, 115, 116], [111, 116, 104, 101, 114, 58, 49]]) := hok.i
  obtain ⟨Ad, kd, rfl⟩ := hcd.form
  obtain ⟨Ai, ki, rfl⟩ := hci.form
  have h2 : 2 < nodes.length := by omega
  obtain ⟨g, o, c, G, A, kk, hv, hG, hGv, hGs, c0, c1, c2, c3⟩ := nd_full hcn h2
  have hnd : G.nd = ⟨⟨1, 1, []⟩, [⟨1, 0, []⟩, ⟨2, 0, [111, 116, 104, 101, 114, 58, 49]⟩]⟩ := by
    have h3 : (nodes.map NdM.nd)[2]? = some (nodes[2].nd) := by simp [h2]
    rw [hn, hG] at h3
    exact (Option.some.inj h3).symm
  have hb : G.base = ⟨1, 1, []⟩ := congrArg Gw.Nd.base hnd
  rw [hb] at c0 c1 c2
  rw [hl] at hv
  exact ⟨g, o, c, Ad, kd, Ai, ki, hv, ht, rfl, rfl, c0, c1, c2, hcd, hci⟩
theorem planW (p : PM) (w : World) (hok : p.Ok w) (hn : p.nodes.map NdM.nd = nds19) (hd : p.need = toI (needL nds19)) : Calls Tryz.prog 19 #[.agg #[p.vn, .int .i64 p.target, p.vd, p.vi]] w fun r w' => (∃ g c g1 c1, r = .returned (.slice (some ⟨g, 0, none⟩) 3 c) ∧ w'.cell? ⟨g, 1, none⟩ = some (.slice (some ⟨g1, 0, none⟩) 1 c1) ∧ w'.cell? ⟨g1, 0, none⟩ = some (.int .i64 1)) ∧ Below w.heap.size w w' := by
  have hl : p.nodes.length = 3 := by have := congrArg List.length hn; rwa [List.length_map] at this
  have hf : ∀ n ∈ p.nodes, n.froms.length ≤ 1050000 := fun n h => by
    have h2 : n.nd ∈ nds19 := by rw [← hn]; exact List.mem_map_of_mem h
    have h3 : n.froms.length = n.nd.froms.length := rfl
    rw [h3]
    simp only [nds19, List.mem_cons, List.not_mem_nil, or_false] at h2
    rcases h2 with h2 | h2 | h2 <;> rw [h2] <;> decide
  rw [three_need] at hd
  have hW : wavesI (p.nodes.map NdM.nd) p.need (p.nodes.length + 1) [] = [[0], [1], [2]] := by
    rw [hn, hl, hd]
    exact three_waves
  refine (waves_any p w hok (by omega) hf (by rw [hd]; decide) (Lib.hid hW)).mono ?_
  rintro r w' ⟨⟨v, rfl, vs, ho, hw⟩, hb⟩
  refine ⟨?_, hb⟩
  have hvl : vs.length = 3 := hw.1
  obtain ⟨g, c, rfl, _⟩ := ho.form (by show 0 < 3; omega)
  obtain ⟨V, hV⟩ : ∃ V, vs[1]? = some V := ⟨vs[1], List.getElem?_eq_getElem (by omega)⟩
  have h1 := hw.2.1 1 V [1] hV rfl
  obtain ⟨g1, c1, rfl, _⟩ := h1.form (by show 0 < 1; omega)
  refine ⟨g, c, g1, c1, rfl, ?_, ?_⟩
  · rcases SlA.own ho with h | ⟨g', o', c', e, h⟩
    · exact absurd h.2.1 (by decide)
    · injection e with e _ _
      injection e with e
      injection e with e1 e2 _
      subst e1 e2
      exact h 1 _ hV
  · rcases SlA.own h1 with h | ⟨g', o', c', e, h⟩
    · exact absurd h.2.1 (by decide)
    · injection e with e _ _
      injection e with e
      injection e with e1 e2 _
      subst e1 e2
      exact h 0 _ rfl
set_option maxRecDepth 100000 in
set_option maxHeartbeats 4000000 in
theorem works19_any (w : World) (hT : Tabs w) (hM : Maxl w) (hV : ErrVar w) : Calls Tryz.prog 16 #[] w fun r w' => r = .returned (.bool true) ∧ Below w.heap.size w w' := by
  have HE : Hid (∀ wx, Below w.heap.size w wx → Tabs wx ∧ Maxl wx ∧ ErrVar wx) := Lib.hid fun wx h => ⟨hT.new h, hM.grow h, hV.below h hV.lt⟩
  clear hT hM hV
  go_enter Tryz.func16, Tryz.ntmps16
  have HC := Lib.hid (three_any w)
  go_upto_region 2 with (first | (go_at_call 79; refine HC.out.mono ?_; rintro r w1 ⟨⟨g, v1, v2, wa, wb, wc, rfl, hok⟩, hb1⟩; obtain ⟨t1, t2, t3⟩ := HE.out w1 hb1; have HMK := Lib.hid (make_any (threeM (.slice (some ⟨g, 0, none⟩) 3 3) v1 v2 wa wb wc) nds19 keyB [] false w1 (three_ok _ _ _ _ _ _) (three_all _ _ _ _ _ _) (three_file _ _ _ _ _ _) (three_small _ _ _ _ _ _) rfl g 3 rfl hok t1 t2 t3); have HB1 := Lib.hid hb1; clear hok t1 t2 t3 hb1) | (go_at_call 9; refine HMK.out.mono ?_; rintro r w2 ⟨⟨p, rfl, hok, hn, ht, hd, hi⟩, hb2⟩; obtain ⟨g2, o2, c2, Ad, cd, Ai, ci, e1, e2, e3, e4, q0, q1, q2, hsd, hsi⟩ := plan19 p w2 hok hn ht hd hi; have hpw : ∀ wx, Below w2.heap.size w2 wx → Calls Tryz.prog 19 #[.agg #[p.vn, .int .i64 p.target, p.vd, p.vi]] wx _ := fun wx h => planW p wx (hok.new h) hn hd; rw [e1, e2, e3, e4] at hpw ⊢; have HPW := Lib.hid hpw; have HB2 := Lib.hid (below_of_below HB1.out hb2 HB1.out.size); have HQ0 := Lib.hid q0; have HQ1 := Lib.hid q1; have HQ2 := Lib.hid q2; have HSD := Lib.hid hsd; have HSI := Lib.hid hsi; clear hok hn ht hd hi hb2 HMK HC e1 e2 e3 e4 hpw q0 q1 q2 hsd hsi HB1))
  have HK3 := Lib.hid (Blk.new w2 32 #[.slice (some ⟨g2, o2, none⟩) 3 c2, .int .i64 2, .slice Ad 3 cd, .slice Ai 2 ci])
  have HN3 := Lib.hid ((Below.refl w2.heap.size w2).alloc (Nat.le_refl _) (.cells #[.slice (some ⟨g2, o2, none⟩) 3 c2, .int .i64 2, .slice Ad 3 cd, .slice Ai 2 ci] 32))
  have HB3 := Lib.hid (below_of_below HB2.out HN3.out HB2.out.size)
  obtain ⟨P, hP⟩ : ∃ P, w2.heap.size = P := ⟨_, rfl⟩
  obtain ⟨w3, h3⟩ : ∃ y, w2.alloc (.cells #[.slice (some ⟨g2, o2, none⟩) 3 c2, .int .i64 2, .slice Ad 3 cd, .slice Ai 2 ci] 32) = y := ⟨_, rfl⟩
  rw [h3] at HK3 HN3 HB3 ⊢
  rw [hP] at HK3 ⊢
  clear h3 hP
  have HC := Lib.hid (three_any w3)
  go_upto_region 3 with (first | (go_at_call 79; refine HC.out.mono ?_; rintro r w4 ⟨⟨g4, v14, v24, wa4, wb4, wc4, rfl, hok⟩, hb4⟩; have hw4 := below_of_below HB3.out hb4 HB3.out.size; obtain ⟨t1, t2, t3⟩ := HE.out w4 hw4; have HMK := Lib.hid (make_any (threeM (.slice (some ⟨g4, 0, none⟩) 3 3) v14 v24 wa4 wb4 wc4) nds19 keyB [99] true w4 (three_ok _ _ _ _ _ _) (three_c _ _ _ _ _ _) (three_file _ _ _ _ _ _) (three_small _ _ _ _ _ _) rfl g4 3 rfl hok t1 t2 t3); have HB4 := Lib.hid hw4; have HN4 := Lib.hid (below_of_below HN3.out hb4 HN3.out.size); have HK4 := Lib.hid (HK3.out.below hb4 HK3.out.lt); clear hok t1 t2 t3 hb4 hw4) | (go_at_call 9; refine HMK.out.mono ?_; rintro r w5 ⟨rfl, hb5⟩; have HB5 := Lib.hid (below_of_below HB4.out hb5 HB4.out.size); have HN5 := Lib.hid (below_of_below HN4.out hb5 HN4.out.size); have HK5 := Lib.hid (HK4.out.below hb5 HK4.out.lt); clear hb5 HMK HC HB4 HN4 HK4 HB3 HN3 HK3))
  have kn := (Below.refl w5.heap.size w5).alloc (Nat.le_refl _) (.cells #[.slice none 0 0, .int .i64 0, .slice none 0 0, .slice none 0 0] 32)
  obtain ⟨w6, h6⟩ : ∃ y, w5.alloc (.cells #[.slice none 0 0, .int .i64 0, .slice none 0 0, .slice none 0 0] 32) = y := ⟨_, rfl⟩
  rw [h6] at kn ⊢
  have HB6 := Lib.hid (below_of_below HB5.out kn HB5.out.size)
  have HN6 := Lib.hid (below_of_below HN5.out kn HN5.out.size)
  have HK6 := Lib.hid (HK5.out.below kn HK5.out.lt)
  clear kn h6 HB5 HN5 HK5
  have p0 : w6.cell? ⟨P, 0, none⟩ = some (.slice (some ⟨g2, o2, none⟩) 3 c2) := HK6.out.cell 0
  have p1 : w6.cell? ⟨P, 1, none⟩ = some (.int .i64 2) := HK6.out.cell 1
  have p2 : w6.cell? ⟨P, 2, none⟩ = some (.slice Ad 3 cd) := HK6.out.cell 2
  have p3 : w6.cell? ⟨P, 3, none⟩ = some (.slice Ai 2 ci) := HK6.out.cell 3
  have HC := Lib.hid (HPW.out w6 HN6.out)
  go_upto_region 4 with (go_at_call 19; refine HC.out.mono ?_; rintro r w7 ⟨⟨gw, cw, g1, c1, rfl, z1, z0⟩, hb7⟩; have HB7 := Lib.hid (below_of_below HB6.out hb7 HB6.out.size); have HN7 := Lib.hid (below_of_below HN6.out hb7 HN6.out.size); have HK7 := Lib.hid (HK6.out.below hb7 HK6.out.lt); have HZ1 := Lib.hid z1; have HZ0 := Lib.hid z0; clear z1 z0 hb7)
  clear p0 p1 p2 p3 HC HB6 HN6 HK6
  have hC := fun wx (h : Below w.heap.size w wx) => plain_of _ _ 21 (isNum_eno 21) (isPlain_eno 21) (by decide) (by decide) 21 wx (HE.out wx h).2.2
  have HC := Lib.hid (hC w7 HB7.out)
  clear hC
  have p0 : w7.cell? ⟨P, 0, none⟩ = some (.slice (some ⟨g2, o2, none⟩) 3 c2) := HK7.out.cell 0
  have p1 : w7.cell? ⟨P, 1, none⟩ = some (.int .i64 2) := HK7.out.cell 1
  have z1 := HZ1.out
  have z0 := HZ0.out
  go_upto_region 6 with (go_at_call 45; refine HC.out.mono ?_; rintro r w8 ⟨rfl, hb8⟩; have HB8 := Lib.hid (below_of_below HB7.out hb8 HB7.out.size); have HN8 := Lib.hid (below_of_below HN7.out hb8 HN7.out.size); have HK8 := Lib.hid (HK7.out.below hb8 HK7.out.lt); have y0 : w8.cell? ⟨P, 0, none⟩ = some (.slice (some ⟨g2, o2, none⟩) 3 c2) := HK8.out.cell 0; have y1 : w8.cell? ⟨P, 1, none⟩ = some (.int .i64 2) := HK8.out.cell 1; have x1 := (hb8.cell (p := ⟨gw, 1, none⟩) (World.block_lt_of_cell? w7 _ z1)).trans z1; have x0 := (hb8.cell (p := ⟨g1, 0, none⟩) (World.block_lt_of_cell? w7 _ z0)).trans z0; clear hb8)
  clear p0 p1 z1 z0 x1 x0 y0 y1 HC HB7 HN7 HK7 HZ1 HZ0
  have y2 : w8.cell? ⟨P, 2, none⟩ = some (.slice Ad 3 cd) := HK8.out.cell 2
  have kn := (Below.refl w8.heap.size w8).alloc (Nat.le_refl _) (.cells #[.int .i64 0, .int .i64 1, .int .i64 2] 3)
  have HS9 := Lib.hid (sameInts_any (w8.alloc (.cells #[.int .i64 0, .int .i64 1, .int .i64 2] 3)) [0, 1, 2] Ad (some ⟨w8.heap.size, 0, none⟩) cd 3 (HSD.out.new (below_of_below HN8.out kn HN8.out.size)) (SlA.blk (Blk.new w8 _ _)) (by decide))
  have HB9 := Lib.hid (below_of_below HB8.out kn HB8.out.size)
  have HN9 := Lib.hid (below_of_below HN8.out kn HN8.out.size)
  have HK9 := Lib.hid (HK8.out.below kn HK8.out.lt)
  clear kn
  have hE : ∀ wx : World, (binOp .eql 77 (.agg #[.int .i64 1, .int .i64 1, .string ⟨#[]⟩]) (.agg #[.int .i64 1, .int .i64 1, .string ⟨#[]⟩])).run Tryz.prog wx = .ok (.bool true) wx := fun wx => eql_rf ⟨1, 1, []⟩ wx
  have HSX := Lib.hid (fun (wx : World) (B : Option Addr) (cb : Nat) (h : Below w2.heap.size w2 wx) (hs : SlA wx (.slice B 2 cb) 2 (sc [[105, 109, 103, 58, 108, 97, 116, 101, 115, 116], [111, 116, 104, 101, 114, 58, 49]])) => sameTx_any wx [[105, 109, 103, 58, 108, 97, 116, 101, 115, 116], [111, 116, 104, 101, 114, 58, 49]] Ai B ci cb (HSI.out.new h) hs (by decide))
  go_wp2_with (first | (go_at_call 47; refine HS9.out.mono ?_; rintro r wA ⟨rfl, hbA⟩; have HBA := Lib.hid (below_of_below HB9.out hbA HB9.out.size); have HNA := Lib.hid (below_of_below HN9.out hbA HN9.out.size); have HKA := Lib.hid (HK9.out.below hbA HK9.out.lt); have x3 : wA.cell? ⟨P, 3, none⟩ = some (.slice Ai 2 ci) := HKA.out.cell 3; clear hbA) | (go_at_call 48; have kn := (Below.refl wA.heap.size wA).alloc (Nat.le_refl _) (.cells #[.string (bs [105, 109, 103, 58, 108, 97, 116, 101, 115, 116]), .string (bs [111, 116, 104, 101, 114, 58, 49])] 9); refine (HSX.out (wA.alloc (.cells #[.string (bs [105, 109, 103, 58, 108, 97, 116, 101, 115, 116]), .string (bs [111, 116, 104, 101, 114, 58, 49])] 9)) (some ⟨wA.heap.size, 0, none⟩) 2 (below_of_below HNA.out kn HNA.out.size) (SlA.blk (Blk.new wA _ _))).mono ?_; rintro r wB ⟨rfl, hbB⟩; have HBB := Lib.hid (below_of_below (below_of_below HBA.out kn HBA.out.size) hbB (below_of_below HBA.out kn HBA.out.size).size); have HNB := Lib.hid (below_of_below (below_of_below HNA.out kn HNA.out.size) hbB (below_of_below HNA.out kn HNA.out.size).size); have HKB := Lib.hid ((HKA.out.below kn HKA.out.lt).below hbB (HKA.out.below kn HKA.out.lt).lt); have x4 : wB.cell? ⟨P, 0, none⟩ = some (.slice (some ⟨g2, o2, none⟩) 3 c2) := HKB.out.cell 0; have q0 := (HNB.out.cell (p := ⟨g2, o2 + 8, none⟩) (World.block_lt_of_cell? w2 _ HQ0.out)).trans HQ0.out; have q1 := (HNB.out.cell (p := ⟨g2, o2 + 8 + 1, none⟩) (World.block_lt_of_cell? w2 _ HQ1.out)).trans HQ1.out; have q2 := (HNB.out.cell (p := ⟨g2, o2 + 8 + 2, none⟩) (World.block_lt_of_cell? w2 _ HQ2.out)).trans HQ2.out; clear kn hbB))
  go_ret
  exact ⟨rfl, HBB.out⟩
end Go.Proofs.YtnlkmljdcmfogaaGreatDoor
