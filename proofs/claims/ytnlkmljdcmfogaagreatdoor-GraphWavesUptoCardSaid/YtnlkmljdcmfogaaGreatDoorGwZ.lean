/- GraphWaves: the law, walked. -/
import Derived.Test.YtnlkmljdcmfogaaGreatDoorGwO
import Derived.Test.YtnlkmljdcmfogaaGreatDoorGwY
namespace Go.Proofs.YtnlkmljdcmfogaaGreatDoor
open Go Go.RowKit
theorem wavesI_few (ns : List Gw.Nd) (need : List Int) : ∀ (f : Nat) (dn : List Nat), (wavesI ns need f dn).length ≤ f ∧ ∀ l ∈ wavesI ns need f dn, l.length ≤ ns.length
  | 0, dn => ⟨by rw [wavesI, Gw.waves]; simp, fun l h => by rw [wavesI, Gw.waves] at h; cases h⟩
  | f + 1, dn => by
    by_cases h : Gw.wave ns need dn = []
    · rw [wavesI_stop h]
      exact ⟨by simp, fun l h => by cases h⟩
    · rw [wavesI_go h]
      have ih := wavesI_few ns need f (dn ++ Gw.wave ns need dn)
      refine ⟨by rw [List.length_cons]; omega, fun l hl => ?_⟩
      rcases List.mem_cons.1 hl with rfl | hl
      · rw [toI_len, Gw.wave]
        exact Nat.le_trans (List.length_filter_le _ _) Gw.rest_len
      · exact ih.2 l hl
/-- a's own block is still a row of at least so many slices. -/
def AC (w : World) (v : Value) (n : Nat) : Prop := ∀ g, v.ownBlock = some g → ∃ cs : Array Value, Blk w g 29 cs ∧ n ≤ cs.size
theorem AC.row {w : World} {base n k : Nat} {v u : Value} {xs : List Value} (h : w.ownsRow base 29 1 u n xs) (hn : k ≤ n) (he : u.ownBlock = v.ownBlock) : AC w v k := by
  intro g hg
  rw [← he] at hg
  rcases h.2 with ⟨rfl, _⟩ | ⟨g', cap, cur, rfl, _, h1, h2, _, h3, _⟩
  · cases hg
  · obtain rfl : g' = g := Option.some.inj hg
    exact ⟨cur, h1, by omega⟩
theorem AC.fx {w w' : World} {v : Value} {n : Nat} {S : Nat → Prop} (h : AC w v n) (k : Fx S w w') (hS : ∀ g, v.ownBlock = some g → ¬ S g) : AC w' v n := fun g hg => by
  obtain ⟨cs, h1, h2⟩ := h g hg
  exact ⟨cs, k.blk h1 (hS g hg), h2⟩
set_option maxRecDepth 100000 in
set_option maxHeartbeats 16000000 in
theorem lawWaves_any (p : PM) (w : World) (hok : p.Ok w) (hT : Tabs w) (hM : Maxl w) (hV : ErrVar w) (hn : p.nodes.length ≤ 1050000) (hnf : ∀ n ∈ p.nodes, n.froms.length ≤ 1050000) (hd : p.need.length ≤ 1050000) (hi : p.images.length ≤ 1050000) :
    Calls Tryz.prog 4 #[.agg #[p.vn, .int .i64 p.target, p.vd, p.vi]] w fun e w' => e = .returned (.bool true) ∧ Below w.heap.size w w' := by
  have HWK := Lib.hid (fun wx (h : Below w.heap.size w wx) => works19_any wx (hT.new h) (hM.grow h) (hV.below h hV.lt))
  have HW19 := Lib.hid (fun wx (h : Below w.heap.size w wx) (h3 : p.nodes.length ≤ 300) => waves19_any p wx (hok.new h) h3 hnf hd (Lib.hid rfl))
  have HLP := Lib.hid (fun wx (h : Below w.heap.size w wx) => lentPlan_any p wx (hok.new h) hn hnf hd hi)
  have HKP := Lib.hid (fun wx (h : Below w.heap.size w wx) (vn1 vd1 vi1 : Value) (nodes1 : List NdM) (X : Nat → Prop) (h1 : LNs wx X vn1 nodes1) (h2 : nodes1.map NdM.nd = p.nodes.map NdM.nd) (h3 : LtV wx X vd1 p.need.length (icC p.need ++ icC (marksI 16))) (h4 : LtV wx X vi1 p.images.length (sc p.images ++ sc (marksT 16))) => keptPlan_any p vn1 vd1 vi1 nodes1 wx (hok.new h) h1 h2 h3 h4 hn hnf hd hi)
  have HWX := Lib.hid (fun wx (vn1 vd1 vi1 : Value) (nodes1 : List NdM) (X : Nat → Prop) (h3 : p.nodes.length ≤ 300) (h1 : LNs wx X vn1 nodes1) (h2 : nodes1.map NdM.nd = p.nodes.map NdM.nd) (hd1 : LtV wx X vd1 p.need.length (icC p.need ++ icC (marksI 16))) (hi1 : LtV wx X vi1 p.images.length (sc p.images ++ sc (marksT 16))) => by
    have hl : nodes1.length = p.nodes.length := by have := congrArg List.length h2; rwa [List.length_map, List.length_map] at this
    refine waves_any (⟨vn1, nodes1, p.target, vd1, p.need, vi1, p.images⟩ : PM) wx ⟨h1.ok, hd1.sl, hi1.sl⟩ (by show nodes1.length ≤ 300; omega) (fun n hnn => ?_) hd (W := wavesI (p.nodes.map NdM.nd) p.need (p.nodes.length + 1) []) (Lib.hid (by show wavesI (nodes1.map NdM.nd) p.need (nodes1.length + 1) [] = _; rw [h2, hl]))
    have h5 : n.nd ∈ p.nodes.map NdM.nd := by rw [← h2]; exact List.mem_map_of_mem hnn
    obtain ⟨m, hm, e⟩ := List.mem_map.1 h5
    have h6 : n.froms.length = m.froms.length := by
      show n.nd.froms.length = m.nd.froms.length
      rw [e]
    rw [h6]
    exact hnf m hm)
  have hfew := wavesI_few (p.nodes.map NdM.nd) p.need (p.nodes.length + 1) []
  rw [List.length_map] at hfew
  obtain ⟨W, hW⟩ : ∃ W, wavesI (p.nodes.map NdM.nd) p.need (p.nodes.length + 1) [] = W := ⟨_, rfl⟩
  rw [hW] at HW19 HWX hfew
  have HFEW := Lib.hid hfew
  obtain ⟨vn, nodes, target, vd, need, vi, images⟩ := p
  have hcn : NdsA w vn nodes := hok.n
  have hcd : SlA w vd need.length (icC need) := hok.d
  have hci : SlA w vi images.length (sc images) := hok.i
  dsimp only at hn hnf hd hi HWK HW19 HLP HKP HWX HFEW ⊢
  obtain ⟨An, kn, rfl⟩ := hcn.1.form
  obtain ⟨Ad, kd, rfl⟩ := hcd.form
  obtain ⟨Ai, ki, rfl⟩ := hci.form
  have HN := Lib.hid hcn
  have HNF := Lib.hid hnf
  have k0 := Blk.new w 32 #[.slice An nodes.length kn, .int .i64 target, .slice Ad need.length kd, .slice Ai images.length ki]
  have b0 := (Below.refl w.heap.size w).alloc (Nat.le_refl _) (.cells #[.slice An nodes.length kn, .int .i64 target, .slice Ad need.length kd, .slice Ai images.length ki] 32)
  obtain ⟨w1, h1⟩ : ∃ y, w.alloc (.cells #[.slice An nodes.length kn, .int .i64 target, .slice Ad need.length kd, .slice Ai images.length ki] 32) = y := ⟨_, rfl⟩
  rw [h1] at k0 b0
  have HW1 := Lib.hid h1
  have HK1 := Lib.hid k0
  have HB1 := Lib.hid b0
  clear hok hT hM hV hcn hcd hci hnf hW h1 k0 b0 hfew
  go_enter Tryz.func4, Tryz.ntmps4
  go_upto_region 1 with fail
  rw [HW1.out]
  clear HW1
  have HPS := Lib.hid HK1.out.lt
  obtain ⟨P, hP⟩ : ∃ P, w.heap.size = P := ⟨_, rfl⟩
  rw [hP] at HK1 HPS ⊢
  have HPE := Lib.hid hP
  clear hP
  have p0 : w1.cell? ⟨P, 0, none⟩ = some (.slice An nodes.length kn) := HK1.out.cell 0
  go_wp2_with fail
  go_loopw [3, 4] (fun t3 t4 wr => ∃ i m : Nat, i ≤ nodes.length ∧ nodes.length ≤ m ∧ m ≤ nodes.length + i * 10500 ∧ t3 = .int .i64 (m : Int) ∧ t4 = .int .i64 (i : Int) ∧ wr = w1) (fun _ t4 _ => nodes.length - (intOf t4).toNat)
  case atStart => exact ⟨0, nodes.length, by omega, by omega, by omega, rfl, rfl, rfl⟩
  case round =>
    obtain ⟨i, m, hin, hm1, hm2, rfl, rfl, rfl⟩ := hrel
    have j0 : (0 : Int) ≤ (i : Int) := by omega
    rcases Nat.lt_or_ge 300 m with hm3 | hm3
    · have m0 : decide ((m : Int) ≤ 300) = false := by rw [decide_eq_false_iff_not]; omega
      have m1 : decide ((300 : Int) < (m : Int)) = true := by rw [decide_eq_true_eq]; omega
      rcases Nat.lt_or_ge i nodes.length with hi2 | hi2
      · have i0 : decide ((i : Int) < (nodes.length : Int)) = true := by rw [decide_eq_true_eq]; omega
        go_wp2_with fail
        go_ret
        exact ⟨rfl, HB1.out⟩
      · have i0 : decide ((i : Int) < (nodes.length : Int)) = false := by rw [decide_eq_false_iff_not]; omega
        go_wp2_with fail
        go_ret
        exact ⟨rfl, HB1.out⟩
    · have m0 : decide ((m : Int) ≤ 300) = true := by rw [decide_eq_true_eq]; omega
      have m1 : decide ((300 : Int) < (m : Int)) = false := by rw [decide_eq_false_iff_not]; omega
      rcases Nat.lt_or_ge i nodes.length with hi2 | hi2
      · have i0 : decide ((i : Int) < (nodes.length : Int)) = true := by rw [decide_eq_true_eq]; omega
        have i1 : (i : Int) < (nodes.length : Int) := by omega
        have hfl := HNF.out _ (List.getElem_mem hi2)
        obtain ⟨g2, o2, cc2, N, A, kk, hv2, hNn, hNv, hNs, n0, n1, n2, n3⟩ := nd_full (HN.out.new HB1.out) hi2
        injection hv2 with hA2 hl2 hcc2
        subst hA2 hcc2
        rw [hNn] at hfl
        have hq : Int.tdiv (N.froms.length : Int) 100 = ((N.froms.length / 100 : Nat) : Int) := rfl
        have hq2 : N.froms.length / 100 ≤ 10500 := by omega
        obtain ⟨q, hqq⟩ : ∃ q, N.froms.length / 100 = q := ⟨_, rfl⟩
        rw [hqq] at hq hq2
        clear hl2 hNn hNv hNs hqq hfl
        go_wp2_with fail
        go_roundw
        case rel => exact ⟨i + 1, m + q, by omega, by omega, by omega, by go_num, by go_num, by first | trivial | rfl⟩
        case measure => simp [intOf]; omega
      · have i0 : decide ((i : Int) < (nodes.length : Int)) = false := by rw [decide_eq_false_iff_not]; omega
        have hn3 : nodes.length ≤ 300 := by omega
        have c2 : wr.cell? ⟨P, 2, none⟩ = some (.slice Ad need.length kd) := HK1.out.cell 2
        rcases Nat.lt_or_ge 65536 need.length with hd2 | hd2
        · have d1 : decide ((65536 : Int) < (need.length : Int)) = true := by rw [decide_eq_true_eq]; omega
          go_wp2_with fail
          go_ret
          exact ⟨rfl, HB1.out⟩
        · have d1 : decide ((65536 : Int) < (need.length : Int)) = false := by rw [decide_eq_false_iff_not]; omega
          go_upto_region 8 with fail
          have c0 : wr.cell? ⟨P, 0, none⟩ = some (.slice An nodes.length kn) := HK1.out.cell 0
          have c1 : wr.cell? ⟨P, 1, none⟩ = some (.int .i64 target) := HK1.out.cell 1
          have c3 : wr.cell? ⟨P, 3, none⟩ = some (.slice Ai images.length ki) := HK1.out.cell 3
          have HN3 := Lib.hid hn3
          have HC := Lib.hid (HW19.out wr HB1.out hn3)
          clear i0 m0 m1 hm1 hm2 hm3 hi2 hn3 d1 HW19
          go_upto_region 9 with (go_at_call 17; refine HC.out.mono ?_; rintro r w2 ⟨⟨v, rfl, hrd⟩, hb2⟩; have hrw := RdW.of_r hrd; obtain ⟨Aw, cw, rfl⟩ := hrw.form; have HRW := Lib.hid hrw; have HB2 := Lib.hid (below_of_below HB1.out hb2 HB1.out.size); have HK2 := Lib.hid (HK1.out.below hb2 HK1.out.lt); clear hrd hrw hb2)
          clear c0 c1 c2 c3 HC
          have c0 : w2.cell? ⟨P, 0, none⟩ = some (.slice An nodes.length kn) := HK2.out.cell 0
          have c1 : w2.cell? ⟨P, 1, none⟩ = some (.int .i64 target) := HK2.out.cell 1
          have c2 : w2.cell? ⟨P, 2, none⟩ = some (.slice Ad need.length kd) := HK2.out.cell 2
          have c3 : w2.cell? ⟨P, 3, none⟩ = some (.slice Ai images.length ki) := HK2.out.cell 3
          have HC := Lib.hid (HLP.out w2 HB2.out)
          go_upto_region 10 with (go_at_call 18; refine HC.out.mono ?_; rintro r w3 ⟨⟨vn1, nodes1, vd1, vi1, rfl, l1, l2, l3, l4⟩, hb3⟩; obtain ⟨gn1, kn1, en1, _⟩ := l1.r.full; obtain ⟨gd1, kd1, ed1, _⟩ := l3.full; obtain ⟨gi1, ki1, ei1, _⟩ := l4.full; subst en1 ed1 ei1; have HL1 := Lib.hid l1; have HL2 := Lib.hid l2; have HL3 := Lib.hid l3; have HL4 := Lib.hid l4; have HB3 := Lib.hid (below_of_below HB2.out hb3 HB2.out.size); have HR3 := Lib.hid (HRW.out.new hb3); have HK3 := Lib.hid (HK2.out.below hb3 HK2.out.lt); clear l1 l2 l3 l4 hb3)
          have kQ := Blk.new w3 32 #[.slice (some ⟨gn1, 0, none⟩) nodes1.length kn1, .int .i64 target, .slice (some ⟨gd1, 0, none⟩) need.length kd1, .slice (some ⟨gi1, 0, none⟩) images.length ki1]
          have bQ := (Below.refl w3.heap.size w3).alloc (Nat.le_refl _) (.cells #[.slice (some ⟨gn1, 0, none⟩) nodes1.length kn1, .int .i64 target, .slice (some ⟨gd1, 0, none⟩) need.length kd1, .slice (some ⟨gi1, 0, none⟩) images.length ki1] 32)
          obtain ⟨Q, hQ⟩ : ∃ Q, w3.heap.size = Q := ⟨_, rfl⟩
          obtain ⟨w4, h4⟩ : ∃ y, w3.alloc (.cells #[.slice (some ⟨gn1, 0, none⟩) nodes1.length kn1, .int .i64 target, .slice (some ⟨gd1, 0, none⟩) need.length kd1, .slice (some ⟨gi1, 0, none⟩) images.length ki1] 32) = y := ⟨_, rfl⟩
          rw [h4] at kQ bQ ⊢
          have HM1 := Lib.hid (HL1.out.new bQ)
          have HM3 := Lib.hid (HL3.out.new bQ)
          have HM4 := Lib.hid (HL4.out.new bQ)
          have HB4 := Lib.hid (below_of_below HB3.out bQ HB3.out.size)
          have HR4 := Lib.hid (HR3.out.new bQ)
          have HK4 := Lib.hid (HK3.out.below bQ HK3.out.lt)
          rw [hQ] at kQ ⊢
          have HQ4 := Lib.hid kQ
          clear c0 c1 c2 c3 HC kQ bQ h4 hQ HL1 HL3 HL4 HB2 HB3 HK2 HK3 HRW HR3 HLP
          have q0 : w4.cell? ⟨Q, 0, none⟩ = some (.slice (some ⟨gn1, 0, none⟩) nodes1.length kn1) := HQ4.out.cell 0
          have q1 : w4.cell? ⟨Q, 1, none⟩ = some (.int .i64 target) := HQ4.out.cell 1
          have q2 : w4.cell? ⟨Q, 2, none⟩ = some (.slice (some ⟨gd1, 0, none⟩) need.length kd1) := HQ4.out.cell 2
          have q3 : w4.cell? ⟨Q, 3, none⟩ = some (.slice (some ⟨gi1, 0, none⟩) images.length ki1) := HQ4.out.cell 3
          have HC := Lib.hid (HWX.out w4 _ _ _ nodes1 _ HN3.out HM1.out HL2.out HM3.out HM4.out)
          go_upto_region 11 with (go_at_call 19; refine HC.out.mono ?_; rintro r w5 ⟨⟨va, rfl, hwo⟩, hb5⟩; obtain ⟨Aa, ca, rfl⟩ := (RdW.of_o hwo).form; have HWA := Lib.hid hwo; have HB5 := Lib.hid hb5; clear hwo hb5)
          clear q0 q1 q2 q3 HC
          have HQ5 := Lib.hid (HQ4.out.below HB5.out HQ4.out.lt)
          have q0 : w5.cell? ⟨Q, 0, none⟩ = some (.slice (some ⟨gn1, 0, none⟩) nodes1.length kn1) := HQ5.out.cell 0
          have q1 : w5.cell? ⟨Q, 1, none⟩ = some (.int .i64 target) := HQ5.out.cell 1
          have q2 : w5.cell? ⟨Q, 2, none⟩ = some (.slice (some ⟨gd1, 0, none⟩) need.length kd1) := HQ5.out.cell 2
          have q3 : w5.cell? ⟨Q, 3, none⟩ = some (.slice (some ⟨gi1, 0, none⟩) images.length ki1) := HQ5.out.cell 3
          have HC := Lib.hid (HWX.out w5 _ _ _ nodes1 _ HN3.out (HM1.out.new HB5.out) HL2.out (HM3.out.new HB5.out) (HM4.out.new HB5.out))
          go_upto_region 12 with (go_at_call 19; refine HC.out.mono ?_; rintro r w6 ⟨⟨vb, rfl, hwo⟩, hb6⟩; obtain ⟨Ab, cb, rfl⟩ := (RdW.of_o hwo).form; have HWB := Lib.hid hwo; have HB56 := Lib.hid hb6; clear hwo hb6)
          clear q0 q1 q2 q3 HC
          have HB46 := Lib.hid (HB5.out.trans (HB56.out.mono HB5.out.size))
          have hW1 : W.length ≤ 301 := by have := HFEW.out.1; have := HN3.out; omega
          have HW2 : Hid (∀ l ∈ W, l.length ≤ 300) := Lib.hid fun l hl => by have := HFEW.out.2 l hl; have := HN3.out; omega
          have HS := Lib.hid (fun (A : Option Addr) (c : Nat) wx (h : Below w4.heap.size w4 wx) (ha : RdW wx (.slice A W.length c) W) => sameWaves_any W A Aw c cw wx ha (HR4.out.new h) (by omega) (fun l hl => by have := HW2.out l hl; omega))
          have HQ6 := Lib.hid (HQ5.out.below HB56.out HQ5.out.lt)
          have HK6 := Lib.hid (HK4.out.below HB46.out HK4.out.lt)
          have HS1 := Lib.hid (HS.out Aa ca w6 HB46.out ((RdW.of_o HWA.out).new HB56.out))
          have HS2 := Lib.hid (fun wx (h : Below w6.heap.size w6 wx) => HS.out Ab cb wx (below_of_below HB46.out h HB46.out.size) ((RdW.of_o HWB.out).new h))
          clear HFEW
          go_upto_region 14 with (first | (go_at_call 20; refine HS1.out.mono ?_; rintro r w7 ⟨rfl, hb7⟩; have HB67 := Lib.hid hb7; clear hb7 HS1) | (go_at_call 20; refine (HS2.out w7 HB67.out).mono ?_; rintro r w8 ⟨rfl, hb8⟩; have HB68 := Lib.hid (below_of_below HB67.out hb8 HB67.out.size); have HQ8 := Lib.hid (HQ6.out.below HB68.out HQ6.out.lt); have HK8 := Lib.hid (HK6.out.below HB68.out HK6.out.lt); have HB48 := Lib.hid (below_of_below HB46.out HB68.out HB46.out.size); have q0 : w8.cell? ⟨Q, 0, none⟩ = some (.slice (some ⟨gn1, 0, none⟩) nodes1.length kn1) := HQ8.out.cell 0; have q1 : w8.cell? ⟨Q, 1, none⟩ = some (.int .i64 target) := HQ8.out.cell 1; have q2 : w8.cell? ⟨Q, 2, none⟩ = some (.slice (some ⟨gd1, 0, none⟩) need.length kd1) := HQ8.out.cell 2; have q3 : w8.cell? ⟨Q, 3, none⟩ = some (.slice (some ⟨gi1, 0, none⟩) images.length ki1) := HQ8.out.cell 3; have c0 : w8.cell? ⟨P, 0, none⟩ = some (.slice An nodes.length kn) := HK8.out.cell 0; have c1 : w8.cell? ⟨P, 1, none⟩ = some (.int .i64 target) := HK8.out.cell 1; have c2 : w8.cell? ⟨P, 2, none⟩ = some (.slice Ad need.length kd) := HK8.out.cell 2; have c3 : w8.cell? ⟨P, 3, none⟩ = some (.slice Ai images.length ki) := HK8.out.cell 3; clear hb8) | (go_at_call 21; refine (HKP.out w8 (below_of_below HB4.out HB48.out HB4.out.size) _ _ _ nodes1 _ (HM1.out.new HB48.out) HL2.out (HM3.out.new HB48.out) (HM4.out.new HB48.out)).mono ?_; rintro r w9 ⟨rfl, hb9⟩; have HB69 := Lib.hid (below_of_below HB68.out hb9 HB68.out.size); have HB49 := Lib.hid (below_of_below HB48.out hb9 HB48.out.size); clear hb9 q0 q1 q2 q3 c0 c1 c2 c3))
          clear HB67 HB68 HQ8 HK8 HB48 HS2 HKP HQ6 HK6 HQ5
          obtain ⟨vsA, hoA, hpA⟩ := HWA.out
          obtain ⟨vsB, hoB, hpB⟩ := HWB.out
          have hb59 : Below w5.heap.size w5 w9 := HB56.out.trans (HB69.out.mono HB56.out.size)
          have hoA9 := own_below hoA hb59
          have hoB9 := own_below hoB HB69.out
          have hlA := hpA.1
          have hlB := hpB.1
          have honeA : ∀ u ∈ vsA, u.oneCell' = true := fun u hu => by
            obtain ⟨l, hl⟩ := hpA.row hu
            obtain ⟨A, c, rfl⟩ := ownk_form hl
            rfl
          have honeB : ∀ u ∈ vsB, u.oneCell' = true := fun u hu => by
            obtain ⟨l, hl⟩ := hpB.row hu
            obtain ⟨A, c, rfl⟩ := ownk_form hl
            rfl
          have hPW : ∀ wx, Below w9.heap.size w9 wx → WvP wx w4.heap.size (vsA ++ vsB) (W ++ W) := fun wx h => WvP.app ((hpA.new hb59).new h) (((hpB.lo HB5.out.size).new HB69.out).new h) (fun V hV U hU b h1 h2 => by
            have := (hpA.lt hV h1).2
            have := (hpB.lt hU h2).1
            omega)
          have HPW := Lib.hid hPW
          have HOA9 := Lib.hid hoA9
          have HOB9 := Lib.hid hoB9
          have HLA : Hid (vsA.length = W.length) := Lib.hid hlA
          have HLB : Hid (vsB.length = W.length) := Lib.hid hlB
          have HONE1 := Lib.hid honeA
          have HONE2 := Lib.hid honeB
          clear hoA hpA hoB hpB hoA9 hoB9 hlA hlB honeA honeB hb59 hPW HWA HWB
          go_upto_region 16 with (at_builtin; refine wpList_appS rfl _ _ _ rfl rowsK w9.heap.size _ _ _ rfl (World.ownsRow_nil _ _ _ _) (.slice Aa W.length ca) W.length vsA rfl (SlA.own HOA9.out) (by rw [HLA.out, Nat.mul_one]) HONE1.out (by omega) (by omega) (Below.refl _ _) (Nat.le_refl _) ?_; intro v1 wA ho1 hb1 hg1 hat1; rw [Nat.zero_add, List.nil_append] at ho1; obtain ⟨A1, c1, rfl⟩ := ownk_form ho1; have HO1 := Lib.hid ho1; have HBA := Lib.hid hb1; clear ho1 hb1 hg1 hat1)
          have hzA := HBA.out.size
          go_upto_region 17 with (at_builtin; refine wpList_appS rfl _ _ _ rfl rowsK w9.heap.size _ _ _ rfl HO1.out (.slice Ab W.length cb) W.length vsB rfl (SlA.own (own_below HOB9.out HBA.out)) (by rw [HLB.out, Nat.mul_one]) HONE2.out (by omega) (by omega) HBA.out hzA ?_; intro v2 wB ho2 hb2 hg2 hat2; have HO2 := Lib.hid ho2; have HBB := Lib.hid hb2; clear ho2 hb2 hg2 hat2)
          have HAP : Hid (Calls Tryz.prog 22 #[v2] wB fun e w' => e = .returned (.bool true) ∧ Fx (fun b => ∃ V ∈ vsA ++ vsB, V.ownBlock = some b) wB w') := Lib.hid (by
            have ho2 := HO2.out
            rcases ho2.2 with ⟨rfl, _⟩ | ⟨g, cap, cur, rfl, _, hg, hle, _⟩
            · exact (apartI_nil wB).mono fun e w' ⟨h1, h2⟩ => ⟨h1, by rw [h2]; exact Fx.refl⟩
            · have hB : Blk wB g 29 cur := hg
              have hlen : (vsA ++ vsB).length = W.length + W.length := by rw [List.length_append, HLA.out, HLB.out]
              rw [← hlen]
              exact apartW_any (vsA ++ vsB) (W ++ W) w4.heap.size g cap cur wB (HPW.out wB HBB.out) hg (fun j u hu => by
                have h1 := ho2.cells (g := g) rfl j u hu
                rw [Addr.add_lit, Nat.zero_add] at h1
                exact (hB.cell j).symm.trans h1) (by omega) (by omega) (fun l hl => by
                have h2 : l ∈ W := (List.mem_append.1 hl).elim id id
                have := HW2.out l h2
                omega) (by have := HB49.out.size; have := HBB.out.size; omega))
          go_upto_region 19 with (go_at_call 22; refine HAP.out.mono ?_; rintro r wC ⟨rfl, hfx⟩; have HFC := Lib.hid hfx; clear hfx)
          have HOAC : Hid (wC.ownsRow w4.heap.size 29 1 (.slice Aa W.length ca) W.length vsA) := Lib.hid (HFC.out.own (own_below HOA9.out HBB.out) (fun g h1 ⟨V, hV, h2⟩ => by
            obtain ⟨l, hl⟩ := (HPW.out wB HBB.out).row hV
            rcases Ak.own_ne (own_below HOA9.out HBB.out) hl (by decide) with e | e
            · rw [h1] at e; cases e
            · exact e (h1.trans h2.symm)))
          have HB4C : Hid (Below w4.heap.size w4 wC) := Lib.hid ((below_of_below HB49.out HBB.out HB49.out.size).trans (HFC.out.to_below (by have := HB49.out.size; have := HBB.out.size; omega) (fun b ⟨V, hV, h2⟩ => ((HPW.out wB HBB.out).lt hV h2).1)))
          have HACC : Hid (AC wC (.slice Aa W.length ca) W.length) := Lib.hid (AC.row HOAC.out (Nat.le_refl _) rfl)
          have HZ4 : Hid (∀ wx, Below w4.heap.size w4 wx → w4.heap.size ≤ wx.heap.size) := Lib.hid fun wx h => h.size
          clear HAP HO1 HO2 HOA9 HOB9 HPW HFC hzA HBA HBB HONE1 HONE2 HLA HLB HB49 HB69 HB56
          go_wp2_with fail
          go_loopw [10, 11] (fun t10 t11 wx => ∃ (j : Nat) (xs : List Value), j ≤ 70 ∧ t11 = .int .i64 (j : Int) ∧ Hid (wx.ownsRow w4.heap.size 29 1 t10 (W.length + j) xs) ∧ Hid (AC wx (.slice Aa W.length ca) W.length) ∧ Hid (Below w4.heap.size w4 wx)) (fun _ t11 _ => 70 - (intOf t11).toNat)
          case atStart => exact ⟨0, vsA, by omega, rfl, HOAC, HACC, HB4C⟩
          case round =>
            rename World => wx
            clear HACC HB4C
            obtain ⟨j, xs, hj, rfl, HOC, HAC, HBX⟩ := hrel
            obtain ⟨Ac, cc, rfl⟩ := ownk_form HOC.out
            have jj0 : (0 : Int) ≤ (j : Int) := by omega
            rcases Nat.lt_or_ge j 70 with hj7 | hj7
            · have jd : decide ((j : Int) < 70) = true := by rw [decide_eq_true_eq]; omega
              have hz4 := HZ4.out wx HBX.out
              have z1 := World.size_alloc wx (.cells #[.int .i64 (j : Int)] 3)
              have z2 := World.size_alloc (wx.alloc (.cells #[.int .i64 (j : Int)] 3)) (.cells #[.slice (some ⟨wx.heap.size, 0, none⟩) 1 1] 29)
              have hz5 : w4.heap.size ≤ ((wx.alloc (.cells #[.int .i64 (j : Int)] 3)).alloc (.cells #[.slice (some ⟨wx.heap.size, 0, none⟩) 1 1] 29)).heap.size := by omega
              have HZ5 := Lib.hid hz5
              clear z1 z2 hz5
              go_wp2_with (at_builtin; refine Ak.wpList_app_split rfl _ _ _ rfl rowsK w4.heap.size _ _ _ rfl ((HOC.out.alloc _).alloc _) _ _ _ [.slice (some ⟨wx.heap.size, 0, none⟩) 1 1] rfl rfl (news_at _ _ (World.size_alloc _ _).symm _ _) (by simp [Value.oneCell']) (by omega) (by omega) HZ5.out (by omega) ?_; intro v3 wy ho3 hs3)
              have k1 : Fx (fun _ => False) wx ((wx.alloc (.cells #[.int .i64 (j : Int)] 3)).alloc (.cells #[.slice (some ⟨wx.heap.size, 0, none⟩) 1 1] 29)) := (Fx.refl.alloc _).alloc _
              have hac := HAC.out.fx k1 (fun _ _ h => h)
              have HACN : Hid (AC wy (.slice Aa W.length ca) W.length) := Lib.hid (by
                rcases hs3 with ⟨e, hg⟩ | ⟨e, hg⟩
                · by_cases he : (Value.slice Ac (W.length + j) cc).ownBlock = (Value.slice Aa W.length ca).ownBlock
                  · exact AC.row ho3 (by omega) (e.trans he)
                  · exact hac.fx (Fx.of_grown hg) (fun g h1 h2 => he (by rw [h1]; exact h2))
                · exact hac.fx (Fx.of_grown hg) (fun g h1 h2 => by cases h2))
              have HBN : Hid (Below w4.heap.size w4 wy) := Lib.hid ((HBX.out.trans (k1.to_below hz4 (fun b h => h.elim))).trans ((Fx.of_grown (Ak.split_grown hs3)).to_below HZ5.out (fun b h => (HOC.out.lt b h).1)))
              have HON : Hid (wy.ownsRow w4.heap.size 29 1 v3 (W.length + (j + 1)) (xs ++ [.slice (some ⟨wx.heap.size, 0, none⟩) 1 1])) := Lib.hid ho3
              clear k1 hac ho3 hs3 HZ5 hz4
              go_roundw
              case rel => exact ⟨j + 1, _, by omega, by go_num, HON, HACN, HBN⟩
              case measure => simp [intOf]; omega
            · obtain rfl : j = 70 := by omega
              go_wp2_with fail
              go_loopw [12] (fun t12 wy => ∃ k : Nat, k ≤ W.length ∧ t12 = .int .i64 (k : Int) ∧ Hid (AC wy (.slice Aa W.length ca) W.length) ∧ Hid (Below w4.heap.size w4 wy)) (fun t12 _ => W.length - (intOf t12).toNat)
              case atStart => exact ⟨0, by omega, by first | rfl | trivial, HAC, HBX⟩
              case round =>
                rename World => wy
                clear HAC HBX HOC
                obtain ⟨k, hk, rfl, HAC, HBY⟩ := hrel
                have kk0 : (0 : Int) ≤ (k : Int) := by omega
                have hz4 := HZ4.out wy HBY.out
                rcases Nat.lt_or_ge k W.length with hkn | hkn
                · have kdd : decide ((k : Int) < (W.length : Int)) = true := by rw [decide_eq_true_eq]; omega
                  have kk1 : (k : Int) < (W.length : Int) := by omega
                  obtain ⟨ga, hga⟩ : ∃ ga, Aa = some ⟨ga, 0, none⟩ := by
                    obtain ⟨g, c, e, _⟩ := HOAC.out.form (by omega)
                    injection e with e _ _
                    exact ⟨g, e⟩
                  subst hga
                  obtain ⟨cs, hB, hcs⟩ := HAC.out ga rfl
                  have hB2 := hB.alloc (.cells #[.int .i64 (-1)] 3)
                  have hcl : (wy.alloc (.cells #[.int .i64 (-1)] 3)).cell? ⟨ga, k, none⟩ = some (cs[k]'(by omega)) := (hB2.cell k).trans (Array.getElem?_eq_getElem (by omega))
                  have hfz := hB2.frozen k
                  have hlo := (HOAC.out.lt ga rfl).1
                  have HACN : Hid (AC ((wy.alloc (.cells #[.int .i64 (-1)] 3)).setCell ⟨ga, k, none⟩ (.slice (some ⟨wy.heap.size, 0, none⟩) 1 1)) (.slice (some ⟨ga, 0, none⟩) W.length ca) W.length) := Lib.hid fun g hg => by
                    obtain rfl : ga = g := Option.some.inj hg
                    exact ⟨_, hB2.set_ k _, by simpa using hcs⟩
                  have HBN : Hid (Below w4.heap.size w4 ((wy.alloc (.cells #[.int .i64 (-1)] 3)).setCell ⟨ga, k, none⟩ (.slice (some ⟨wy.heap.size, 0, none⟩) 1 1))) := Lib.hid ((HBY.out.alloc hz4 _).setCell (p := ⟨ga, k, none⟩) hlo _)
                  obtain ⟨u, hu⟩ : ∃ u, cs[k]'(by omega) = u := ⟨_, rfl⟩
                  rw [hu] at hcl
                  clear hu hB hB2 hcs hlo
                  go_wp2_with fail
                  go_roundw
                  case rel => exact ⟨k + 1, by omega, by go_num, HACN, HBN⟩
                  case measure => simp [intOf]; omega
                · obtain rfl : k = W.length := by omega
                  have kdd : decide ((W.length : Int) < (W.length : Int)) = false := by simp
                  have HQy := Lib.hid (HQ4.out.below HBY.out HQ4.out.lt)
                  have q0 : wy.cell? ⟨Q, 0, none⟩ = some (.slice (some ⟨gn1, 0, none⟩) nodes1.length kn1) := HQy.out.cell 0
                  have q1 : wy.cell? ⟨Q, 1, none⟩ = some (.int .i64 target) := HQy.out.cell 1
                  have q2 : wy.cell? ⟨Q, 2, none⟩ = some (.slice (some ⟨gd1, 0, none⟩) need.length kd1) := HQy.out.cell 2
                  have q3 : wy.cell? ⟨Q, 3, none⟩ = some (.slice (some ⟨gi1, 0, none⟩) images.length ki1) := HQy.out.cell 3
                  have e70 : (((W.length + 70 : Nat) : Int) == (W.length : Int) + 70) = true := by simp
                  have e71 : ((W.length : Int) + 70 == (W.length : Int) + 70) = true := by simp
                  have HC := Lib.hid (HWX.out wy _ _ _ nodes1 _ HN3.out (HM1.out.new HBY.out) HL2.out (HM3.out.new HBY.out) (HM4.out.new HBY.out))
                  go_upto_region 29 with (go_at_call 19; refine HC.out.mono ?_; rintro r wd ⟨⟨vq, rfl, hwo⟩, hbd⟩; obtain ⟨Aq, cq, rfl⟩ := (RdW.of_o hwo).form; have HWQ := Lib.hid (RdW.of_o hwo); have HBD := Lib.hid (below_of_below HBY.out hbd HBY.out.size); clear hwo hbd)
                  clear q0 q1 q2 q3 HC HQy
                  have HS3 := Lib.hid (HS.out Aq cq wd HBD.out HWQ.out)
                  go_wp2_with (first | (go_at_call 20; refine HS3.out.mono ?_; rintro r we ⟨rfl, hbe⟩; have HBE := Lib.hid (below_of_below HB4.out (below_of_below HBD.out hbe HBD.out.size) HB4.out.size); clear hbe) | (go_at_call 16; refine (HWK.out we HBE.out).mono ?_; rintro r wf ⟨rfl, hbf⟩; have HBF := Lib.hid (below_of_below HBE.out hbf HBE.out.size); clear hbf))
                  go_ret
                  exact ⟨rfl, HBF.out⟩
end Go.Proofs.YtnlkmljdcmfogaaGreatDoor
