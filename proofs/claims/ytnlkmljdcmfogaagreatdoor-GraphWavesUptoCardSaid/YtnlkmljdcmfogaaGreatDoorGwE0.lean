/- graph.each, with whatever function; graph.Waves' function of a reference, walked. strataref0.SameInts; strataref19's has, refs, ready, walked. What the program begins with, sorted and without doubles, is what is needed. -/
import Derived.Test.YtnlkmljdcmfogaaGreatDoorGwN
import Derived.Shelf.GgClosure.Gives
import Derived.Deep.CutBlock
import Derived.Test.YtnlkmljdcmfogaaGreatDoorGwR
import Derived.Test.YtnlkmljdcmfogaaGreatDoorCkLt0
import Derived.Test.YtnlkmljdcmfogaaGreatDoorCkM0
import Derived.Lib.SlicesCompact
namespace Go.Proofs.YtnlkmljdcmfogaaGreatDoor
open Go Go.RowKit Go.Shelf
set_option maxRecDepth 100000 in
set_option maxHeartbeats 1000000 in
theorem each_any (n : NdM) (g : Nat) (lb : Array Value) (I : Nat → World → Prop) (w : World) (eg : ∀ args w, (callFunc g args).run Tryz.prog w = .ok (.enter g args) w) (hn : n.froms.length ≤ 1050000)
    (hok : ∀ k W, I k W → n.Ok W) (hal : ∀ k W o, I k W → I k (W.alloc o)) (h0 : I 0 w)
    (hstep : ∀ k (hk : k < (n.base :: n.froms).length) W, w.heap.size < W.heap.size → I k W → Calls Tryz.prog g (#[.agg #[.int .i64 (n.base :: n.froms)[k].kind, .int .i64 (n.base :: n.froms)[k].stage, .string (bs (n.base :: n.froms)[k].name)]] ++ lb) W fun e W' => e = .returned (.tuple #[]) ∧ I (k + 1) W' ∧ ∀ cs, Blk W w.heap.size 80 cs → Blk W' w.heap.size 80 cs) :
    Calls Tryz.prog 42 #[.agg #[.int .i64 n.base.kind, .int .i64 n.base.stage, .string (bs n.base.name), n.vf], .func (.func g) #[] lb] w fun e w' => e = .returned (.tuple #[]) ∧ I (n.froms.length + 1) w' := by
  obtain ⟨⟨kd, sg, nm⟩, vf, fs⟩ := n
  have hv : SlA w vf fs.length (rfC fs) := hok 0 w h0
  dsimp only at hn hok hstep ⊢
  obtain ⟨As, ks, rfl⟩ := hv.form
  have HOK : Hid (∀ k W, I k W → SlA W (.slice As fs.length ks) fs.length (rfC fs)) := Lib.hid hok
  have HAL := Lib.hid hal
  have HST := Lib.hid hstep
  have HK := Lib.hid (Blk.new w 80 #[.int .i64 kd, .int .i64 sg, .string (bs nm), .slice As fs.length ks])
  have HI := Lib.hid (hal 0 w (.cells #[.int .i64 kd, .int .i64 sg, .string (bs nm), .slice As fs.length ks] 80) h0)
  obtain ⟨w1, hw1⟩ : ∃ y, w.alloc (.cells #[.int .i64 kd, .int .i64 sg, .string (bs nm), .slice As fs.length ks] 80) = y := ⟨_, rfl⟩
  rw [hw1] at HK HI
  have HW1 := Lib.hid hw1
  clear hw1 hok hal hstep h0 hv
  go_enter Tryz.func42, Tryz.ntmps42
  go_upto_region 1 with fail
  rw [HW1.out]
  clear HW1
  have a0 : w1.cell? ⟨w.heap.size, 0, none⟩ = some (.int .i64 kd) := HK.out.cell 0
  have a1 : w1.cell? ⟨w.heap.size, 1, none⟩ = some (.int .i64 sg) := HK.out.cell 1
  have a2 : w1.cell? ⟨w.heap.size, 2, none⟩ = some (.string (bs nm)) := HK.out.cell 2
  have HC := Lib.hid (HST.out 0 (by simp) w1 HK.out.lt HI.out)
  go_upto_region 2 with (go_at_fn g; refine HC.out.mono ?_; rintro e w2 ⟨rfl, hi2, hf2⟩)
  have HI2 := Lib.hid hi2
  have HK2 : Hid (Blk w2 w.heap.size 80 #[.int .i64 kd, .int .i64 sg, .string (bs nm), .slice As fs.length ks]) := Lib.hid (hf2 _ HK.out)
  clear HC a0 a1 a2 hi2 hf2
  have a3 : w2.cell? ⟨w.heap.size, 3, none⟩ = some (.slice As fs.length ks) := HK2.out.cell 3
  go_wp2_with fail
  go_loopw [13] (fun t13 wr => ∃ i : Nat, i ≤ fs.length ∧ t13 = .int .i64 (i : Int) ∧ Hid (I (i + 1) wr) ∧ Hid (Blk wr w.heap.size 80 #[.int .i64 kd, .int .i64 sg, .string (bs nm), .slice As fs.length ks])) (fun t13 _ => fs.length - (intOf t13).toNat)
  case atStart => exact ⟨0, by omega, rfl, HI2, HK2⟩
  case round =>
    rename World => wr
    clear HI2 HK2
    obtain ⟨i, hi, rfl, HI2, HKR⟩ := hrel
    have j0 : (0 : Int) ≤ (i : Int) := by omega
    rcases Nat.lt_or_ge i fs.length with hin | hin
    · have i0 : decide ((i : Int) < (fs.length : Int)) = true := by rw [decide_eq_true_eq]; omega
      have i1 : (i : Int) < (fs.length : Int) := by omega
      obtain ⟨gg, o, c', hve, d0, d1, d2⟩ := rf_at (HOK.out _ _ HI2.out) hin
      injection hve with e1 _ e3
      subst e1
      have HC := Lib.hid (HST.out (i + 1) (by simp; omega) (wr.alloc (.cells #[.int .i64 fs[i].kind, .int .i64 fs[i].stage, .string (bs fs[i].name)] 77)) (by rw [World.size_alloc]; have := HKR.out.lt; omega) (HAL.out _ _ _ HI2.out))
      simp only [List.getElem_cons_succ] at HC
      obtain ⟨x, hx⟩ : ∃ x, fs[i] = x := ⟨_, rfl⟩
      rw [hx] at d0 d1 d2 HC
      clear hx e3
      go_wp2_with (go_at_fn g; refine HC.out.mono ?_; rintro e w3 ⟨rfl, hi3, hf3⟩)
      have HI3 := Lib.hid hi3
      have HK3 : Hid (Blk w3 w.heap.size 80 #[.int .i64 kd, .int .i64 sg, .string (bs nm), .slice (some ⟨gg, o, none⟩) fs.length ks]) := Lib.hid (hf3 _ (HKR.out.alloc _))
      clear HC d0 d1 d2 hi3 hf3
      go_roundw
      case rel => exact ⟨i + 1, by omega, by go_num, HI3, HK3⟩
      case measure => simp [intOf]; omega
    · obtain rfl : i = fs.length := by omega
      have i0 : decide ((fs.length : Int) < (fs.length : Int)) = false := by simp
      go_wp2_with fail
      go_end0
      exact ⟨rfl, HI2.out⟩
/-- is a reference's stage done? (By the list of Booleans.) -/
def okB (ds : List Bool) (x : Gw.Rf) : Bool := !(x.kind == 1) || (decide (0 ≤ x.stage) && decide (x.stage < (ds.length : Int)) && ds.getD x.stage.toNat false)
set_option maxRecDepth 100000 in
set_option maxHeartbeats 1000000 in
theorem ready2_any (x : Gw.Rf) (R D gd cd : Nat) (b : Bool) (ds : List Bool) (w : World) {q : Bool} (hq : Hid (okB ds x = q)) (hR : Blk w R 4 #[.bool b]) (hD : Blk w D 115 #[.slice (some ⟨gd, 0, none⟩) ds.length cd]) (hds : ∀ j (h : j < ds.length), w.cell? ⟨gd, j, none⟩ = some (.bool ds[j])) :
    Calls Tryz.prog 90 #[.agg #[.int .i64 x.kind, .int .i64 x.stage, .string (bs x.name)], .pointer (some ⟨R, 0, none⟩), .pointer (some ⟨D, 0, none⟩)] w fun e w' => e = .returned (.tuple #[]) ∧ Blk w' R 4 #[.bool (b && q)] ∧ Fx (fun b => b = R) w w' := by
  obtain ⟨kd, sg, nm⟩ := x
  unfold okB at hq
  dsimp only at hq ⊢
  have HR := Lib.hid (hR.alloc (.cells #[.int .i64 kd, .int .i64 sg, .string (bs nm)] 77))
  have HD := Lib.hid (hD.alloc (.cells #[.int .i64 kd, .int .i64 sg, .string (bs nm)] 77))
  have HK := Lib.hid (Blk.new w 77 #[.int .i64 kd, .int .i64 sg, .string (bs nm)])
  have HDS := Lib.hid (fun j (h : j < ds.length) => (((Below.refl w.heap.size w).alloc (Nat.le_refl _) (.cells #[.int .i64 kd, .int .i64 sg, .string (bs nm)] 77)).cell (p := ⟨gd, j, none⟩) (World.block_lt_of_cell? w _ (hds j h))).trans (hds j h))
  have HF : Hid (Fx (fun b => b = R) w (w.alloc (.cells #[.int .i64 kd, .int .i64 sg, .string (bs nm)] 77))) := Lib.hid (Fx.refl.alloc _)
  obtain ⟨w1, hw1⟩ : ∃ y, w.alloc (.cells #[.int .i64 kd, .int .i64 sg, .string (bs nm)] 77) = y := ⟨_, rfl⟩
  rw [hw1] at HR HD HK HDS HF
  have HW1 := Lib.hid hw1
  clear hw1 hR hD hds
  obtain ⟨k, hk⟩ : ∃ k, (kd == 1) = k := ⟨_, rfl⟩
  rw [hk] at hq
  go_enter Tryz.func90, Tryz.ntmps90
  go_upto_region 1 with fail
  rw [HW1.out]
  clear HW1
  have a0 : w1.cell? ⟨w.heap.size, 0, none⟩ = some (.int .i64 kd) := HK.out.cell 0
  have a1 : w1.cell? ⟨w.heap.size, 1, none⟩ = some (.int .i64 sg) := HK.out.cell 1
  have r0 : w1.cell? ⟨R, 0, none⟩ = some (.bool b) := HR.out.cell 0
  have rf : w1.frozen? ⟨R, 0, none⟩ = false := HR.out.frozen 0
  have d0 : w1.cell? ⟨D, 0, none⟩ = some (.slice (some ⟨gd, 0, none⟩) ds.length cd) := HD.out.cell 0
  have fin : ∀ v : Bool, v = (b && q) → Blk (w1.setCell ⟨R, 0, none⟩ (.bool v)) R 4 #[.bool (b && q)] ∧ Fx (fun b => b = R) w (w1.setCell ⟨R, 0, none⟩ (.bool v)) := fun v hv => by
    subst hv
    exact ⟨HR.out.set_ 0 _, HF.out.trans (fx_set18 w1 R 0 _)⟩
  have FIN := Lib.hid fin
  clear fin
  cases k with
  | false =>
    have hq1 : q = true := by have h := hq.out; simpa using h.symm
    subst hq1
    go_wp2_with fail
    go_end0
    exact ⟨rfl, by rw [Bool.and_true]; exact HR.out, HF.out⟩
  | true =>
    cases b with
    | false =>
      go_wp2_with fail
      go_end0
      exact ⟨rfl, FIN.out false rfl⟩
    | true =>
      rcases Int.lt_or_le sg 0 with h0 | h0
      · have e0 : decide (0 ≤ sg) = false := by rw [decide_eq_false_iff_not]; omega
        have hq1 : q = false := by have h := hq.out; rw [e0] at h; simpa using h.symm
        subst hq1
        go_wp2_with fail
        go_end0
        exact ⟨rfl, FIN.out false rfl⟩
      · have e0 : decide (0 ≤ sg) = true := by rw [decide_eq_true_eq]; omega
        obtain ⟨s, rfl⟩ : ∃ s : Nat, sg = (s : Int) := ⟨sg.toNat, by omega⟩
        rcases Nat.lt_or_ge s ds.length with h1 | h1
        · have e1 : decide ((s : Int) < (ds.length : Int)) = true := by rw [decide_eq_true_eq]; omega
          have e1n : (s : Int) < (ds.length : Int) := by omega
          have c0 : w1.cell? ⟨gd, s, none⟩ = some (.bool ds[s]) := HDS.out s h1
          have hq1 : q = ds[s] := by have h := hq.out; rw [e0, e1] at h; simpa [List.getD, h1] using h.symm
          subst hq1
          go_wp2_with fail
          go_end0
          exact ⟨rfl, FIN.out _ (by simp)⟩
        · have e1 : decide ((s : Int) < (ds.length : Int)) = false := by rw [decide_eq_false_iff_not]; omega
          have e1n : decide (s < ds.length) = false := by rw [decide_eq_false_iff_not]; omega
          have hq1 : q = false := by have h := hq.out; rw [e0, e1] at h; simpa using h.symm
          subst hq1
          go_wp2_with fail
          go_end0
          exact ⟨rfl, FIN.out false rfl⟩
end Go.Proofs.YtnlkmljdcmfogaaGreatDoor
namespace Go.Proofs.YtnlkmljdcmfogaaGreatDoor
open Go Go.RowKit
set_option maxRecDepth 100000 in
set_option maxHeartbeats 1000000 in
theorem sameInts_any (w : World) (l : List Int) (A B : Option Addr) (ca cb : Nat) (ha : SlA w (.slice A l.length ca) l.length (icC l)) (hb : SlA w (.slice B l.length cb) l.length (icC l)) (hn : l.length ≤ 1100000) :
    Calls Tryz.prog 47 #[.slice A l.length ca, .slice B l.length cb] w fun e w' => e = .returned (.bool true) ∧ Below w.heap.size w w' := by
  have HA := Lib.hid ha
  have HB := Lib.hid hb
  have t0 : ((l.length : Int) != (l.length : Int)) = false := by simp
  clear ha hb
  go_enter Tryz.func47, Tryz.ntmps47
  go_wp2_with fail
  go_loopw [5] (fun t5 wr => ∃ i : Nat, i ≤ l.length ∧ t5 = .int .i64 (i : Int) ∧ Hid (Below w.heap.size w wr)) (fun t5 _ => l.length - (intOf t5).toNat)
  case atStart => exact ⟨0, by omega, rfl, Lib.hid (Below.refl _ _)⟩
  case round =>
    rename World => wr
    obtain ⟨i, hi, rfl, HBL⟩ := hrel
    have j0 : (0 : Int) ≤ (i : Int) := by omega
    rcases Nat.lt_or_ge i l.length with hin | hin
    · have i0 : decide ((i : Int) < (l.length : Int)) = true := by rw [decide_eq_true_eq]; omega
      have i1 : (i : Int) < (l.length : Int) := by omega
      obtain ⟨b, o, c, hve, d0⟩ := ic_at (HA.out.new HBL.out) hin
      injection hve with e1 _ e3
      subst e1
      obtain ⟨b', o', c', hve, f0⟩ := ic_at (HB.out.new HBL.out) hin
      injection hve with e1 _ e4
      subst e1
      obtain ⟨x, hx⟩ : ∃ x, l[i] = x := ⟨_, rfl⟩
      rw [hx] at d0 f0
      have xn : (x != x) = false := by simp
      clear hx e3 e4
      go_upto_region 6 with fail
      go_cut [25] (fun s25 wx => s25 = .bool false ∧ ∃ n, wx = wr.drewN n)
      case first =>
        go_quiet (fail)
        go_wp2_with fail
        go_meet
        exact ⟨by first | rfl | trivial, _, rfl⟩
      case rest =>
        rename World => wz
        obtain ⟨rfl, n, hwz⟩ := hcut
        have HB5 : Hid (Below w.heap.size w wz) := Lib.hid (by rw [hwz]; exact below_drewN HBL.out n)
        clear hwz d0 f0 xn
        go_wp2_with fail
        go_roundw
        case rel => exact ⟨i + 1, by omega, by go_num, HB5⟩
        case measure => simp [intOf]; omega
    · have i0 : decide ((i : Int) < (l.length : Int)) = false := by rw [decide_eq_false_iff_not]; omega
      go_wp2_with fail
      go_ret
      exact ⟨by first | rfl | trivial, HBL.out⟩
set_option maxRecDepth 100000 in
set_option maxHeartbeats 1000000 in
theorem has_any (l : List Int) (n : Int) (A : Option Addr) (c : Nat) (w : World) {b : Bool} (hb : Hid (l.contains n = b)) (hl : SlA w (.slice A l.length c) l.length (icC l)) (hn : l.length ≤ 1100000) :
    Calls Tryz.prog 80 #[.slice A l.length c, .int .i64 n] w fun e w' => e = .returned (.bool b) ∧ Below w.heap.size w w' := by
  have HL := Lib.hid hl
  clear hl
  go_enter Tryz.func80, Tryz.ntmps80
  go_wp2_with fail
  go_loopw [5] (fun t5 wr => ∃ i : Nat, i ≤ l.length ∧ t5 = .int .i64 (i : Int) ∧ Hid ((l.drop i).contains n = b) ∧ Hid (Below w.heap.size w wr)) (fun t5 _ => l.length - (intOf t5).toNat)
  case atStart => exact ⟨0, by omega, rfl, hb, Lib.hid (Below.refl _ _)⟩
  case round =>
    rename World => wr
    clear hb
    obtain ⟨i, hi, rfl, HD, HBL⟩ := hrel
    have j0 : (0 : Int) ≤ (i : Int) := by omega
    rcases Nat.lt_or_ge i l.length with hin | hin
    · have i0 : decide ((i : Int) < (l.length : Int)) = true := by rw [decide_eq_true_eq]; omega
      have i1 : (i : Int) < (l.length : Int) := by omega
      obtain ⟨g, o, c', hve, d0⟩ := ic_at (HL.out.new HBL.out) hin
      injection hve with e1 _ e3
      subst e1
      have hst : ((l[i] == n) || (l.drop (i + 1)).contains n) = b := by
        rw [← HD.out, List.drop_eq_getElem_cons hin, List.contains_cons, BEq.comm]
      obtain ⟨x, hx⟩ : ∃ x, l[i] = x := ⟨_, rfl⟩
      rw [hx] at d0 hst
      obtain ⟨q, hq⟩ : ∃ q, (x == n) = q := ⟨_, rfl⟩
      rw [hq] at hst
      have HST := Lib.hid hst
      clear hx e3 hst HD
      cases q with
      | true =>
        have hb : b = true := HST.out.symm
        subst hb
        go_wp2_with fail
        go_ret
        exact ⟨by first | rfl | trivial, HBL.out⟩
      | false =>
        go_wp2_with fail
        go_roundw
        case rel => exact ⟨i + 1, by omega, by go_num, HST, HBL⟩
        case measure => simp [intOf]; omega
    · have i0 : decide ((i : Int) < (l.length : Int)) = false := by rw [decide_eq_false_iff_not]; omega
      have hb : b = false := by rw [← HD.out, List.drop_of_length_le (by omega)]; rfl
      subst hb
      go_wp2_with fail
      go_ret
      exact ⟨by first | rfl | trivial, HBL.out⟩
theorem rfC_one (l : List Gw.Rf) : ∀ u ∈ rfC l, u.oneCell' = true := fun u hu => by
  obtain ⟨r, _, hr⟩ := List.mem_flatMap.1 hu
  simp only [rfL, List.mem_cons, List.not_mem_nil, or_false] at hr
  rcases hr with rfl | rfl | rfl <;> rfl
theorem icC_one (l : List Int) : ∀ u ∈ icC l, u.oneCell' = true := fun u hu => by
  obtain ⟨r, _, rfl⟩ := List.mem_map.1 hu
  rfl
set_option maxRecDepth 100000 in
set_option maxHeartbeats 1000000 in
theorem refs19_any (n : NdM) (w : World) (hok : n.Ok w) (hn : n.froms.length ≤ 1050000) :
    Calls Tryz.prog 103 #[.agg #[.int .i64 n.base.kind, .int .i64 n.base.stage, .string (bs n.base.name), n.vf]] w fun e w' => (∃ A c, e = .returned (.slice A (n.froms.length + 1) c) ∧ SlA w' (.slice A (n.froms.length + 1) c) (n.froms.length + 1) (rfC (n.base :: n.froms))) ∧ Below w.heap.size w w' := by
  obtain ⟨⟨kd, sg, nm⟩, vf, fs⟩ := n
  unfold NdM.Ok at hok
  dsimp only at hok hn ⊢
  obtain ⟨As, ks, rfl⟩ := hok.form
  have HOK := Lib.hid hok
  clear hok
  have HK := Lib.hid (Blk.new w 80 #[.int .i64 kd, .int .i64 sg, .string (bs nm), .slice As fs.length ks])
  have HB := Lib.hid ((Below.refl w.heap.size w).alloc (Nat.le_refl _) (.cells #[.int .i64 kd, .int .i64 sg, .string (bs nm), .slice As fs.length ks] 80))
  have a0 : (w.alloc (.cells #[.int .i64 kd, .int .i64 sg, .string (bs nm), .slice As fs.length ks] 80)).cell? ⟨w.heap.size, 0, none⟩ = some (.int .i64 kd) := HK.out.cell 0
  have a1 : (w.alloc (.cells #[.int .i64 kd, .int .i64 sg, .string (bs nm), .slice As fs.length ks] 80)).cell? ⟨w.heap.size, 1, none⟩ = some (.int .i64 sg) := HK.out.cell 1
  have a2 : (w.alloc (.cells #[.int .i64 kd, .int .i64 sg, .string (bs nm), .slice As fs.length ks] 80)).cell? ⟨w.heap.size, 2, none⟩ = some (.string (bs nm)) := HK.out.cell 2
  go_enter Tryz.func103, Tryz.ntmps103
  go_upto_region 2 with fail
  obtain ⟨w1, hw1⟩ : ∃ y, w.alloc (.cells #[.int .i64 kd, .int .i64 sg, .string (bs nm), .slice As fs.length ks] 80) = y := ⟨_, rfl⟩
  rw [hw1] at HK HB a0 a1 a2 ⊢
  clear hw1
  have HZ := Lib.hid HK.out.lt
  go_upto_region 3 with (at_builtin; refine wpList_appk rfl _ _ _ rfl refKl (w.heap.size + 1) _ _ _ rfl (World.ownsRow_nil _ _ _ _) _ _ _ (rfL ⟨kd, sg, nm⟩) rfl rfl (news_at _ _ rfl _ _) (by simp [Value.oneCell', rfL]) (by omega) (by omega) (Below.refl _ _) (by rw [World.size_alloc]; have := HZ.out; omega) ?_; intro v1 w2 ho1 hb1 hg1 hat1)
  have HB2 : Hid (Below (w.heap.size + 1) w1 w2) := Lib.hid ((Below.refl (w.heap.size + 1) w1).alloc HZ.out _ |>.trans hb1)
  have HK2 := Lib.hid ((HK.out.alloc (.cells #[.int .i64 kd, .int .i64 sg, .string (bs nm)] 77)).below hb1 (by omega))
  have HS2 := Lib.hid (HOK.out.new (HB.out.trans (HB2.out.mono (by omega))))
  have HO2 : Hid (w2.ownsRow (w.heap.size + 1) 77 3 v1 1 (rfL ⟨kd, sg, nm⟩)) := Lib.hid (by simpa using ho1)
  obtain ⟨B1, q1, rfl⟩ := ownk_form ho1
  clear ho1 hb1 hg1 hat1 a0 a1 a2
  have b3 : w2.cell? ⟨w.heap.size, 3, none⟩ = some (.slice As fs.length ks) := HK2.out.cell 3
  have hz2 := HB2.out.size
  have hz1 := HZ.out
  go_upto_region 4 with (at_builtin; refine wpList_appS rfl _ _ _ rfl refKl (w.heap.size + 1) _ _ _ rfl HO2.out (.slice As fs.length ks) fs.length (rfC fs) rfl HS2.out (by rw [rfC, flat_len (k := 3) (fun _ => rfl)]) (rfC_one _) (by omega) (by omega) (Below.refl _ _) (by omega) ?_; intro v2 w3 ho2 hb2 hg2 hat2; obtain ⟨B2, q2, rfl⟩ := ownk_form ho2)
  have HO3 : Hid (SlA w3 (.slice B2 (fs.length + 1) q2) (fs.length + 1) (rfC (⟨kd, sg, nm⟩ :: fs))) := Lib.hid (by
    have h := SlA.own ho2
    rw [Nat.add_comm 1] at h
    exact h)
  rw [Nat.add_comm 1]
  have HB3 := Lib.hid ((HB.out.trans (HB2.out.mono (by omega))).trans (hb2.mono (by omega)))
  clear ho2 hb2 hg2 hat2 b3
  go_wp2_with fail
  go_ret
  exact ⟨⟨_, _, rfl, HO3.out⟩, HB3.out⟩
set_option maxRecDepth 100000 in
set_option maxHeartbeats 1000000 in
theorem ready19_any (n : NdM) (dn : List Int) (A : Option Addr) (c : Nat) (w : World) {b : Bool} (hb : Hid (((n.base :: n.froms).all fun r => !(r.kind == 1) || dn.contains r.stage) = b)) (hok : n.Ok w) (hn : n.froms.length ≤ 1050000) (hl : SlA w (.slice A dn.length c) dn.length (icC dn)) (hdn : dn.length ≤ 1050000) :
    Calls Tryz.prog 81 #[.agg #[.int .i64 n.base.kind, .int .i64 n.base.stage, .string (bs n.base.name), n.vf], .slice A dn.length c] w fun e w' => e = .returned (.bool b) ∧ Below w.heap.size w w' := by
  have hrf := fun w1 (h : Below w.heap.size w w1) => refs19_any n w1 (SlA.new hok h) hn
  obtain ⟨⟨kd, sg, nm⟩, vf, fs⟩ := n
  dsimp only at hrf hb hn ⊢
  have HL := Lib.hid hl
  clear hl hok
  have HK := Lib.hid (Blk.new w 80 #[.int .i64 kd, .int .i64 sg, .string (bs nm), vf])
  have HB := Lib.hid ((Below.refl w.heap.size w).alloc (Nat.le_refl _) (.cells #[.int .i64 kd, .int .i64 sg, .string (bs nm), vf] 80))
  have HC := Lib.hid (hrf _ HB.out)
  clear hrf
  obtain ⟨w1, hw1⟩ : ∃ y, w.alloc (.cells #[.int .i64 kd, .int .i64 sg, .string (bs nm), vf] 80) = y := ⟨_, rfl⟩
  rw [hw1] at HK HB HC
  have HW1 := Lib.hid hw1
  clear hw1
  go_enter Tryz.func81, Tryz.ntmps81
  go_upto_region 1 with fail
  rw [HW1.out]
  clear HW1
  have a0 : w1.cell? ⟨w.heap.size, 0, none⟩ = some (.int .i64 kd) := HK.out.cell 0
  have a1 : w1.cell? ⟨w.heap.size, 1, none⟩ = some (.int .i64 sg) := HK.out.cell 1
  have a2 : w1.cell? ⟨w.heap.size, 2, none⟩ = some (.string (bs nm)) := HK.out.cell 2
  have a3 : w1.cell? ⟨w.heap.size, 3, none⟩ = some vf := HK.out.cell 3
  go_wp2_with fail
  refine HC.out.mono ?_
  rintro e w2 ⟨⟨B, k, rfl, hsl⟩, hb2⟩
  have HB2 := Lib.hid (below_of_below HB.out hb2 HB.out.size)
  have HSL : Hid (SlA w2 (.slice B (⟨kd, sg, nm⟩ :: fs : List Gw.Rf).length k) (⟨kd, sg, nm⟩ :: fs : List Gw.Rf).length (rfC (⟨kd, sg, nm⟩ :: fs))) := Lib.hid hsl
  obtain ⟨rs, hrs⟩ : ∃ rs, (⟨kd, sg, nm⟩ :: fs : List Gw.Rf) = rs := ⟨_, rfl⟩
  have hln : fs.length + 1 = rs.length := by rw [← hrs]; rfl
  rw [hrs] at HSL hb
  rw [hln]
  have hln2 : rs.length ≤ 1050001 := by omega
  clear hb2 HC a0 a1 a2 a3 hsl hrs hln
  go_wp2_with fail
  go_loopw [6] (fun t6 wr => ∃ i : Nat, i ≤ rs.length ∧ t6 = .int .i64 (i : Int) ∧ Hid (((rs.drop i).all fun r => !(r.kind == 1) || dn.contains r.stage) = b) ∧ Hid (Below w2.heap.size w2 wr)) (fun t6 _ => rs.length - (intOf t6).toNat)
  case atStart => exact ⟨0, by omega, rfl, hb, Lib.hid (Below.refl _ _)⟩
  case round =>
    rename World => wr
    clear hb
    obtain ⟨i, hi, rfl, HD, HBL⟩ := hrel
    have j0 : (0 : Int) ≤ (i : Int) := by omega
    rcases Nat.lt_or_ge i rs.length with hin | hin
    · have i0 : decide ((i : Int) < (rs.length : Int)) = true := by rw [decide_eq_true_eq]; omega
      have i1 : (i : Int) < (rs.length : Int) := by omega
      obtain ⟨g, o, c', hve, d0, d1, d2⟩ := rf_at (HSL.out.new HBL.out) hin
      injection hve with e1 _ e3
      subst e1
      have hst : ((!(rs[i].kind == 1) || dn.contains rs[i].stage) && (rs.drop (i + 1)).all fun r => !(r.kind == 1) || dn.contains r.stage) = b := by
        rw [← HD.out, List.drop_eq_getElem_cons hin, List.all_cons]
      obtain ⟨x, hx⟩ : ∃ x, rs[i] = x := ⟨_, rfl⟩
      rw [hx] at d0 d1 d2 hst
      obtain ⟨q, hq⟩ : ∃ q, (x.kind == 1) = q := ⟨_, rfl⟩
      obtain ⟨p, hp⟩ : ∃ p, Hid (dn.contains x.stage = p) := ⟨_, Lib.hid rfl⟩
      rw [hq, hp.out] at hst
      have HST := Lib.hid hst
      have HCH := Lib.hid (fun w5 (h5 : Below w2.heap.size w2 w5) => has_any dn x.stage A c w5 hp (HL.out.new (below_of_below HB2.out h5 HB2.out.size)) (by omega))
      clear hx e3 hst HD hp
      cases q with
      | true =>
        go_upto_region 5 with fail
        go_cut [30] (fun s30 wx => s30 = .bool (!p) ∧ Hid (Below w2.heap.size w2 wx))
        case first =>
          go_wp2_with (go_at_call 80; refine (HCH.out _ (by first | exact HBL.out | exact below_drewN HBL.out _)).mono ?_; rintro e w5 ⟨rfl, hb5⟩)
          go_meet
          exact ⟨by first | rfl | trivial, Lib.hid (below_of_below HBL.out hb5 HBL.out.size)⟩
        case rest =>
          rename World => wz
          obtain ⟨rfl, HB5⟩ := hcut
          clear d0 d1 d2
          cases p with
          | true =>
            go_wp2_with fail
            go_roundw
            case rel => exact ⟨i + 1, by omega, by go_num, HST, HB5⟩
            case measure => simp [intOf]; omega
          | false =>
            have hb : b = false := HST.out.symm
            subst hb
            go_wp2_with fail
            go_ret
            exact ⟨by first | rfl | trivial, below_of_below HB2.out HB5.out HB2.out.size⟩
      | false =>
        go_wp2_with fail
        go_roundw
        case rel => exact ⟨i + 1, by omega, by go_num, Lib.hid (by have h := HST.out; simpa using h), HBL⟩
        case measure => simp [intOf]; omega
    · have i0 : decide ((i : Int) < (rs.length : Int)) = false := by rw [decide_eq_false_iff_not]; omega
      have hb : b = true := by rw [← HD.out, List.drop_of_length_le (by omega)]; rfl
      subst hb
      go_wp2_with fail
      go_ret
      exact ⟨by first | rfl | trivial, below_of_below HB2.out HBL.out HB2.out.size⟩
end Go.Proofs.YtnlkmljdcmfogaaGreatDoor
namespace Go.Proofs.YtnlkmljdcmfogaaGreatDoor
open Go Go.RowKit
namespace Gw
theorem sorted_ext : ∀ {a b : List Int}, a.Pairwise (· < ·) → b.Pairwise (· < ·) → (∀ x, x ∈ a ↔ x ∈ b) → a = b
  | [], [], _, _, _ => rfl
  | [], y :: b, _, _, h => absurd ((h y).2 (List.mem_cons_self ..)) (by simp)
  | x :: a, [], _, _, h => absurd ((h x).1 (List.mem_cons_self ..)) (by simp)
  | x :: a, y :: b, ha, hb, h => by
    obtain ⟨ha1, ha2⟩ := List.pairwise_cons.1 ha
    obtain ⟨hb1, hb2⟩ := List.pairwise_cons.1 hb
    have hxy : x = y := by
      rcases List.mem_cons.1 ((h x).1 (List.mem_cons_self ..)) with e | e
      · exact e
      · rcases List.mem_cons.1 ((h y).2 (List.mem_cons_self ..)) with e2 | e2
        · exact e2.symm
        · have := ha1 _ e2; have := hb1 _ e; omega
    subst hxy
    rw [sorted_ext ha2 hb2 fun z => ?_]
    constructor
    · intro hz
      rcases List.mem_cons.1 ((h z).1 (List.mem_cons_of_mem _ hz)) with e | e
      · have := ha1 _ hz; omega
      · exact e
    · intro hz
      rcases List.mem_cons.1 ((h z).2 (List.mem_cons_of_mem _ hz)) with e | e
      · have := hb1 _ hz; omega
      · exact e
theorem comp_up (zs : List Int) (hs : zs.Pairwise (· ≤ ·)) : ∀ m, m ≤ zs.length → (Go.Lib.compactUpTo zs.toArray m).Pairwise (· < ·) ∧ ∀ x, x ∈ Go.Lib.compactUpTo zs.toArray m ↔ x ∈ zs.take m
  | 0, _ => by
    constructor
    · exact List.Pairwise.nil
    · intro x; rw [List.take_zero]; exact Iff.rfl
  | m + 1, h => by
    obtain ⟨h1, h2⟩ := comp_up zs hs m (by omega)
    have hm : m < zs.length := by omega
    have e : zs.toArray[m]! = zs[m] := by simp [hm]
    rw [Go.Lib.compactUpTo_succ, List.take_add_one, List.getElem?_eq_getElem hm]
    cases hk : Go.Lib.keeps zs.toArray m with
    | true =>
      rw [if_pos rfl, e]
      refine ⟨List.pairwise_append.2 ⟨h1, List.pairwise_singleton _ _, fun a ha b hb => ?_⟩, fun x => ?_⟩
      · rw [List.mem_singleton] at hb
        subst hb
        rw [h2] at ha
        obtain ⟨k, hk1, hk2⟩ := List.getElem_of_mem ha
        rw [List.length_take] at hk1
        rw [List.getElem_take] at hk2
        subst hk2
        unfold Go.Lib.keeps at hk
        rw [decide_eq_true_eq] at hk
        have hm1 : m - 1 < zs.length := by omega
        have e1 : zs.toArray[m - 1]! = zs[m - 1] := by simp [hm1]
        rw [e, e1] at hk
        have q := List.pairwise_iff_getElem.1 hs
        have q1 : zs[k] ≤ zs[m - 1] := by
          rcases Nat.lt_or_ge k (m - 1) with hlt | hge
          · exact q k (m - 1) (by omega) hm1 hlt
          · have : k = m - 1 := by omega
            subst this
            exact Int.le_refl _
        have q2 : zs[m - 1] ≤ zs[m] := q (m - 1) m hm1 hm (by omega)
        have q3 : ¬ zs[m] = zs[m - 1] := by
          rcases hk with h0 | h0
          · omega
          · exact h0
        omega
      · rw [List.mem_append, List.mem_append, h2]
        simp
    | false =>
      rw [if_neg (by decide), List.append_nil]
      refine ⟨h1, fun x => ?_⟩
      rw [h2, List.mem_append]
      unfold Go.Lib.keeps at hk
      rw [decide_eq_false_iff_not, not_or] at hk
      obtain ⟨hk0, hk⟩ := hk
      have hm1 : m - 1 < zs.length := by omega
      have e1 : zs.toArray[m - 1]! = zs[m - 1] := by simp [hm1]
      rw [e, e1] at hk
      have hk := Decidable.of_not_not hk
      constructor
      · exact .inl
      · rintro (h | h)
        · exact h
        · have : x = zs[m] := by simpa using h
          rw [this, hk]
          exact List.mem_take_iff_getElem.2 ⟨m - 1, by omega, rfl⟩
/-- what the program begins with is what is needed. -/
theorem rest_sorted (ns : List Nd) (need : List Int) : Go.Lib.compact ((need.filter fun n => !(decide (n < 0) || decide ((ns.length : Int) ≤ n))).mergeSort fun x y => decide (x ≤ y)) = (rest ns need []).map (fun i : Nat => (i : Int)) := by
  have hs := List.pairwise_mergeSort (le := fun x y : Int => decide (x ≤ y)) (by intro a b c; simp; omega) (by intro a b; simp; omega) (need.filter fun n => !(decide (n < 0) || decide ((ns.length : Int) ≤ n)))
  have hp := List.mergeSort_perm (need.filter fun n => !(decide (n < 0) || decide ((ns.length : Int) ≤ n))) (fun x y => decide (x ≤ y))
  generalize (need.filter fun n => !(decide (n < 0) || decide ((ns.length : Int) ≤ n))).mergeSort (fun x y => decide (x ≤ y)) = zs at hs hp
  have hs' : zs.Pairwise (· ≤ ·) := hs.imp (by intro a b h; simpa using h)
  obtain ⟨h1, h2⟩ := comp_up zs hs' zs.length (Nat.le_refl _)
  refine sorted_ext h1 ?_ fun x => ?_
  · rw [List.pairwise_map]
    refine List.Pairwise.imp (R := (· < ·)) (fun h => by omega) ?_
    exact List.Pairwise.sublist List.filter_sublist List.pairwise_lt_range
  · rw [show Go.Lib.compact zs = Go.Lib.compactUpTo zs.toArray zs.length from rfl, h2, List.take_length, hp.mem_iff, List.mem_filter, List.mem_map]
    constructor
    · rintro ⟨h3, h4⟩
      simp only [Bool.not_eq_true', Bool.or_eq_false_iff, decide_eq_false_iff_not] at h4
      refine ⟨x.toNat, rest_mem.2 ⟨by omega, ?_, rfl⟩, by omega⟩
      rw [List.contains_iff_mem, show ((x.toNat : Nat) : Int) = x by omega]
      exact h3
    · rintro ⟨i, hi, rfl⟩
      obtain ⟨h3, h4, _⟩ := rest_mem.1 hi
      refine ⟨List.contains_iff_mem.1 h4, ?_⟩
      simp only [Bool.not_eq_true', Bool.or_eq_false_iff, decide_eq_false_iff_not]
      omega
end Gw
end Go.Proofs.YtnlkmljdcmfogaaGreatDoor
