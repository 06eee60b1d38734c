/- stratalaw14.alike, walked where two lists are alike. -/
import Derived.Test.YtpgnfianffjpnaaGreatDoorLyF
namespace Go.Proofs.YtpgnfianffjpnaaGreatDoor
open Go Go.RowKit
theorem lk_at {la lb : List Lx.Ln} (h : la.map Lx.lk = lb.map Lx.lk) (i : Nat) (ha : i < la.length) (hb : i < lb.length) : lb[i].text = la[i].text ∧ la[i].docs.map Lx.dk = lb[i].docs.map Lx.dk := by
  have e := congrArg (fun l => l[i]?) h
  simp only [List.getElem?_map, List.getElem?_eq_getElem ha, List.getElem?_eq_getElem hb, Option.map_some] at e
  injection e with e
  unfold Lx.lk at e
  injection e with e1 e2
  exact ⟨e1.symm, e2⟩
theorem dk_at {la lb : List Lx.Dc} (h : la.map Lx.dk = lb.map Lx.dk) (i : Nat) (ha : i < la.length) (hb : i < lb.length) : lb[i].name = la[i].name ∧ lb[i].raw = la[i].raw ∧ lb[i].text = la[i].text := by
  have e := congrArg (fun l => l[i]?) h
  simp only [List.getElem?_map, List.getElem?_eq_getElem ha, List.getElem?_eq_getElem hb, Option.map_some] at e
  injection e with e
  unfold Lx.dk at e
  injection e with e1 e2
  injection e2 with e2 e3
  exact ⟨e1.symm, e2.symm, e3.symm⟩
set_option maxRecDepth 100000 in
set_option maxHeartbeats 4000000 in
theorem alike_any (w : World) {va vb : Value} {la lb : List Lx.Ln} (ha : LsRd w va la) (hb : LsRd w vb lb) (hE : la.map Lx.lk = lb.map Lx.lk) (hn : la.length ≤ 1000000) (hd : ∀ l ∈ la, l.docs.length ≤ 1000000) :
    Calls Tryz.prog 25 #[va, vb] w fun e w' => e = .returned (.bool true) ∧ Below w.heap.size w w' := by
  obtain ⟨A, ca, rfl⟩ := ha.form
  obtain ⟨B, cb, rfl⟩ := hb.form
  have hlen : lb.length = la.length := by
    have := congrArg List.length hE
    simpa using this.symm
  rw [hlen] at hb
  rw [hlen]
  obtain ⟨N, hN⟩ : ∃ N, la.length = N := ⟨_, rfl⟩
  have HLB : Hid (lb.length = N) := Lib.hid (hlen.trans hN)
  rw [hN] at ha hb hn
  rw [hN]
  have HA := Lib.hid ha
  have HB := Lib.hid hb
  have HE := Lib.hid hE
  have HN := Lib.hid hN
  have HD := Lib.hid hd
  clear ha hb hE hlen hN hd
  go_enter Tryz.func25, Tryz.ntmps25
  go_wp2_with fail
  go_loopw [5, 6, 7, 8] (fun t5 _ _ _ wr => ∃ i : Nat, i ≤ N ∧ t5 = .int .i64 (i : Int) ∧ Hid (Below w.heap.size w wr)) (fun t5 _ _ _ _ => N - (intOf t5).toNat)
  case atStart => exact ⟨0, by omega, rfl, Lib.hid (Below.refl _ _)⟩
  case round =>
    obtain ⟨i, hi, rfl, HBL⟩ := hrel
    have j0 : (0 : Int) ≤ (i : Int) := by omega
    rcases Nat.lt_or_ge i N with hin | hin
    · have i0 : decide ((i : Int) < (N : Int)) = true := by rw [decide_eq_true_eq]; omega
      have i1 : (i : Int) < (N : Int) := by omega
      have hia : i < la.length := by rw [HN.out]; exact hin
      have hib : i < lb.length := by rw [HLB.out]; exact hin
      obtain ⟨b, o, vm, Ad, cd, rfl, -, h1, -, h3, -, h5⟩ := (HA.out.new HBL.out).at i hia
      obtain ⟨b', o', vm', Ad', cd', rfl, -, q1, -, q3, -, q5⟩ := (HB.out.new HBL.out).at i hib
      obtain ⟨e1, e2⟩ := lk_at HE.out i hia hib
      obtain ⟨x, hx⟩ : ∃ x, la[i] = x := ⟨_, rfl⟩
      obtain ⟨y, hy⟩ : ∃ y, lb[i] = y := ⟨_, rfl⟩
      have hdl := HD.out x (by rw [← hx]; exact List.getElem_mem hia)
      rw [hx, hy] at e1 e2
      rw [hx] at h1 h3 h5
      rw [hy] at q1 q3 q5
      have hlen : y.docs.length = x.docs.length := by
        have := congrArg List.length e2
        simpa using this.symm
      rw [e1] at q1
      rw [hlen] at q3
      obtain ⟨M, hM⟩ : ∃ M, x.docs.length = M := ⟨_, rfl⟩
      have HM := Lib.hid hM
      have HMY : Hid (y.docs.length = M) := Lib.hid (hlen.trans hM)
      rw [hM] at h3 hdl
      rw [hM] at q3
      have HDX := Lib.hid h5
      have HDY := Lib.hid q5
      have HEQ := Lib.hid e2
      have H3 := Lib.hid h3
      have Q3 := Lib.hid q3
      clear h5 q5 e1 e2 hx hy hlen hM hia hib
      go_upto_region 6 with fail
      go_cut [45] (fun s45 wx => s45 = .bool false ∧ ∃ n, wx = wr.drewN n)
      case first =>
        go_quiet (fail)
        go_wp2_with fail
        go_meet
        exact ⟨by first | rfl | trivial, _, rfl⟩
      case rest =>
        obtain ⟨rfl, nn, hwx⟩ := hcut
        rw [hwx]
        clear hwx
        have hBn := below_drewN HBL.out nn
        have hBr := below_drewN (Below.refl wr.heap.size wr) nn
        obtain ⟨wd, hwd⟩ : ∃ wd, wr.drewN nn = wd := ⟨_, rfl⟩
        rw [hwd] at hBn hBr
        rw [hwd]
        have HBN := Lib.hid hBn
        have HDX2 := Lib.hid (HDX.out.new hBr)
        have HDY2 := Lib.hid (HDY.out.new hBr)
        have H32 := Lib.hid (cell_new hBr H3.out)
        have Q32 := Lib.hid (cell_new hBr Q3.out)
        clear hwd hBn hBr h1 h3 q1 q3 HDX HDY H3 Q3 HBL
        go_wp2_with fail
        go_loopw [6, 7, 8] (fun t6 _ _ wr => ∃ k : Nat, k ≤ M ∧ t6 = .int .i64 (k : Int) ∧ Hid (Below wd.heap.size wd wr)) (fun t6 _ _ _ => M - (intOf t6).toNat)
        case atStart => exact ⟨0, by omega, rfl, Lib.hid (Below.refl _ _)⟩
        case round =>
          rename World => ws
          obtain ⟨k, hk, rfl, HBK⟩ := hrel
          have k0 : (0 : Int) ≤ (k : Int) := by omega
          have h3 := cell_new HBK.out H32.out
          have q3 := cell_new HBK.out Q32.out
          rcases Nat.lt_or_ge k M with hkn | hkn
          · have m0 : decide ((k : Int) < (M : Int)) = true := by rw [decide_eq_true_eq]; omega
            have m1 : (k : Int) < (M : Int) := by omega
            have hkx : k < x.docs.length := by rw [HM.out]; exact hkn
            have hky : k < y.docs.length := by rw [HMY.out]; exact hkn
            obtain ⟨g, p, cc, hve, d0, d1, d2, d3⟩ := (HDX2.out.new HBK.out).doc k hkx
            injection hve with f1 _ f3
            subst f1
            obtain ⟨g', p', cc', hve, r0, r1, r2, r3⟩ := (HDY2.out.new HBK.out).doc k hky
            injection hve with f1 _ f4
            subst f1
            obtain ⟨z1, z2, z3⟩ := dk_at HEQ.out k hkx hky
            rw [z1] at r0
            rw [z2] at r1
            rw [z3] at r3
            obtain ⟨dx, hdx⟩ : ∃ d, x.docs[k] = d := ⟨_, rfl⟩
            obtain ⟨ly, hly⟩ : ∃ d, y.docs[k].line = d := ⟨_, rfl⟩
            rw [hdx] at d0 d1 d2 d3 r0 r1 r3
            rw [hly] at r2
            have hs1 := World.block_lt_of_cell? ws _ d0
            have hs2 := World.block_lt_of_cell? ws _ r0
            have hB1 := (Below.refl ws.heap.size ws).alloc (Nat.le_refl _) (.cells #[.string (bs dx.name), .bool dx.raw, .int .i64 dx.line, .string (bs dx.text)] 83)
            have hK1 := Blk.new ws 83 #[.string (bs dx.name), .bool dx.raw, .int .i64 dx.line, .string (bs dx.text)]
            have hB2 := hB1.alloc hB1.size (.cells #[.string (bs dx.name), .bool dx.raw, .int .i64 ly, .string (bs dx.text)] 83)
            have hK2 := Blk.new (ws.alloc (.cells #[.string (bs dx.name), .bool dx.raw, .int .i64 dx.line, .string (bs dx.text)] 83)) 83 #[.string (bs dx.name), .bool dx.raw, .int .i64 ly, .string (bs dx.text)]
            have hK1' := hK1.alloc (.cells #[.string (bs dx.name), .bool dx.raw, .int .i64 ly, .string (bs dx.text)] 83)
            rw [World.size_alloc] at hK2
            obtain ⟨w5, hw5⟩ : ∃ w5, ws.alloc (.cells #[.string (bs dx.name), .bool dx.raw, .int .i64 dx.line, .string (bs dx.text)] 83) = w5 := ⟨_, rfl⟩
            rw [hw5] at hB1 hB2 hK1' hK2
            obtain ⟨w6, hw6⟩ : ∃ w6, w5.alloc (.cells #[.string (bs dx.name), .bool dx.raw, .int .i64 ly, .string (bs dx.text)] 83) = w6 := ⟨_, rfl⟩
            rw [hw6] at hB2 hK1' hK2
            have hz5 : w5.heap.size = ws.heap.size + 1 := by rw [← hw5]; simp
            have HW5 := Lib.hid hw5
            have HW6 := Lib.hid hw6
            have HZ5 := Lib.hid hz5
            have h35 := cell_new hB1 h3
            have q35 := cell_new hB1 q3
            have r05 := cell_new hB1 r0
            have r15 := cell_new hB1 r1
            have r25 := cell_new hB1 r2
            have r35 := cell_new hB1 r3
            have HK1 := Lib.hid hK1'
            have HK2 := Lib.hid hK2
            have HB2 := Lib.hid hB2
            clear z1 z2 z3 hdx hly f3 f4 hs1 hs2 hB1 hK1 hB2 hK2 hK1' hw5 hw6 hz5 hkx hky
            go_upto_region 12 with fail
            rw [HW5.out]
            clear h3 q3 d0 d1 d2 d3 r0 r1 r2 r3
            go_upto_region 13 with fail
            rw [HW6.out]
            try rw [HZ5.out]
            clear h35 q35 r05 r15 r25 r35
            have s0 : w6.cell? ⟨ws.heap.size, 0, none⟩ = some (.string (bs dx.name)) := HK1.out.cell 0
            have s1 : w6.cell? ⟨ws.heap.size, 1, none⟩ = some (.bool dx.raw) := HK1.out.cell 1
            have s3 : w6.cell? ⟨ws.heap.size, 3, none⟩ = some (.string (bs dx.text)) := HK1.out.cell 3
            have u0 : w6.cell? ⟨ws.heap.size + 1, 0, none⟩ = some (.string (bs dx.name)) := HK2.out.cell 0
            have u1 : w6.cell? ⟨ws.heap.size + 1, 1, none⟩ = some (.bool dx.raw) := HK2.out.cell 1
            have u3 : w6.cell? ⟨ws.heap.size + 1, 3, none⟩ = some (.string (bs dx.text)) := HK2.out.cell 3
            have HBF := Lib.hid (below_of_below HBK.out HB2.out HBK.out.size)
            clear HK1 HK2 HB2
            go_wp2_with fail
            go_roundw
            case rel => exact ⟨k + 1, by omega, by go_num, HBF⟩
            case measure => simp [intOf]; omega
          · have m0 : decide ((k : Int) < (M : Int)) = false := by rw [decide_eq_false_iff_not]; omega
            have HBF := Lib.hid (below_of_below HBN.out HBK.out HBN.out.size)
            go_wp2_with fail
            go_roundw
            case rel => exact ⟨i + 1, by omega, by go_num, HBF⟩
            case measure => simp [intOf]; omega
    · have i0 : decide ((i : Int) < (N : Int)) = false := by rw [decide_eq_false_iff_not]; omega
      go_wp2_with fail
      go_ret
      exact ⟨by first | rfl | trivial, HBL.out⟩
end Go.Proofs.YtpgnfianffjpnaaGreatDoor
