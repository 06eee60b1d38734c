/- glob.takesAll, walked. -/
import Derived.Test.YtdjfakampjbgeaaGreatDoorGbV
namespace Go.Proofs.YtdjfakampjbgeaaGreatDoor
open Go.RowKit

/-- a row of pieces, read. -/
theorem RP.at_ {w : World} {S : Nat → Prop} {vp : Value} {ps : List Gl.Pc} (h : RP w S vp ps) {j : Nat} (hj : j < ps.length) : ∃ g o c vm, vp = .slice (some ⟨g, o, none⟩) ps.length c ∧ w.cell? ⟨g, o + j * 2, none⟩ = some (.bool ps[j].deep) ∧ w.cell? ⟨g, o + j * 2 + 1, none⟩ = some vm ∧ RM w S vm ps[j].marks := by
  obtain ⟨cs, ⟨A, c, rfl, hc⟩, hm⟩ := h
  obtain ⟨vm, c0, c1, k1⟩ := hm.at_ j hj
  obtain ⟨g, o, rfl, _, d0⟩ := hc _ _ c0
  obtain ⟨g', o', e, _, d⟩ := hc _ _ c1
  injection e with e
  injection e with e1 e2
  subst e1 e2
  exact ⟨g, o, c, vm, rfl, d0, by rw [Nat.add_assoc]; exact d, k1⟩
theorem RP.below {w wr : World} {S : Nat → Prop} {vp : Value} {ps : List Gl.Pc} (h : RP w S vp ps) (hb : Below w.heap.size w wr) : RP wr S vp ps := h.keep (fun g hs hl => ⟨hb.block g hl, hs⟩)
theorem RP.form {w : World} {S : Nat → Prop} {vp : Value} {ps : List Gl.Pc} (h : RP w S vp ps) : ∃ A c, vp = .slice A ps.length c := by
  obtain ⟨cs, ⟨A, c, e, _⟩, _⟩ := h
  exact ⟨A, c, e⟩
theorem RM.drew {w : World} {S : Nat → Prop} {vm : Value} {ms : List Gl.Mk} (h : RM w S vm ms) : RM w.drew S vm ms := h.keep (fun _ hs _ => ⟨rfl, hs⟩)
/-- a row of texts. -/
theorem RC.below {w wr : World} {S : Nat → Prop} {v : Value} {n : Nat} {cs : List Value} (h : RC w S v n cs) (hb : Below w.heap.size w wr) : RC wr S v n cs := h.keep (fun g hs hl => ⟨hb.block g hl, hs⟩)
theorem RC.str {w : World} {S : Nat → Prop} {v : Value} {l : List (List UInt8)} (h : RC w S v l.length (sc l)) {j : Nat} (hj : j < l.length) : ∃ g o c, v = .slice (some ⟨g, o, none⟩) l.length c ∧ w.cell? ⟨g, o + j, none⟩ = some (.string (bs l[j])) := by
  obtain ⟨A, c, rfl, hc⟩ := h
  obtain ⟨g, o, rfl, _, d⟩ := hc j (.string (bs l[j])) (by simp [sc, hj])
  exact ⟨g, o, c, rfl, d⟩
theorem RC.form {w : World} {S : Nat → Prop} {v : Value} {n : Nat} {cs : List Value} (h : RC w S v n cs) : ∃ A c, v = .slice A n c := by
  obtain ⟨A, c, e, _⟩ := h
  exact ⟨A, c, e⟩
/-- what bounds a pattern. -/
def PcB (ps : List Gl.Pc) : Prop := ∀ p ∈ ps, p.marks.length ≤ 2000000 ∧ ∀ m ∈ p.marks, m.fr.length ≤ 1000000000
theorem takesName_at (ms : List Gl.Mk) (s : List UInt8) (vm : Value) (w : World) {S : Nat → Prop} (hm : RM w S vm ms) (hl : ms.length ≤ 2000000) (hs : s.length ≤ 2000000) (hf : ∀ m ∈ ms, m.fr.length ≤ 1000000000) :
    Calls Tryz.prog 78 #[vm, .string (bs s)] w fun e w' => e = .returned (.bool (Gl.takesName ms s)) ∧ Below w.heap.size w w' := by
  have := takesName_any ms (bs s) vm w hm hl (by rw [bs_size]; exact hs) hf
  rwa [bl_bs] at this
set_option maxRecDepth 100000 in
set_option maxHeartbeats 4000000 in
theorem takesAll_any (ps : List Gl.Pc) (l : List (List UInt8)) (vp vl : Value) (w : World) {S S2 : Nat → Prop} (hp : RP w S vp ps) (hq : RC w S2 vl l.length (sc l)) (hl : ps.length ≤ 2000000) (hs : l.length ≤ 10000000) (hf : PcB ps) (hg : ∀ x ∈ l, x.length ≤ 2000000) :
    Calls Tryz.prog 54 #[vp, vl] w fun e w' => e = .returned (.bool (Gl.takesAll ps l)) ∧ Below w.heap.size w w' := by
  obtain ⟨A, cc, rfl⟩ := hp.form
  obtain ⟨A2, cc2, rfl⟩ := hq.form
  have HM := Lib.hid hp
  have HQ := Lib.hid hq
  have HF := Lib.hid hf
  have HG0 := Lib.hid hg
  clear hp hq hf hg
  obtain ⟨res, hres⟩ : ∃ res, Hid (Gl.takesAll ps l = res) := ⟨_, rfl⟩
  have hG0 : Hid (Gm.GI Gl.Pc.deep (fun p s => Gl.takesName p.marks s) ps l res 0 none 0 0) := by rw [← hres.out]; exact Gm.GI.start
  go_enter Tryz.func54, Tryz.ntmps54
  go_wp2_with fail
  go_step3
  go_wp2_with fail
  go_step3
  go_wp2_with fail
  go_loopw [5, 6, 7, 8] (fun t5 t6 t7 t8 wr => ∃ (a b i : Nat) (star : Option Nat), t5 = .int .i64 (a : Int) ∧ t6 = .int .i64 (starI star) ∧ t7 = .int .i64 (b : Int) ∧ t8 = .int .i64 (i : Int) ∧ Hid (Gm.GI Gl.Pc.deep (fun p s => Gl.takesName p.marks s) ps l res a star b i) ∧ b ≤ i ∧ a ≤ ps.length ∧ i ≤ l.length ∧ Below w.heap.size w wr) (fun _ t6 t7 t8 _ => Gl.meas ps.length l.length (intOf t6 + 1).toNat (intOf t7).toNat (intOf t8).toNat)
  case atStart => exact ⟨0, 0, 0, none, rfl, rfl, rfl, rfl, hG0, by omega, by omega, by omega, Below.refl _ _⟩
  case round =>
    clear hG0
    obtain ⟨a, b, i, star, rfl, rfl, rfl, rfl, HG, hbi, ha, hi, hB⟩ := hrel
    have j0 : (0 : Int) ≤ (a : Int) := by omega
    have j1 : (0 : Int) ≤ (i : Int) := by omega
    rcases Nat.lt_or_ge i l.length with his | his
    · have i0 : decide ((i : Int) < (l.length : Int)) = true := by rw [decide_eq_true_eq]; omega
      have i1 : (i : Int) < (l.length : Int) := by omega
      have his2 : i < l.length := his
      rcases Nat.lt_or_ge a ps.length with ham | ham
      · have i2 : decide ((a : Int) < (ps.length : Int)) = true := by rw [decide_eq_true_eq]; omega
        have i3 : (a : Int) < (ps.length : Int) := by omega
        have hM := HM.out.below hB
        obtain ⟨g, o, c, vm, hvm, c0, c1, hRm⟩ := hM.at_ ham
        obtain ⟨hA, hcc⟩ : A = some ⟨g, o, none⟩ ∧ cc = c := by injection hvm with e1 _ e3; exact ⟨e1, e3⟩
        subst hA hcc
        have hQ := HQ.out.below hB
        obtain ⟨g2, o2, c2, hvl, d0⟩ := hQ.str his
        obtain ⟨hA2, hcc2⟩ : A2 = some ⟨g2, o2, none⟩ ∧ cc2 = c2 := by injection hvl with e1 _ e3; exact ⟨e1, e3⟩
        subst hA2 hcc2
        clear hvm hM hvl hQ
        by_cases hany : ps[a].deep = true
        · rw [hany] at c0
          have HG2 := Lib.hid (HG.out.star_ ham hany)
          have hst := (GI_star HG.out).1
          clear HG
          go_wp2_with fail
          go_roundw
          case rel => exact ⟨a + 1, i, i, some a, by go_num, rfl, rfl, by go_num, HG2, Nat.le_refl _, by omega, hi, hB⟩
          case measure =>
            simp only [int_nat1, int_nat, int_star]
            exact Gl.meas_star (by omega) (by omega)
        · have hany' : ps[a].deep = false := by simpa using hany
          have hany2 := Lib.hid hany'
          rw [hany'] at c0
          clear hany hany'
          go_upto_region 9 with fail
          go_cut [47] (fun s45 wx => s45 = .bool (Gl.takesName ps[a].marks l[i]) ∧ Below wr.heap.size wr wx)
          case first =>
            clear HG
            have hlt : g < wr.heap.size := World.block_lt_of_cell? wr _ c0
            have hlt2 : g2 < wr.heap.size := World.block_lt_of_cell? wr _ d0
            go_region_held3 (fun w' => w'.cell? ⟨g, o + a * 2 + 1, none⟩ = some vm ∧ w'.cell? ⟨g2, o2 + i, none⟩ = some (.string (bs l[i]))) (exact ⟨c1, d0⟩) ((go_at_call 78; refine (takesName_at ps[a].marks l[i] vm _ (S := S) (by first | exact hRm | exact hRm.drew) (HF.out _ (List.getElem_mem ham)).1 (HG0.out _ (List.getElem_mem his)) (HF.out _ (List.getElem_mem ham)).2).mono ?_; rintro e w1 ⟨rfl, hb0⟩; have c1 := (hb0.cell (p := ⟨g, o + a * 2 + 1, none⟩) hlt).trans c1; have d0 := (hb0.cell (p := ⟨g2, o2 + i, none⟩) hlt2).trans d0; have BX := below_of_below (by first | exact Below.refl wr.heap.size wr | exact (Below.refl wr.heap.size wr).drew) hb0 (by first | exact Nat.le_refl _ | rfl)))
            go_wp2_with fail
            go_meet
            exact ⟨rfl, BX⟩
          case rest =>
            obtain ⟨h45, bx⟩ := hcut
            have hB2 := below_of_below hB bx hB.size
            clear bx hB
            cases htk : Gl.takesName ps[a].marks l[i] with
            | true =>
              rw [htk] at h45
              subst h45
              have HG2 := Lib.hid (HG.out.take ham his2 hany2.out htk)
              clear HG htk
              go_wp2_with fail
              go_roundw
              case rel => exact ⟨a + 1, b, i + 1, star, by go_num, rfl, rfl, by go_num, HG2, by omega, by omega, by omega, hB2⟩
              case measure =>
                simp only [int_succ, int_nat, int_star]
                exact Gl.meas_take (by omega) (by omega)
            | false =>
              rw [htk] at h45
              subst h45
              have HTK := Lib.hid htk
              clear htk
              rcases star with _ | t
              · rw [show starI none = -1 from rfl]
                have HRES := Lib.hid (HG.out.none_ his2 (.inr ⟨ham, hany2.out, HTK.out⟩))
                clear HG
                have t11 : decide ((-1 : Int) < 0) = true := rfl
                go_wp2_with fail
                rw [Exit.noGoto_ret]
                go_ret
                exact ⟨by rw [hres.out, HRES.out]; rfl, hB2⟩
              · rw [show starI (some t) = (t : Int) from rfl]
                have HG2 := Lib.hid (HG.out.back_ his2 (.inr ⟨ham, hany2.out, HTK.out⟩))
                have hst := GI_star HG2.out
                have t11 : decide ((t : Int) < 0) = false := by rw [decide_eq_false_iff_not]; omega
                clear HG
                go_wp2_with fail
                go_roundw
                case rel => exact ⟨t + 1, b + 1, b + 1, some t, by go_num, rfl, by go_num, by go_num, HG2, Nat.le_refl _, hst.2.1, by have := hst.2.2; omega, hB2⟩
                case measure =>
                  simp only [int_nat1, int_succ, int_nat]
                  exact Gl.meas_back (by omega) (by omega)
      · have i2 : decide ((a : Int) < (ps.length : Int)) = false := by rw [decide_eq_false_iff_not]; omega
        go_upto_region 9 with fail
        go_cut [47] (fun s45 wx => s45 = .bool false ∧ Below wr.heap.size wr wx)
        case first =>
          clear HG
          have BX := Below.refl wr.heap.size wr
          go_quiet (fail)
          go_wp2_with fail
          go_meet
          exact ⟨rfl, by first | exact BX | exact below_drewN BX _⟩
        case rest =>
          obtain ⟨rfl, bx⟩ := hcut
          have hB2 := below_of_below hB bx hB.size
          clear bx hB
          rcases star with _ | t
          · rw [show starI none = -1 from rfl]
            have HRES := Lib.hid (HG.out.none_ his2 (.inl (by omega)))
            clear HG
            have t11 : decide ((-1 : Int) < 0) = true := rfl
            go_wp2_with fail
            rw [Exit.noGoto_ret]
            go_ret
            exact ⟨by rw [hres.out, HRES.out]; rfl, hB2⟩
          · rw [show starI (some t) = (t : Int) from rfl]
            have HG2 := Lib.hid (HG.out.back_ his2 (.inl (by omega)))
            have hst := GI_star HG2.out
            have t11 : decide ((t : Int) < 0) = false := by rw [decide_eq_false_iff_not]; omega
            clear HG
            go_wp2_with fail
            go_roundw
            case rel => exact ⟨t + 1, b + 1, b + 1, some t, by go_num, rfl, by go_num, by go_num, HG2, Nat.le_refl _, hst.2.1, by have := hst.2.2; omega, hB2⟩
            case measure =>
              simp only [int_nat1, int_succ, int_nat]
              exact Gl.meas_back (by omega) (by omega)
    · have i0 : decide ((i : Int) < (l.length : Int)) = false := by rw [decide_eq_false_iff_not]; omega
      have hEND : Hid (res = (ps.drop a).all Gl.Pc.deep) := by
        have e : i = (l).length := by omega
        have := HG.out
        rw [e] at this
        exact this.end_
      clear HG
      go_wp2_with fail
      go_loopw [5] (fun t5 wx => ∃ a : Nat, t5 = .int .i64 (a : Int) ∧ Hid (res = (ps.drop a).all Gl.Pc.deep) ∧ a ≤ ps.length ∧ wx = wr) (fun t5 _ => ps.length - (intOf t5).toNat)
      case atStart => exact ⟨a, rfl, hEND, ha, rfl⟩
      case round =>
        clear hEND
        obtain ⟨a, rfl, HE, ha, rfl⟩ := hrel
        have j0 : (0 : Int) ≤ (a : Int) := by omega
        rcases Nat.lt_or_ge a ps.length with ham | ham
        · have i2 : decide ((a : Int) < (ps.length : Int)) = true := by rw [decide_eq_true_eq]; omega
          have i3 : (a : Int) < (ps.length : Int) := by omega
          have hM := HM.out.below hB
          obtain ⟨g, o, c, vm, hvm, c0, c1, hRm⟩ := hM.at_ ham
          obtain ⟨hA, hcc⟩ : A = some ⟨g, o, none⟩ ∧ cc = c := by injection hvm with e1 _ e3; exact ⟨e1, e3⟩
          subst hA hcc
          clear hvm hM c1 hRm
          have hE : Hid (res = (ps[a].deep && (ps.drop (a + 1)).all Gl.Pc.deep)) := by
            show _ = _
            rw [HE.out, List.drop_eq_getElem_cons ham, List.all_cons]
          by_cases hany : ps[a].deep = true
          · rw [hany] at c0
            have HE2 : Hid (res = (ps.drop (a + 1)).all Gl.Pc.deep) := by show _ = _; rw [hE.out, hany, Bool.true_and]
            clear HE hE
            go_wp2_with fail
            go_roundw
            case rel => exact ⟨a + 1, by go_num, HE2, by omega, by first | rfl | trivial⟩
            case measure => simp [intOf]; omega
          · have hany' : ps[a].deep = false := by simpa using hany
            have HR : Hid (res = false) := by show _ = _; rw [hE.out, hany', Bool.false_and]
            rw [hany'] at c0
            have i4 : ((a : Int) == (ps.length : Int)) = false := by simp; omega
            clear HE hE hany hany'
            go_wp2_with fail
            rw [Exit.noGoto_ret]
            go_ret
            exact ⟨by rw [hres.out, HR.out]; rfl, hB⟩
        · have i2 : decide ((a : Int) < (ps.length : Int)) = false := by rw [decide_eq_false_iff_not]; omega
          have i4 : ((a : Int) == (ps.length : Int)) = true := by simp; omega
          have HR : Hid (res = true) := by show _ = _; rw [HE.out, List.drop_eq_nil_of_le ham]; rfl
          clear HE
          go_wp2_with fail
          rw [Exit.noGoto_ret]
          go_ret
          exact ⟨by rw [hres.out, HR.out]; rfl, hB⟩
end Go.Proofs.YtdjfakampjbgeaaGreatDoor
