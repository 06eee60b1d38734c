/- strataref14.Place, walked. -/
import Derived.Test.YtpgnfianffjpnaaGreatDoorLxT
namespace Go.Proofs.YtpgnfianffjpnaaGreatDoor
open Go Go.RowKit
set_option maxRecDepth 100000 in
set_option maxHeartbeats 1000000 in
theorem place14_any (ln : Lx.Ln) (vm vd : Value) (at_ : Int) (w : World) (hm : RdRow w vm ln.marks.length (mkC ln.marks)) (ht : ln.text.length ≤ 1000000000) (hn : ln.marks.length ≤ 1000000) {RES : Int × Int} (H : Hid (Lx.placeL ln at_ = RES)) :
    Calls Tryz.prog 16 #[.agg #[.int .i64 ln.line, .string (bs ln.text), vm, vd], .int .i64 at_] w fun r w' => r = .returned (.tuple #[.int .i64 RES.1, .int .i64 RES.2]) ∧ Below w.heap.size w w' := by
  obtain ⟨a, ha⟩ : ∃ a, Hid (Lx.clampL ln at_ = a) := ⟨_, Lib.hid rfl⟩
  obtain ⟨AA, ca, hvm⟩ := hm.form
  subst hvm
  have hz := bs_size ln.text
  have hcl : a = max 0 (min at_ ((bs ln.text).size : Int)) := by rw [← ha.out, Lx.clampL, hz]
  have ha0 : 0 ≤ a := by rw [hcl]; omega
  have ha1 : a ≤ ((bs ln.text).size : Int) := by rw [hcl]; omega
  have hzl : (bs ln.text).size ≤ 1000000000 := by omega
  have H0 : Hid (Lx.placeM (ln.marks.take 0) a (ln.line, a + 1) = (ln.line, a + 1)) := Lib.hid rfl
  have HRES : Hid (Lx.placeM ln.marks a (ln.line, a + 1) = RES) := by show _ = _; rw [← H.out, Lx.placeL, ha.out]
  have hB0 := (Below.refl w.heap.size w).alloc (Nat.le_refl _) (.cells #[.int .i64 ln.line, .string (bs ln.text), .slice AA ln.marks.length ca, vd] 64)
  have hK0 := Blk.new w 64 #[.int .i64 ln.line, .string (bs ln.text), .slice AA ln.marks.length ca, vd]
  have hm0 := hm.new hB0
  obtain ⟨w0, hw0⟩ : ∃ w0, w.alloc (.cells #[.int .i64 ln.line, .string (bs ln.text), .slice AA ln.marks.length ca, vd] 64) = w0 := ⟨_, rfl⟩
  rw [hw0] at hB0 hK0 hm0
  have HB0 := Lib.hid hB0
  have HK0 := Lib.hid hK0
  have HM0 := Lib.hid hm0
  have HW0 := Lib.hid hw0
  have HCL := Lib.hid hcl
  have hbs0 := hK0.lt
  obtain ⟨b, hb⟩ : ∃ b, b = max 0 at_ := ⟨_, rfl⟩
  have HBB := Lib.hid hb
  have hb0 : 0 ≤ b := by rw [hb]; omega
  have HAB : Hid (a = min b ((bs ln.text).size : Int)) := by show _ = _; rw [hcl, hb]; omega
  clear hm hB0 hK0 hm0 hw0 hz hcl H hb
  go_enter Tryz.func16, Tryz.ntmps16
  go_upto_region 1 with fail
  rw [HW0.out]
  have k1 : w0.cell? ⟨w.heap.size, 1, none⟩ = some (.string (bs ln.text)) := HK0.out.cell 1
  obtain ⟨p, hp⟩ : ∃ p, decide (at_ < 0) = p := ⟨_, rfl⟩
  have HPB : Hid (b = if p then 0 else at_) := by
    show _ = _
    rw [HBB.out, ← hp]
    by_cases h : at_ < 0
    · rw [decide_eq_true h]; simp only [if_true]; omega
    · rw [decide_eq_false h]; simp only [Bool.false_eq_true, if_false]; omega
  go_upto_if 10 with fail
  clear hp
  go_cut [1] (fun s1 wx => s1 = .int .i64 b ∧ wx = w0)
  case first =>
    cases p <;> (
      go_wp2_with fail
      go_meet
      exact ⟨by rw [HPB.out]; rfl, rfl⟩)
  case rest =>
    obtain ⟨rfl, hwx⟩ := hcut
    rw [hwx]
    clear hwx
    obtain ⟨q, hq⟩ : ∃ q, decide (((bs ln.text).size : Int) < b) = q := ⟨_, rfl⟩
    have HQB : Hid (a = if q then ((bs ln.text).size : Int) else b) := by
      show _ = _
      rw [HAB.out, ← hq]
      by_cases h : ((bs ln.text).size : Int) < b
      · rw [decide_eq_true h]; simp only [if_true]; omega
      · rw [decide_eq_false h]; simp only [Bool.false_eq_true, if_false]; omega
    go_upto_if 15 with fail
    clear hq
    go_cut [1] (fun s1 wx => s1 = .int .i64 a ∧ wx = w0)
    case first =>
      cases q <;> (
        go_wp2_with fail
        go_meet
        exact ⟨by rw [HQB.out]; rfl, rfl⟩)
    case rest =>
      obtain ⟨rfl, hwx⟩ := hcut
      rw [hwx]
      clear hwx k1
      have k0 : w0.cell? ⟨w.heap.size, 0, none⟩ = some (.int .i64 ln.line) := HK0.out.cell 0
      go_wp2_with fail
      clear k0
      go_loopw [6, 7, 8] (fun t6 t7 t8 wr => ∃ (k : Nat) (l cc : Int), k ≤ ln.marks.length ∧ t6 = .int .i64 l ∧ t7 = .int .i64 cc ∧ t8 = .int .i64 (k : Int) ∧ Hid (Lx.placeM (ln.marks.take k) a (ln.line, a + 1) = (l, cc)) ∧ Hid (Below w0.heap.size w0 wr)) (fun _ _ t8 _ => ln.marks.length - (intOf t8).toNat)
      case atStart => exact ⟨0, ln.line, a + 1, by omega, rfl, by go_num, rfl, H0, Lib.hid (Below.refl _ _)⟩
      case round =>
        clear H0
        obtain ⟨k, l, cc, hk, rfl, rfl, rfl, HP, HB⟩ := hrel
        have hsz := HB.out.size
        have hKr := HK0.out.below HB.out hbs0
        have k2 : wr.cell? ⟨w.heap.size, 2, none⟩ = some (.slice AA ln.marks.length ca) := hKr.cell 2
        clear hKr
        rcases Nat.lt_or_ge k ln.marks.length with hkn | hkn
        · have i0 : decide ((k : Int) < (ln.marks.length : Int)) = true := by rw [decide_eq_true_eq]; omega
          have hmr := HM0.out.new HB.out
          obtain ⟨b2, o, c, hv, c0, c1, c2⟩ := hmr.mark k hkn
          injection hv with e1 _ e3
          subst e1 e3
          have htk : ln.marks.take (k + 1) = ln.marks.take k ++ [ln.marks[k]] := by rw [List.take_add_one, List.getElem?_eq_getElem hkn]; rfl
          obtain ⟨m, hme⟩ : ∃ m, ln.marks[k] = m := ⟨_, rfl⟩
          have HN : Hid (Lx.placeM (ln.marks.take (k + 1)) a (ln.line, a + 1) = if m.at_ ≤ a then (m.line, Lx.w64 (m.col + Lx.w64 (a - m.at_))) else (l, cc)) := by
            show _ = _
            rw [htk, Lx.placeM_snoc, hme, HP.out]
          rw [hme] at c0 c1 c2
          have j0 : (0 : Int) ≤ (k : Int) := by omega
          have j1 : (k : Int) < (ln.marks.length : Int) := by omega
          clear htk hmr hme HP
          by_cases hle : m.at_ ≤ a
          · have t1 : decide (m.at_ ≤ a) = true := by rw [decide_eq_true_eq]; exact hle
            have HR : Hid (Lx.placeM (ln.marks.take (k + 1)) a (ln.line, a + 1) = (m.line, Lx.w64 (m.col + Lx.w64 (a - m.at_)))) := by show _ = _; rw [HN.out, if_pos hle]
            clear hle HN
            go_wp2_with fail
            go_quiet (fail)
            go_wp2_with fail
            go_roundw
            case rel => exact ⟨k + 1, m.line, Lx.w64 (m.col + Lx.w64 (a - m.at_)), by omega, rfl, by simp only [Lx.w64, IntWalk.i64_left], by go_num, HR, Lib.hid (by first | exact HB.out | exact below_drewN HB.out _)⟩
            case measure => simp [intOf]; omega
          · have t1 : decide (m.at_ ≤ a) = false := by rw [decide_eq_false_iff_not]; exact hle
            have HR : Hid (Lx.placeM (ln.marks.take (k + 1)) a (ln.line, a + 1) = (l, cc)) := by show _ = _; rw [HN.out, if_neg hle]
            clear hle HN
            go_wp2_with fail
            go_roundw
            case rel => exact ⟨k + 1, l, cc, by omega, rfl, rfl, by go_num, HR, HB⟩
            case measure => simp [intOf]; omega
        · have i0 : decide ((k : Int) < (ln.marks.length : Int)) = false := by rw [decide_eq_false_iff_not]; omega
          have HR : Hid (RES = (l, cc)) := by
            show _ = _
            rw [← HRES.out, ← HP.out, List.take_of_length_le hkn]
          have HBF := Lib.hid (below_of_below HB0.out HB.out HB0.out.size)
          clear HP
          go_wp2_with fail
          go_ret2
          exact ⟨by rw [HR.out]; rfl, HBF.out⟩
end Go.Proofs.YtpgnfianffjpnaaGreatDoor
