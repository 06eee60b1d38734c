/- glob.takesName, walked. -/
import Derived.Test.YtdjfakampjbgeaaGreatDoorGbO
import Derived.Test.YtdjfakampjbgeaaGreatDoorMB
import Derived.Deep.RegionHeld3
import Derived.Deep.DeepCutAuto
import Derived.WalkMore
import Derived.Deep.QuietTactic
import Derived.BigQuiet
namespace Go.Proofs.YtdjfakampjbgeaaGreatDoor
open Go.RowKit

def starI : Option Nat → Int
  | none => -1
  | some t => (t : Int)
def starN : Option Nat → Nat
  | none => 0
  | some t => t + 1
theorem starI_N (s : Option Nat) : (starI s + 1).toNat = starN s := by cases s <;> simp [starI, starN]
theorem GI_star {α β : Type} {any : α → Bool} {tk : α → β → Bool} {ms : List α} {s : List β} {res : Bool} {a b i : Nat} {star : Option Nat} (h : Gm.GI any tk ms s res a star b i) : starN star ≤ a ∧ a ≤ ms.length ∧ i ≤ s.length := by
  obtain ⟨h1, h2, h3⟩ := h
  cases star with
  | none => exact ⟨Nat.zero_le _, h1, h2⟩
  | some t =>
    obtain ⟨_, h4, _⟩ := h3
    exact ⟨by show t + 1 ≤ a; omega, h1, h2⟩
theorem GI_back {α β : Type} {any : α → Bool} {tk : α → β → Bool} {ms : List α} {s : List β} {res : Bool} {a b i t : Nat} (h : Gm.GI any tk ms s res a (some t) b i) : b ≤ i := h.2.2.1
theorem int_nat (k : Nat) : (intOf (.int .i64 (k : Int))).toNat = k := by simp [intOf]
theorem int_nat1 (k : Nat) : (intOf (.int .i64 (k : Int)) + 1).toNat = k + 1 := by simp [intOf]
theorem int_succ (k : Nat) : (intOf (.int .i64 ((k : Int) + 1))).toNat = k + 1 := by simp [intOf]
theorem int_star (s : Option Nat) : (intOf (.int .i64 (starI s)) + 1).toNat = starN s := starI_N s
theorem RB.drew {w : World} {S : Nat → Prop} {v : Value} {l : List UInt8} (h : RB w S v l) : RB w.drew S v l := h
theorem takes_at (m : Gl.Mk) (c : UInt8) (b : Bool) (hb : m.any = b) (vf vt : Value) (w : World) {S : Nat → Prop} (hf : RB w S vf m.fr) (ht : RB w S vt m.to) (hl : m.fr.length = m.to.length) (hm : m.fr.length ≤ 1000000000) :
    Calls Tryz.prog 95 #[.agg #[.bool b, .bool m.neg, vf, vt], .int .u8 (c.toNat : Int)] w fun e w' => e = .returned (.bool (m.takes c)) ∧ Below w.heap.size w w' := by
  subst hb
  exact takes_any m c vf vt w hf ht hl hm
/-- a row of marks, read. -/
theorem RM.at_ {w : World} {S : Nat → Prop} {vm : Value} {ms : List Gl.Mk} (h : RM w S vm ms) {j : Nat} (hj : j < ms.length) : ∃ g o c vf vt, vm = .slice (some ⟨g, o, none⟩) ms.length c ∧ w.cell? ⟨g, o + j * 4, none⟩ = some (.bool ms[j].any) ∧ w.cell? ⟨g, o + j * 4 + 1, none⟩ = some (.bool ms[j].neg) ∧ w.cell? ⟨g, o + j * 4 + 2, none⟩ = some vf ∧ w.cell? ⟨g, o + j * 4 + 3, none⟩ = some vt ∧ RB w S vf ms[j].fr ∧ RB w S vt ms[j].to ∧ ms[j].fr.length = ms[j].to.length := by
  obtain ⟨cs, ⟨A, c, rfl, hc⟩, hm⟩ := h
  obtain ⟨vf, vt, c0, c1, c2, c3, k1, k2, k3⟩ := hm.at_ j hj
  obtain ⟨g, o, rfl, _, d0⟩ := hc _ _ c0
  have f : ∀ i v, cs[j * 4 + i]? = some v → w.cell? ⟨g, o + j * 4 + i, none⟩ = some v := fun i v hv => by
    obtain ⟨g', o', e, _, d⟩ := hc _ _ hv
    injection e with e
    injection e with e1 e2
    subst e1 e2
    rw [Nat.add_assoc]
    exact d
  exact ⟨g, o, c, vf, vt, rfl, d0, f 1 _ c1, f 2 _ c2, f 3 _ c3, k1, k2, k3⟩
theorem RM.below {w wr : World} {S : Nat → Prop} {vm : Value} {ms : List Gl.Mk} (h : RM w S vm ms) (hb : Below w.heap.size w wr) : RM wr S vm ms := h.keep (fun g hs hl => ⟨hb.block g hl, hs⟩)
theorem RM.form {w : World} {S : Nat → Prop} {vm : Value} {ms : List Gl.Mk} (h : RM w S vm ms) : ∃ A c, vm = .slice A ms.length c := by
  obtain ⟨cs, ⟨A, c, e, _⟩, _⟩ := h
  exact ⟨A, c, e⟩
set_option maxRecDepth 100000 in
set_option maxHeartbeats 4000000 in
theorem takesName_any (ms : List Gl.Mk) (s : ByteArray) (vm : Value) (w : World) {S : Nat → Prop} (hm : RM w S vm ms) (hl : ms.length ≤ 2000000) (hs : s.size ≤ 2000000) (hf : ∀ m ∈ ms, m.fr.length ≤ 1000000000) :
    Calls Tryz.prog 78 #[vm, .string s] w fun e w' => e = .returned (.bool (Gl.takesName ms (bl s))) ∧ Below w.heap.size w w' := by
  obtain ⟨A, cc, rfl⟩ := hm.form
  have HM := Lib.hid hm
  have HF := Lib.hid hf
  clear hm hf
  obtain ⟨res, hres⟩ : ∃ res, Hid (Gl.takesName ms (bl s) = res) := ⟨_, rfl⟩
  have hG0 : Hid (Gm.GI Gl.Mk.any Gl.Mk.takes ms (bl s) res 0 none 0 0) := by rw [← hres.out]; exact Gm.GI.start
  go_enter Tryz.func78, Tryz.ntmps78
  go_wp2_with fail
  go_step3
  go_wp2_with fail
  go_step3
  go_wp2_with fail
  go_loopw [5, 6, 7, 8] (fun t5 t6 t7 t8 wr => ∃ (a b i : Nat) (star : Option Nat), t5 = .int .i64 (a : Int) ∧ t6 = .int .i64 (starI star) ∧ t7 = .int .i64 (b : Int) ∧ t8 = .int .i64 (i : Int) ∧ Hid (Gm.GI Gl.Mk.any Gl.Mk.takes ms (bl s) res a star b i) ∧ b ≤ i ∧ a ≤ ms.length ∧ i ≤ s.size ∧ Below w.heap.size w wr) (fun _ t6 t7 t8 _ => Gl.meas ms.length s.size (intOf t6 + 1).toNat (intOf t7).toNat (intOf t8).toNat)
  case atStart => exact ⟨0, 0, 0, none, rfl, rfl, rfl, rfl, hG0, by omega, by omega, by omega, Below.refl _ _⟩
  case round =>
    clear hG0
    obtain ⟨a, b, i, star, rfl, rfl, rfl, rfl, HG, hbi, ha, hi, hB⟩ := hrel
    have j0 : (0 : Int) ≤ (a : Int) := by omega
    have j1 : (0 : Int) ≤ (i : Int) := by omega
    rcases Nat.lt_or_ge i s.size with his | his
    · have i0 : decide ((i : Int) < (s.size : Int)) = true := by rw [decide_eq_true_eq]; omega
      have i1 : (i : Int) < (s.size : Int) := by omega
      have hby : (s[i]).toNat < 256 := (s[i]).toNat_lt
      have his2 : i < (bl s).length := by rw [bl_length]; exact his
      rcases Nat.lt_or_ge a ms.length with ham | ham
      · have i2 : decide ((a : Int) < (ms.length : Int)) = true := by rw [decide_eq_true_eq]; omega
        have i3 : (a : Int) < (ms.length : Int) := by omega
        have hM := HM.out.below hB
        obtain ⟨g, o, c, vf, vt, hvm, c0, c1, c2, c3, hRf, hRt, hll⟩ := hM.at_ ham
        obtain ⟨hA, hcc⟩ : A = some ⟨g, o, none⟩ ∧ cc = c := by injection hvm with e1 _ e3; exact ⟨e1, e3⟩
        subst hA hcc
        clear hvm hM
        by_cases hany : ms[a].any = true
        · rw [hany] at c0
          have HG2 := Lib.hid (HG.out.star_ ham hany)
          have hst := (GI_star HG.out).1
          clear HG
          go_wp2_with fail
          go_roundw
          case rel => exact ⟨a + 1, i, i, some a, by go_num, rfl, rfl, by go_num, HG2, Nat.le_refl _, by omega, hi, hB⟩
          case measure =>
            simp only [int_nat1, int_nat, int_star]
            exact Gl.meas_star (by omega) (by omega)
        · have hany' : ms[a].any = false := by simpa using hany
          have hany2 := Lib.hid hany'
          rw [hany'] at c0
          clear hany hany'
          go_upto_region 9 with fail
          go_cut [45] (fun s45 wx => s45 = .bool (ms[a].takes s[i]) ∧ Below wr.heap.size wr wx)
          case first =>
            clear HG
            have hlt : g < wr.heap.size := World.block_lt_of_cell? wr _ c0
            go_region_held3 (fun w' => w'.cell? ⟨g, o + a * 4, none⟩ = some (.bool false) ∧ w'.cell? ⟨g, o + a * 4 + 1, none⟩ = some (.bool ms[a].neg) ∧ w'.cell? ⟨g, o + a * 4 + 2, none⟩ = some vf ∧ w'.cell? ⟨g, o + a * 4 + 3, none⟩ = some vt) (exact ⟨c0, c1, c2, c3⟩) ((go_at_call 95; refine (takes_at ms[a] s[i] false hany2.out vf vt _ (S := S) (by first | exact hRf | exact hRf.drew) (by first | exact hRt | exact hRt.drew) hll (HF.out _ (List.getElem_mem ham))).mono ?_; rintro e w1 ⟨rfl, hb0⟩; have c0 := (hb0.cell (p := ⟨g, o + a * 4, none⟩) hlt).trans c0; have c1 := (hb0.cell (p := ⟨g, o + a * 4 + 1, none⟩) hlt).trans c1; have c2 := (hb0.cell (p := ⟨g, o + a * 4 + 2, none⟩) hlt).trans c2; have c3 := (hb0.cell (p := ⟨g, o + a * 4 + 3, none⟩) hlt).trans c3; have BX := below_of_below (by first | exact Below.refl wr.heap.size wr | exact (Below.refl wr.heap.size wr).drew) hb0 (by first | exact Nat.le_refl _ | rfl)))
            go_wp2_with fail
            go_meet
            exact ⟨rfl, BX⟩
          case rest =>
            obtain ⟨h45, bx⟩ := hcut
            have hB2 := below_of_below hB bx hB.size
            clear bx hB
            cases htk : ms[a].takes s[i] with
            | true =>
              rw [htk] at h45
              subst h45
              have HG2 := Lib.hid (HG.out.take ham his2 hany2.out htk)
              clear HG htk
              go_wp2_with fail
              go_roundw
              case rel => exact ⟨a + 1, b, i + 1, star, by go_num, rfl, rfl, by go_num, HG2, by omega, by omega, by omega, hB2⟩
              case measure =>
                simp only [int_succ, int_nat, int_star]
                exact Gl.meas_take (by omega) (by omega)
            | false =>
              rw [htk] at h45
              subst h45
              have HTK := Lib.hid htk
              clear htk
              rcases star with _ | t
              · rw [show starI none = -1 from rfl]
                have HRES := Lib.hid (HG.out.none_ his2 (.inr ⟨ham, hany2.out, HTK.out⟩))
                clear HG
                have t11 : decide ((-1 : Int) < 0) = true := rfl
                go_wp2_with fail
                rw [Exit.noGoto_ret]
                go_ret
                exact ⟨by rw [hres.out, HRES.out]; rfl, hB2⟩
              · rw [show starI (some t) = (t : Int) from rfl]
                have HG2 := Lib.hid (HG.out.back_ his2 (.inr ⟨ham, hany2.out, HTK.out⟩))
                have hst := GI_star HG2.out
                have t11 : decide ((t : Int) < 0) = false := by rw [decide_eq_false_iff_not]; omega
                clear HG
                go_wp2_with fail
                go_roundw
                case rel => exact ⟨t + 1, b + 1, b + 1, some t, by go_num, rfl, by go_num, by go_num, HG2, Nat.le_refl _, hst.2.1, by have := hst.2.2; rw [bl_length] at this; omega, hB2⟩
                case measure =>
                  simp only [int_nat1, int_succ, int_nat]
                  exact Gl.meas_back (by omega) (by omega)
      · have i2 : decide ((a : Int) < (ms.length : Int)) = false := by rw [decide_eq_false_iff_not]; omega
        go_upto_region 9 with fail
        go_cut [45] (fun s45 wx => s45 = .bool false ∧ Below wr.heap.size wr wx)
        case first =>
          clear HG
          have BX := Below.refl wr.heap.size wr
          go_quiet (fail)
          go_wp2_with fail
          go_meet
          exact ⟨rfl, by first | exact BX | exact below_drewN BX _⟩
        case rest =>
          obtain ⟨rfl, bx⟩ := hcut
          have hB2 := below_of_below hB bx hB.size
          clear bx hB
          rcases star with _ | t
          · rw [show starI none = -1 from rfl]
            have HRES := Lib.hid (HG.out.none_ his2 (.inl (by omega)))
            clear HG
            have t11 : decide ((-1 : Int) < 0) = true := rfl
            go_wp2_with fail
            rw [Exit.noGoto_ret]
            go_ret
            exact ⟨by rw [hres.out, HRES.out]; rfl, hB2⟩
          · rw [show starI (some t) = (t : Int) from rfl]
            have HG2 := Lib.hid (HG.out.back_ his2 (.inl (by omega)))
            have hst := GI_star HG2.out
            have t11 : decide ((t : Int) < 0) = false := by rw [decide_eq_false_iff_not]; omega
            clear HG
            go_wp2_with fail
            go_roundw
            case rel => exact ⟨t + 1, b + 1, b + 1, some t, by go_num, rfl, by go_num, by go_num, HG2, Nat.le_refl _, hst.2.1, by have := hst.2.2; rw [bl_length] at this; omega, hB2⟩
            case measure =>
              simp only [int_nat1, int_succ, int_nat]
              exact Gl.meas_back (by omega) (by omega)
    · have i0 : decide ((i : Int) < (s.size : Int)) = false := by rw [decide_eq_false_iff_not]; omega
      have hEND : Hid (res = (ms.drop a).all Gl.Mk.any) := by
        have e : i = (bl s).length := by rw [bl_length]; omega
        have := HG.out
        rw [e] at this
        exact this.end_
      clear HG
      go_wp2_with fail
      go_loopw [5] (fun t5 wx => ∃ a : Nat, t5 = .int .i64 (a : Int) ∧ Hid (res = (ms.drop a).all Gl.Mk.any) ∧ a ≤ ms.length ∧ wx = wr) (fun t5 _ => ms.length - (intOf t5).toNat)
      case atStart => exact ⟨a, rfl, hEND, ha, rfl⟩
      case round =>
        clear hEND
        obtain ⟨a, rfl, HE, ha, rfl⟩ := hrel
        have j0 : (0 : Int) ≤ (a : Int) := by omega
        rcases Nat.lt_or_ge a ms.length with ham | ham
        · have i2 : decide ((a : Int) < (ms.length : Int)) = true := by rw [decide_eq_true_eq]; omega
          have i3 : (a : Int) < (ms.length : Int) := by omega
          have hM := HM.out.below hB
          obtain ⟨g, o, c, vf, vt, hvm, c0, c1, c2, c3, hRf, hRt, hll⟩ := hM.at_ ham
          obtain ⟨hA, hcc⟩ : A = some ⟨g, o, none⟩ ∧ cc = c := by injection hvm with e1 _ e3; exact ⟨e1, e3⟩
          subst hA hcc
          clear hvm hM c1 c2 c3 hRf hRt hll
          have hE : Hid (res = (ms[a].any && (ms.drop (a + 1)).all Gl.Mk.any)) := by
            show _ = _
            rw [HE.out, List.drop_eq_getElem_cons ham, List.all_cons]
          by_cases hany : ms[a].any = true
          · rw [hany] at c0
            have HE2 : Hid (res = (ms.drop (a + 1)).all Gl.Mk.any) := by show _ = _; rw [hE.out, hany, Bool.true_and]
            clear HE hE
            go_wp2_with fail
            go_roundw
            case rel => exact ⟨a + 1, by go_num, HE2, by omega, by first | rfl | trivial⟩
            case measure => simp [intOf]; omega
          · have hany' : ms[a].any = false := by simpa using hany
            have HR : Hid (res = false) := by show _ = _; rw [hE.out, hany', Bool.false_and]
            rw [hany'] at c0
            have i4 : ((a : Int) == (ms.length : Int)) = false := by simp; omega
            clear HE hE hany hany'
            go_wp2_with fail
            rw [Exit.noGoto_ret]
            go_ret
            exact ⟨by rw [hres.out, HR.out]; rfl, hB⟩
        · have i2 : decide ((a : Int) < (ms.length : Int)) = false := by rw [decide_eq_false_iff_not]; omega
          have i4 : ((a : Int) == (ms.length : Int)) = true := by simp; omega
          have HR : Hid (res = true) := by show _ = _; rw [HE.out, List.drop_eq_nil_of_le ham]; rfl
          clear HE
          go_wp2_with fail
          rw [Exit.noGoto_ret]
          go_ret
          exact ⟨by rw [hres.out, HR.out]; rfl, hB⟩
end Go.Proofs.YtdjfakampjbgeaaGreatDoor
