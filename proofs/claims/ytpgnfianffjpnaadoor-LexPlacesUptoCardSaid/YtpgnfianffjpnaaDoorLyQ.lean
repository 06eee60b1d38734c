/- stratalaw14.LexPlaces: the law. -/
import Derived.Test.YtpgnfianffjpnaaDoorLyN
import Derived.Test.YtpgnfianffjpnaaDoorLnR
namespace Go.Proofs.YtpgnfianffjpnaaDoor
open Go Go.RowKit
theorem get_at {s : List UInt8} {k : Nat} {c : UInt8} (h : s[k]? = some c) (hk : k < (bs s).size) : (bs s)[k] = c := by
  have := bs_at s k hk
  rw [h] at this
  injection this with this
  exact this.symm
/-- lines in a row of the file's own. -/
def Lq (w : World) (A : Option Addr) (L : List (List UInt8)) : Prop := ∀ (j : Nat) x, L[j]? = some x → ∃ g, A = some ⟨g, 0, none⟩ ∧ w.cell? ⟨g, j, none⟩ = some (.string (bs x))
theorem Lq.own {w : World} {base n : Nat} {t : TypeId} {A : Option Addr} {c : Nat} {L : List (List UInt8)} (h : w.ownsRow base t 1 (.slice A n c) n (sc L)) : Lq w A L := by
  intro j x hx
  rcases h.2 with ⟨_, e⟩ | ⟨g, cap, cur, e, _, _, _⟩
  · have h1 := h.1
    rw [e, Nat.zero_mul] at h1
    rw [show (sc L).length = L.length by simp [sc]] at h1
    have := (List.getElem?_eq_some_iff.1 hx).1
    omega
  · injection e with e1 _ e3
    subst e1
    refine ⟨g, rfl, ?_⟩
    have := h.cells (g := g) rfl j (.string (bs x)) (by simp [sc, hx])
    rwa [Addr.add_lit, Nat.zero_add] at this
theorem Lq.new {w w' : World} {A : Option Addr} {L : List (List UInt8)} (h : Lq w A L) (hb : Below w.heap.size w w') : Lq w' A L := by
  intro j x hx
  obtain ⟨g, e, hc⟩ := h j x hx
  exact ⟨g, e, cell_new hb hc⟩
theorem rises_len {B : Int} : ∀ (ls : List Lx.Ln) (lo : Int), Lx.risesL lo ls → (∀ l ∈ ls, l.line ≤ B) → ls = [] ∨ lo + (ls.length : Int) ≤ B
  | [], _, _, _ => .inl rfl
  | l :: ls, lo, h, hb => by
    right
    have h1 := h.1
    have h2 := hb l (by simp)
    rcases rises_len ls l.line h.2 (fun x hx => hb x (by simp [hx])) with rfl | h3
    · simp only [List.length_cons, List.length_nil]; omega
    · simp only [List.length_cons]; omega
set_option maxRecDepth 100000 in
set_option maxHeartbeats 4000000 in
theorem lawPlaces (s : List UInt8) (w : World) (hs : s.length ≤ 1100000) (hT : Tabs w) (hv : ErrVar w) (hm : Maxl w) :
    Calls Tryd.prog 3 #[.string (bs s)] w fun e w' => e = .returned (.bool true) ∧ Below w.heap.size w w' := by
  have HE := Lib.hid (Env.mk hT hv hm)
  clear hT hv hm
  obtain ⟨RES, hRES⟩ : ∃ R, Hid (Lx.linesL s = R) := ⟨_, Lib.hid rfl⟩
  cases RES with
  | inl z =>
    go_enter Tryd.func3, Tryd.ntmps3
    go_wp2_with fail
    refine (lines_call s (by omega) _ HE.out hRES).mono ?_
    rintro e w1 ⟨hA, p1⟩
    have hr := lns_err hA
    subst hr
    have HE1 := Lib.hid (HE.out.new p1)
    have HP := Lib.hid p1
    clear hA p1
    go_wp2_with fail
    refine (works_call _ HE1.out).mono ?_
    rintro e w2 ⟨rfl, p2⟩
    go_wp2_with fail
    go_ret
    exact ⟨rfl, below_of_below HP.out p2 HP.out.size⟩
  | inr el =>
    obtain ⟨ee, ls⟩ := el
    obtain ⟨L, hL⟩ : ∃ L, Hid (Lx.fileL s = L) := ⟨_, Lib.hid rfl⟩
    obtain ⟨N, hN⟩ : ∃ N, L.length = N := ⟨_, rfl⟩
    have hNle : N ≤ 1100001 := by have := Lx.fileL_count s; rw [hL.out, hN] at this; omega
    have HN := Lib.hid hN
    have hok := Lx.places_ok hRES.out
    have HR0 := Lib.hid hok.1
    have HOK : Hid (∀ l ∈ ls, Lx.LnOk L l) := Lib.hid (by rw [← hL.out]; exact hok.2)
    have HBD := Lib.hid (Lx.lines_len hRES.out)
    obtain ⟨K, hK⟩ : ∃ K, ls.length = K := ⟨_, rfl⟩
    have HK := Lib.hid hK
    have hKle : K ≤ 1000000 := by
      rcases rises_len (B := 1000000) ls 0 hok.1 (fun l hl => (HBD.out l hl).2.1) with h | h
      · rw [h] at hK; simp at hK; omega
      · omega
    have hxl : ∀ x ∈ L, x.length ≤ 1100000 := fun x hx => by rw [← hL.out] at hx; have := Lx.fileL_len hx; omega
    have HXL := Lib.hid hxl
    clear hN hok hxl
    go_enter Tryd.func3, Tryd.ntmps3
    go_wp2_with fail
    refine (lines_call s (by omega) _ HE.out hRES).mono ?_
    rintro e w1 ⟨hA, p1⟩
    obtain ⟨A1, c1, hr, hLL⟩ := lns_ok hA
    subst hr
    have HE1 := Lib.hid (HE.out.new p1)
    have HP1 := Lib.hid p1
    have HLL1 := Lib.hid hLL
    rw [hK]
    clear hA p1 hLL hK
    go_wp2_with fail
    refine (cut14_any s (by omega) _ hL).mono ?_
    rintro e w2 ⟨⟨A, c, rfl, hown⟩, p2⟩
    have HLQ := Lib.hid (Lq.own hown)
    have HP2 := Lib.hid (below_of_below HP1.out p2 HP1.out.size)
    have HE2 := Lib.hid (HE1.out.new p2)
    have HLL2 := Lib.hid (HLL1.out.new p2)
    rw [HN.out]
    clear hown p2 HLL1
    have HR00 : Hid (Lx.risesL 0 (ls.drop 0)) := Lib.hid (by rw [List.drop_zero]; exact HR0.out)
    go_wp2_with fail
    go_loopw [7, 8, 9, 10, 11, 12, 13] (fun t7 t8 _ _ _ _ _ wr => ∃ (i : Nat) (ab : Int), i ≤ K ∧ t7 = .int .i64 ab ∧ t8 = .int .i64 (i : Int) ∧ Hid (Lx.risesL ab (ls.drop i)) ∧ Hid (Below w2.heap.size w2 wr)) (fun _ t8 _ _ _ _ _ _ => K - (intOf t8).toNat)
    case atStart => exact ⟨0, 0, by omega, rfl, rfl, HR00, Lib.hid (Below.refl _ _)⟩
    case round =>
      clear HR00
      rename World => wr
      obtain ⟨i, ab, hi, rfl, rfl, HRS, HB⟩ := hrel
      have j0 : (0 : Int) ≤ (i : Int) := by omega
      rcases Nat.lt_or_ge i K with hin | hin
      · have i0 : decide ((i : Int) < (K : Int)) = true := by rw [decide_eq_true_eq]; omega
        have i1 : (i : Int) < (K : Int) := by omega
        have hil : i < ls.length := by rw [HK.out]; exact hin
        have hLLr := HLL2.out.new HB.out
        obtain ⟨Aq, cq, hform⟩ := hLLr.form
        obtain ⟨b, o, vm, Ad, cd, hA1, h0, h1, h2, h3, hvm, hvd⟩ := LsRd.at (by rw [HK.out] at hLLr; exact hLLr) i hil
        obtain ⟨ln, hln⟩ : ∃ ln, ls[i] = ln := ⟨_, rfl⟩
        have hrs := HRS.out
        rw [List.drop_eq_getElem_cons hil, hln] at hrs
        have hmem : ln ∈ ls := by rw [← hln]; exact List.getElem_mem hil
        have HLN := Lib.hid (HOK.out ln hmem)
        obtain ⟨hb1, hb2, hb3, hb4⟩ := HBD.out ln hmem
        rw [hln] at h0 h1 h3 hvm hvd
        obtain ⟨am, cm, hvmf⟩ := hvm.form
        subst hvmf
        have hrise := hrs.1
        have HRN := Lib.hid hrs.2
        obtain ⟨M, hM⟩ : ∃ M, ln.marks.length = M := ⟨_, rfl⟩
        have HM := Lib.hid hM
        have HVM := Lib.hid hvm
        have HVD := Lib.hid hvd
        have h2' := h2
        rw [hM] at h2'
        rw [hM] at hb4
        obtain ⟨lno, hlno⟩ : ∃ lno, ln.line = lno := ⟨_, rfl⟩
        rw [hlno] at h0 hb1 hb2 hrise
        have t1 : decide (lno ≤ ab) = false := by rw [decide_eq_false_iff_not]; omega
        have t2 : IntKind.i64.wrap (lno - 1) = lno - 1 := IntWalk.i64_in _ (by omega)
        have HLNO := Lib.hid hlno
        have HRM0 : Hid (Lx.risesM (lno - 1) (ln.marks.drop 0)) := Lib.hid (by rw [List.drop_zero, ← HLNO.out]; exact HLN.out.1)
        have H0 := Lib.hid h0
        have H1 := Lib.hid h1
        have H2 := Lib.hid h2
        have H3 := Lib.hid h3
        subst hA1
        clear h2 hform hln hrs hmem hM hvm hvd hlno hLLr HRS h1 h3
        go_upto_region 13 with fail
        clear h0
        go_wp2_with fail
        go_loopw [9, 10] (fun t9 t10 wx => ∃ (k : Nat) (la : Int), k ≤ M ∧ t9 = .int .i64 la ∧ t10 = .int .i64 (k : Int) ∧ Hid (Lx.risesM la (ln.marks.drop k)) ∧ wr = wx) (fun _ t10 _ => M - (intOf t10).toNat)
        case atStart => exact ⟨0, lno - 1, by omega, rfl, rfl, HRM0, by first | rfl | trivial⟩
        case round =>
          clear HRM0
          obtain ⟨k, la, hk, rfl, rfl, HRK, rfl⟩ := hrel
          have k0 : (0 : Int) ≤ (k : Int) := by omega
          rcases Nat.lt_or_ge k M with hkn | hkn
          · have m0 : decide ((k : Int) < (M : Int)) = true := by rw [decide_eq_true_eq]; omega
            have m1 : (k : Int) < (M : Int) := by omega
            have hkl : k < ln.marks.length := by rw [HM.out]; exact hkn
            obtain ⟨g, p, cc, hve, -, q1, -⟩ := HVM.out.mark k hkl
            injection hve with e1 _ e3
            subst e1
            have hrk := HRK.out
            rw [List.drop_eq_getElem_cons hkl] at hrk
            obtain ⟨ml, hml⟩ : ∃ ml, ln.marks[k].line = ml := ⟨_, rfl⟩
            have hr1 := hrk.1
            have hr2 := hrk.2
            rw [hml] at q1 hr1 hr2
            have t3 : decide (ml ≤ la) = false := by rw [decide_eq_false_iff_not]; omega
            have HN2 := Lib.hid hr2
            clear hrk hr2 hml e3 hkl
            go_wp2_with fail
            go_roundw
            case rel => exact ⟨k + 1, ml, by omega, by first | rfl | trivial, by go_num, HN2, by first | rfl | trivial⟩
            case measure => simp [intOf]; omega
          · have m0 : decide ((k : Int) < (M : Int)) = false := by rw [decide_eq_false_iff_not]; omega
            obtain rfl : k = M := by omega
            have m0n : decide (k < k) = false := by simp
            obtain ⟨T, hT⟩ : ∃ T, ln.text.length = T := ⟨_, rfl⟩
            have HT := Lib.hid hT
            have HZ := Lib.hid (bs_size ln.text)
            have hzT : (bs ln.text).size = T := by rw [HZ.out, hT]
            have hT2 : T ≤ 1000000 := by omega
            have hzT3 : (bs ln.text).size ≤ 1000000 := by omega
            have HZT := Lib.hid hzT
            clear HRK hT hzT
            go_wp2_with fail
            clear h2'
            go_loopw [11, 12, 13] (fun t11 _ _ wx => ∃ k : Nat, k ≤ (bs ln.text).size ∧ t11 = .int .i64 (k : Int) ∧ Hid (Below wr.heap.size wr wx)) (fun t11 _ _ _ => (bs ln.text).size - (intOf t11).toNat)
            case atStart => exact ⟨0, by omega, rfl, Lib.hid (Below.refl _ _)⟩
            case round =>
              rename World => wx
              obtain ⟨k, hk, rfl, HBX⟩ := hrel
              have k9 : (0 : Int) ≤ (k : Int) := by omega
              have h1 := cell_new HBX.out H1.out
              rcases Nat.lt_or_ge k (bs ln.text).size with hkn | hkn
              · have m9 : decide ((k : Int) < ((bs ln.text).size : Int)) = true := by rw [decide_eq_true_eq]; omega
                have m1 : (k : Int) < ((bs ln.text).size : Int) := by omega
                obtain ⟨ch, hch⟩ : ∃ ch, (bs ln.text)[k]'hkn = ch := ⟨_, rfl⟩
                have hct : ln.text[k]? = some ch := by rw [← hch]; exact bs_at ln.text k hkn
                obtain ⟨pi, pc, hpl, y, hy, hyc⟩ := Lx.place_ok HLN.out hct
                have h0 := cell_new HBX.out H0.out
                have h2 := cell_new HBX.out H2.out
                have h3 := cell_new HBX.out H3.out
                have HVX := Lib.hid (HVM.out.new HBX.out)
                obtain ⟨gq, hgA, hcell⟩ := (HLQ.out.new (below_of_below HB.out HBX.out HB.out.size)) pi y hy
                subst hgA
                have hyl := (List.getElem?_eq_some_iff.1 hyc).1
                have hpiN : pi < N := by rw [← HN.out]; exact (List.getElem?_eq_some_iff.1 hy).1
                have hyL : y.length ≤ 1100000 := HXL.out y (List.mem_of_getElem? hy)
                have hcz : pc < (bs y).size := by rw [bs_size]; exact hyl
                have hyb : (bs y)[pc]'hcz = ch := get_at hyc hcz
                have hyz : (bs y).size ≤ 1100000 := by rw [bs_size]; exact hyL
                have HPL := Lib.hid hpl
                have HCELL := Lib.hid hcell
                have HCH := Lib.hid hch
                have HYB := Lib.hid hyb
                have HLNO2 := HLNO.out
                have h0' : wx.cell? ⟨b, o + i * 4, none⟩ = some (.int .i64 ln.line) := by rw [HLNO2]; exact h0
                clear hct hpl hy hyc hcell hch hyb HLNO2 h0
                go_wp2_with fail
                have hcall := place_any ln (.slice am ln.marks.length cm) (.slice Ad ln.docs.length cd) (k : Int) wx HVX.out (by omega) (by rw [HM.out]; exact hb4) HPL
                refine hcall.mono ?_
                rintro e w4 ⟨rfl, p4⟩
                have HB4 := Lib.hid (below_of_below HBX.out p4 HBX.out.size)
                have d1 := cell_new p4 h1
                have dc := cell_new p4 HCELL.out
                have z1 : IntKind.i64.wrap ((pi : Int) + 1 - 1) = (pi : Int) := by rw [IntWalk.i64_in _ (by omega)]; omega
                have z2 : IntKind.i64.wrap ((pc : Int) + 1 - 1) = (pc : Int) := by rw [IntWalk.i64_in _ (by omega)]; omega
                have z3 : decide ((pi : Int) + 1 < 1) = false := by rw [decide_eq_false_iff_not]; omega
                have z4 : decide ((N : Int) < (pi : Int) + 1) = false := by rw [decide_eq_false_iff_not]; omega
                have z5 : decide ((pc : Int) + 1 < 1) = false := by rw [decide_eq_false_iff_not]; omega
                have z6 : decide (((bs y).size : Int) < (pc : Int) + 1) = false := by rw [decide_eq_false_iff_not]; omega
                have z7 : (pi : Int) < (N : Int) := by omega
                have z8 : (0 : Int) ≤ (pi : Int) := by omega
                have z9 : (pc : Int) < ((bs y).size : Int) := by omega
                have z10 : (0 : Int) ≤ (pc : Int) := by omega
                have hch := HCH.out
                have hyb := HYB.out
                clear h0' h1 h2 h3 p4 hcall
                go_upto_region 23 with fail
                go_cut [142] (fun s142 wz => s142 = .bool false ∧ ∃ n, wz = w4.drewN n)
                case first =>
                  go_quiet (fail)
                  go_wp2_with fail
                  go_meet
                  exact ⟨by first | rfl | trivial, _, rfl⟩
                case rest =>
                  rename World => wz
                  obtain ⟨rfl, n, hwz⟩ := hcut
                  have HB5 : Hid (Below wr.heap.size wr wz) := Lib.hid (by rw [hwz]; exact below_drewN HB4.out n)
                  clear hwz z1 z2 z3 z4 z5 z6 z7 z8 z9 z10 dc d1
                  go_wp2_with fail
                  go_roundw
                  case rel => exact ⟨k + 1, by omega, by go_num, HB5⟩
                  case measure => simp [intOf]; omega
              · have m9 : decide ((k : Int) < ((bs ln.text).size : Int)) = false := by rw [decide_eq_false_iff_not]; omega
                have HB5 := Lib.hid (below_of_below HB.out HBX.out HB.out.size)
                have HRN2 : Hid (Lx.risesL lno (ls.drop (i + 1))) := Lib.hid (by rw [← HLNO.out]; exact HRN.out)
                go_wp2_with fail
                go_roundw
                case rel => exact ⟨i + 1, lno, by omega, by first | rfl | trivial, by go_num, HRN2, HB5⟩
                case measure => simp [intOf]; omega
      · have i0 : decide ((i : Int) < (K : Int)) = false := by rw [decide_eq_false_iff_not]; omega
        have HEr := Lib.hid (HE2.out.new HB.out)
        have HPr := Lib.hid (below_of_below HP2.out HB.out HP2.out.size)
        go_wp2_with fail
        refine (works_call _ HEr.out).mono ?_
        rintro e w4 ⟨rfl, p4⟩
        go_wp2_with fail
        go_ret
        exact ⟨by first | rfl | trivial, below_of_below HPr.out p4 HPr.out.size⟩
end Go.Proofs.YtpgnfianffjpnaaDoor
