/- strataref14.Join, walked. -/
import Derived.Test.YtpgnfianffjpnaaGreatDoorLxX
import Derived.Test.YtpgnfianffjpnaaGreatDoorLrC
import Derived.Test.YtpgnfianffjpnaaGreatDoorLrI
namespace Go.Proofs.YtpgnfianffjpnaaGreatDoor
open Go Go.RowKit
namespace Lx
/-- what is left to do from line i on, its text from f on. -/
def stepJ (e : UInt8) (L : List Bs) (i f : Nat) (a : Acc) : Acc × Nat := match L[i]? with
  | none => (a, i)
  | some x => if onL e (x.drop f) then goJ e (L.drop (i + 1)) (i + 1) (moreL e a x (i + 1) f) else (moreL e a x (i + 1) f, i + 1)
section
variable {e : UInt8} {L : List Bs} {i f : Nat} {a : Acc} {x : Bs}
theorem join_step (h : L[i]? = some x) : joinL e x (L.drop (i + 1)) i = stepJ e L i (headN x) ([], []) := by
  rw [joinL, stepJ, h]
theorem step_none (h : L.length ≤ i) : stepJ e L i f a = (a, i) := by rw [stepJ, List.getElem?_eq_none h]
theorem step_on (h : L[i]? = some x) (ho : onL e (x.drop f) = true) : stepJ e L i f a = goJ e (L.drop (i + 1)) (i + 1) (moreL e a x (i + 1) f) := by
  rw [stepJ, h]; simp only; rw [if_pos ho]
theorem step_off (h : L[i]? = some x) (ho : onL e (x.drop f) = false) : stepJ e L i f a = (moreL e a x (i + 1) f, i + 1) := by
  rw [stepJ, h]; simp only; rw [if_neg (by rw [ho]; simp)]
theorem goJ_skip (h : L[i]? = some x) (hn : nothingL x = true) : goJ e (L.drop i) i a = goJ e (L.drop (i + 1)) (i + 1) a := by
  obtain ⟨hi, hx⟩ := List.getElem?_eq_some_iff.1 h
  rw [List.drop_eq_getElem_cons hi, hx, goJ, if_pos hn]
theorem goJ_step (h : L[i]? = some x) (hn : nothingL x = false) : goJ e (L.drop i) i a = stepJ e L i 0 a := by
  obtain ⟨hi, hx⟩ := List.getElem?_eq_some_iff.1 h
  rw [List.drop_eq_getElem_cons hi, hx, goJ, if_neg (by rw [hn]; simp), stepJ, h]
  simp only
  rw [List.drop_zero]
theorem goJ_none (h : L.length ≤ i) : goJ e (L.drop i) i a = stepJ e L i 0 a := by
  rw [step_none h, List.drop_eq_nil_of_le h, goJ]
/-- a line may be put behind from f on. -/
def Ready (L : List Bs) (i f : Nat) : Prop := ∀ x, L[i]? = some x → f ≤ x.length ∧ ∃ c ∈ x.drop f, blank c = false
theorem nothing_lft (hn : nothingL x = false) : ∃ c r, Gl.lft x = c :: r := by
  cases h : Gl.lft x with
  | nil => rw [nothingL, h] at hn; cases hn
  | cons c r => exact ⟨c, r, rfl⟩
theorem ready_head (h : L[i]? = some x) (hn : nothingL x = false) : Ready L i (headN x) := fun y hy => by
  rw [h] at hy
  injection hy with hy
  subst hy
  obtain ⟨c, r, hl⟩ := nothing_lft hn
  refine ⟨headN_le x, c, ?_, lft_headB hl⟩
  rw [← lft_drop, hl]; simp
theorem ready_zero (hn : ∀ x, L[i]? = some x → nothingL x = false) : Ready L i 0 := fun y hy => by
  obtain ⟨c, r, hl⟩ := nothing_lft (hn y hy)
  refine ⟨by omega, c, ?_, lft_headB hl⟩
  rw [List.drop_zero]
  obtain ⟨b, hb, _⟩ := lft_split y
  rw [hb, hl]; simp
theorem rgt_behind (x : Bs) {y : Bs} (h : ∃ c ∈ y, blank c = false) : rgt (x ++ y) = x ++ rgt y ∧ rgt y ≠ [] := by
  obtain ⟨b, hb, hbb⟩ := rgt_split y
  rcases List.eq_nil_or_concat (rgt y) with hn | ⟨z, c, hz⟩
  · exfalso
    obtain ⟨c, hc, hc2⟩ := h
    rw [hn, List.nil_append] at hb
    rw [hb] at hc
    have := hbb c hc
    rw [isB_blank, hc2] at this
    cases this
  · rw [List.concat_eq_append] at hz
    have hcl : isB c = false := Gl.rgt_last y c (by show (rgt y).getLast? = _; rw [hz]; simp)
    refine ⟨?_, by rw [hz]; simp⟩
    conv => lhs; rw [hb]
    rw [← List.append_assoc, rgt_app _ hbb, hz, ← List.append_assoc, rgt_snoc _ hcl]
/-- the last byte that is no blank. -/
theorem piece (hf : f ≤ x.length) (h : ∃ c ∈ x.drop f, blank c = false) : ∃ (m : Nat) (z : UInt8), (rgt (x.drop f)).length = m + 1 ∧ f + m < x.length ∧ lastI x = ((f + m : Nat) : Int) ∧ x[f + m]? = some z ∧ (∀ e, onL e (x.drop f) = decide (z = e)) ∧ (rgt (x.drop f)).dropLast = (x.drop f).take m := by
  obtain ⟨h1, h2⟩ := rgt_behind (x.take f) h
  rw [List.take_append_drop] at h1
  obtain ⟨b, hb, _⟩ := rgt_split (x.drop f)
  obtain ⟨m, hm⟩ : ∃ m, (rgt (x.drop f)).length = m + 1 := ⟨(rgt (x.drop f)).length - 1, by have : (rgt (x.drop f)).length ≠ 0 := fun h => h2 (List.eq_nil_of_length_eq_zero h); omega⟩
  have hle := trimR_le (x.drop f) Gl.bls
  have hle2 : (rgt (x.drop f)).length ≤ x.length - f := by rw [List.length_drop] at hle; exact hle
  have hlt : f + m < x.length := by omega
  have hpre : rgt (x.drop f) = (x.drop f).take (m + 1) := by
    conv => rhs; rw [hb]
    rw [← hm, List.take_left]
  have hz : (rgt (x.drop f)).getLast? = some x[f + m] := by
    rw [List.getLast?_eq_getElem?, hm, show m + 1 - 1 = m by omega, hpre, List.getElem?_take, if_pos (by omega), List.getElem?_drop, List.getElem?_eq_getElem hlt]
  refine ⟨m, x[f + m], hm, hlt, ?_, List.getElem?_eq_getElem hlt, fun e => ?_, ?_⟩
  · rw [lastI, h1, List.length_append, List.length_take, hm]
    omega
  · unfold onL
    rw [hz, Bool.eq_iff_iff]
    simp
  · rw [List.dropLast_eq_take, hm, hpre, List.take_take]
    congr 1
    omega
end
end Lx
end Go.Proofs.YtpgnfianffjpnaaGreatDoor
namespace Go.Proofs.YtpgnfianffjpnaaGreatDoor
open Go Go.RowKit
set_option maxRecDepth 100000 in
set_option maxHeartbeats 8000000 in
theorem join14_any (w : World) {A : Option Addr} {c : Nat} {L : List (List UInt8)} (hr : Ls w A L) (q : Nat) (hL : L.length ≤ 5000) (hx : Hid (∀ x ∈ L, x.length ≤ 70000)) (htot : Lx.tot L ≤ 1000000) (e : UInt8) {x0 : List UInt8} (hxi : L[q]? = some x0) (hn0 : Lx.nothingL x0 = false) {RES : Lx.Acc × Nat} (H : Hid (Lx.joinL e x0 (L.drop (q + 1)) q = RES)) :
    Calls Tryz.prog 33 #[.slice A L.length c, .int .i64 (q : Int), .int .u8 (e.toNat : Int)] w fun r w' => (∃ vm, r = .returned (.tuple #[.agg #[.int .i64 ((q : Int) + 1), .string (bs RES.1.1), vm, .slice none 0 0], .int .i64 (RES.2 : Int)]) ∧ w'.ownsRow w.heap.size 136 3 vm RES.1.2.length (mkC RES.1.2)) ∧ Below w.heap.size w w' := by
  obtain ⟨N, hN⟩ : ∃ N, L.length = N := ⟨_, rfl⟩
  have HN := Lib.hid hN
  have hqL := (List.getElem?_eq_some_iff.1 hxi).1
  have hqN : q < N := by rw [← hN]; exact hqL
  have hNle : N ≤ 5000 := by rw [← hN]; exact hL
  have h00 := hr (by omega)
  obtain ⟨g, hAg, hgw, hcell⟩ := h00
  subst hAg
  rw [hN]
  have hx0l : x0.length ≤ 70000 := hx.out _ (List.mem_of_getElem? hxi)
  obtain ⟨c0, r0, hl0⟩ := Lx.nothing_lft hn0
  have HV : Hid (Lx.headI x0 = (Lx.headN x0 : Int)) := Lib.hid (Lx.lft_head hl0).val
  have hh0 := Lx.headN_le x0
  have HJ0 : Hid (Lx.stepJ e L q (Lx.headN x0) ([], []) = RES) := Lib.hid ((Lx.join_step hxi).symm.trans H.out)
  have HRD0 : Hid (Lx.Ready L q (Lx.headN x0)) := Lib.hid (Lx.ready_head hxi hn0)
  have HT0 : Hid (([] : List UInt8).length + Lx.tot (L.drop q) ≤ 1000000) := Lib.hid (by have := Lx.tot_drop L q; simp; omega)
  obtain ⟨f0, hf0⟩ : ∃ f0, Lx.headN x0 = f0 := ⟨_, rfl⟩
  rw [hf0] at HV HJ0 HRD0 hh0
  have HCELL := Lib.hid hcell
  have hci0 := hcell q x0 hxi
  have hB0 := ((Below.refl w.heap.size w).alloc (Nat.le_refl _) (.cells #[.int .i64 0, .string ⟨#[]⟩, .slice none 0 0, .slice none 0 0] 64)).alloc (by simp) (.cells #[.int .i64 ((q : Int) + 1), .string ⟨#[]⟩, .slice none 0 0, .slice none 0 0] 64)
  have hQ0 : Blk ((w.alloc (.cells #[.int .i64 0, .string ⟨#[]⟩, .slice none 0 0, .slice none 0 0] 64)).alloc (.cells #[.int .i64 ((q : Int) + 1), .string ⟨#[]⟩, .slice none 0 0, .slice none 0 0] 64)) w.heap.size 64 #[.int .i64 0, .string ⟨#[]⟩, .slice none 0 0, .slice none 0 0] := (Blk.new w _ _).alloc _
  have hK0 := Blk.new (w.alloc (.cells #[.int .i64 0, .string ⟨#[]⟩, .slice none 0 0, .slice none 0 0] 64)) 64 #[.int .i64 ((q : Int) + 1), .string ⟨#[]⟩, .slice none 0 0, .slice none 0 0]
  rw [World.size_alloc] at hK0
  obtain ⟨w0, hw0⟩ : ∃ w0, (w.alloc (.cells #[.int .i64 0, .string ⟨#[]⟩, .slice none 0 0, .slice none 0 0] 64)).alloc (.cells #[.int .i64 ((q : Int) + 1), .string ⟨#[]⟩, .slice none 0 0, .slice none 0 0] 64) = w0 := ⟨_, rfl⟩
  rw [hw0] at hB0 hQ0 hK0
  have hz0 : w0.heap.size = w.heap.size + 2 := by rw [← hw0]; simp
  have hs0 : w.heap.size + 1 < w0.heap.size := by omega
  have HL0 : Hid (Lb w0 (w.heap.size + 1) (w.heap.size + 1) ((q : Int) + 1) ([], []) (.slice none 0 0)) := Lib.hid ⟨hK0, World.ownsRow_nil _ _ _ _, Nat.le_refl _⟩
  have hci00 : w0.cell? ⟨g, q, none⟩ = some (.string (bs x0)) := by rw [← hci0]; exact hB0.cell (p := ⟨g, q, none⟩) hgw
  have HW0 := Lib.hid hw0
  have HB0 := Lib.hid hB0
  have HQ0 := Lib.hid hQ0
  have hq0 : (0 : Int) ≤ (q : Int) := by omega
  have hq1 : (q : Int) < (N : Int) := by omega
  have hbe : e.toNat < 256 := UInt8.toNat_lt _
  clear H hr hN hL htot hxi hn0 hl0 hf0 hcell hci0 hB0 hQ0 hK0 hw0 hz0 hqL
  go_enter Tryz.func33, Tryz.ntmps33
  go_upto_region 2 with fail
  rw [HW0.out]
  go_wp2_with fail
  refine (head_any x0 (by omega) _ HV).mono ?_
  rintro r w1 ⟨rfl, rfl⟩
  clear hci00
  go_wp2_with fail
  go_loopw [1, 9, 10, 11, 12] (fun t1 t9 _ _ _ wr => ∃ (i f : Nat) (a : Lx.Acc) (vm : Value), i ≤ N ∧ t1 = .int .i64 (i : Int) ∧ t9 = .int .i64 (f : Int) ∧ f ≤ 70000 ∧ Hid (Lx.Ready L i f) ∧ Hid (Blk wr w.heap.size 64 #[.int .i64 0, .string ⟨#[]⟩, .slice none 0 0, .slice none 0 0]) ∧ Hid (Lb wr (w.heap.size + 1) (w.heap.size + 1) ((q : Int) + 1) a vm) ∧ Hid (Below w.heap.size w wr) ∧ w.heap.size + 1 < wr.heap.size ∧ Hid (Lx.stepJ e L i f a = RES) ∧ Hid (a.1.length + Lx.tot (L.drop i) ≤ 1000000) ∧ a.2.length ≤ i) (fun t1 _ _ _ _ _ => N - (intOf t1).toNat)
  case atStart => exact ⟨q, f0, ([], []), .slice none 0 0, by omega, by first | rfl | trivial, by first | rfl | trivial, by omega, HRD0, HQ0, HL0, HB0, hs0, HJ0, HT0, by simp⟩
  case round =>
    clear HRD0 HQ0 HL0 HB0 HJ0 HT0 hs0 hq0 hq1
    rename World => wr
    obtain ⟨i, f, a, vm, hi, rfl, rfl, hf7, HRD, HQ, HL, HB, hsz, HJ, HT, hal⟩ := hrel
    have j0 : (0 : Int) ≤ (i : Int) := by omega
    have j1 : (0 : Int) ≤ (f : Int) := by omega
    rcases Nat.lt_or_ge i N with hin | hin
    · have i0 : decide ((i : Int) < (N : Int)) = true := by rw [decide_eq_true_eq]; omega
      have i1 : (i : Int) < (N : Int) := by omega
      have hiL : i < L.length := by rw [HN.out]; exact hin
      obtain ⟨x, hxe⟩ : ∃ x, L[i]? = some x := ⟨_, List.getElem?_eq_getElem hiL⟩
      have hxl : x.length ≤ 70000 := hx.out x (List.mem_of_getElem? hxe)
      have hci : wr.cell? ⟨g, i, none⟩ = some (.string (bs x)) := by rw [← HCELL.out i x hxe]; exact HB.out.cell (p := ⟨g, i, none⟩) hgw
      obtain ⟨hfx, hnb⟩ := HRD.out x hxe
      obtain ⟨m, z, hm, hfm, hlast, hzz, hon, hdl⟩ := Lx.piece hfx hnb
      obtain ⟨on, honv⟩ : ∃ on, Lx.onL e (x.drop f) = on := ⟨_, rfl⟩
      have hz := bs_size x
      have hzlt : f + m < (bs x).size := by rw [hz]; exact hfm
      have hxz : (bs x)[f + m]'hzlt = z := get_of hzz hzlt
      have hby : z.toNat < 256 := UInt8.toNat_lt _
      have t1 : ((z.toNat : Int) == (e.toNat : Int)) = on := by rw [u8_eq, ← honv, hon e]
      have t2 : decide ((f : Int) ≤ ((f + m : Nat) : Int)) = true := by rw [decide_eq_true_eq]; omega
      have t3 : ((f + m : Nat) : Int) < ((bs x).size : Int) := by omega
      have t4 : (0 : Int) ≤ ((f + m : Nat) : Int) := by omega
      have HLA : Hid (Lx.lastI x = ((f + m : Nat) : Int)) := Lib.hid hlast
      obtain ⟨km, hkm⟩ : ∃ km, f + m = km := ⟨_, rfl⟩
      obtain ⟨P, hP⟩ : ∃ P, tailL e (x.drop f) = P := ⟨_, rfl⟩
      have hPv : P = if on then (x.drop f).take m else x.drop f := by rw [← hP, tailL, honv, hdl]
      have hPl : P.length = if on then m else x.length - f := by
        rw [hPv]
        split
        · rw [List.length_take, List.length_drop]; omega
        · rw [List.length_drop]
      have hPtk : P = (x.drop f).take P.length := by
        rw [hPl, hPv]
        split
        · rfl
        · rw [List.take_of_length_le (by rw [List.length_drop]; exact Nat.le_refl _)]
      have hfP : f + P.length ≤ x.length := by
        rw [hPl]
        split <;> omega
      have hMore : Lx.moreL e a x (i + 1) f = Lx.addL a P (i + 1) f := by rw [more_tail, hP]
      have hEnd : ((f + P.length : Nat) : Int) = if on then (km : Int) else ((bs x).size : Int) := by
        rw [hPl]
        split
        · omega
        · omega
      have HEND := Lib.hid hEnd
      have HON := Lib.hid honv
      have HMORE := Lib.hid hMore
      have HXE := Lib.hid hxe
      have HPTK := Lib.hid hPtk
      have HXL := Lib.hid hxl
      have hsl := slice_bsi x f (f + P.length) (f : Int) ((f + P.length : Nat) : Int) rfl rfl (by omega) hfP
      rw [show f + P.length - f = P.length by omega, ← hPtk] at hsl
      have hPle : P.length ≤ 70000 := by omega
      have hx2 : x.length ≤ 2000000 := by omega
      have hfP2 := hfP
      have hbxs : (bs x).size ≤ 70000 := by rw [hz]; exact hxl
      rw [hkm] at HLA t2 t3 t4 hzlt
      have t5 : f ≤ km := by omega
      have hxz2 : (bs x)[km]'(by omega) = z := by subst hkm; exact hxz
      clear hxe hfx hnb hm hfm hlast hzz hon hdl honv hz hxz hkm hP hPv hPl hPtk hMore hEnd hiL HRD hxl hfP
      go_upto_region 6 with fail
      refine (last_any x hx2 _ HLA).mono ?_
      rintro r w9 ⟨rfl, rfl⟩
      go_upto_region 6 with fail
      go_cut [12] (fun s12 wx => s12 = .bool on ∧ wr = wx)
      case first =>
        clear HEND
        cases on <;> (
          go_wp2_with fail
          go_meet
          exact ⟨by first | rfl | trivial, by first | rfl | trivial⟩)
      case rest =>
        obtain ⟨rfl, rfl⟩ := hcut
        clear t1 t2 t3 t4 t5 hxz2
        go_upto_if 48 with fail
        go_cut [10] (fun s10 wx => s10 = .int .i64 ((f + P.length : Nat) : Int) ∧ wr = wx)
        case first =>
          cases on with
          | true =>
            have HE : Hid (((f + P.length : Nat) : Int) = (km : Int)) := Lib.hid HEND.out
            go_wp2_with fail
            go_meet
            exact ⟨by rw [HE.out], by first | rfl | trivial⟩
          | false =>
            have HE : Hid (((f + P.length : Nat) : Int) = ((bs x).size : Int)) := Lib.hid HEND.out
            go_wp2_with fail
            go_meet
            exact ⟨by rw [HE.out], by first | rfl | trivial⟩
        case rest =>
          obtain ⟨rfl, rfl⟩ := hcut
          clear HEND hbxs
          have hbox := HL.out.box
          have hown := HL.out.own
          have hBlt := hbox.lt
          obtain ⟨E, hE⟩ : ∃ E : Int, ((f + P.length : Nat) : Int) = E := ⟨_, rfl⟩
          rw [hE] at hsl
          try rw [hE]
          obtain ⟨pe, hpe⟩ : ∃ b, decide ((f : Int) < E) = b := ⟨_, rfl⟩
          have HPE : Hid (pe = decide (P ≠ [])) := by
            show _ = _
            rw [← hpe, ← hE, Bool.eq_iff_iff, decide_eq_true_eq, decide_eq_true_eq]
            cases P with
            | nil => simp
            | cons d r => simp; omega
          have HE := Lib.hid hE
          have hE2 : E ≤ 70000 := by have := HXL.out; omega
          have hE0 : 0 ≤ E := by omega
          clear hE
          go_upto_if 52 with fail
          go_cut [] (fun wx => ∃ v1, Lb wx (w.heap.size + 1) (w.heap.size + 1) ((q : Int) + 1) (Lx.addL a P (i + 1) f) v1 ∧ Blk wx w.heap.size 64 #[.int .i64 0, .string ⟨#[]⟩, .slice none 0 0, .slice none 0 0] ∧ Below w.heap.size w wx ∧ w.heap.size + 1 < wx.heap.size)
          case first =>
            cases pe with
            | false =>
              have hP0 : P = [] := by
                have := HPE.out.symm
                rw [decide_eq_false_iff_not] at this
                simpa using this
              have HA : Hid (Lx.addL a P (i + 1) f = a) := by show _ = _; rw [Lx.addL, if_pos hP0]
              clear hP0 hbox hown
              go_wp2_with fail
              go_meet
              refine ⟨vm, ?_, HQ.out, HB.out, hsz⟩
              rw [HA.out]
              exact HL.out
            | true =>
              have hP0 : P ≠ [] := of_decide_eq_true HPE.out.symm
              have HA : Hid (Lx.addL a P (i + 1) f = (a.1 ++ P, a.2 ++ [⟨(a.1.length : Int), ((i + 1 : Nat) : Int), (f : Int) + 1⟩])) := by show _ = _; rw [Lx.addL, if_neg hP0]
              have d1 : wr.cell? ⟨w.heap.size + 1, 1, none⟩ = some (.string (bs a.1)) := hbox.cell 1
              have d2 : wr.cell? ⟨w.heap.size + 1, 2, none⟩ = some vm := hbox.cell 2
              have g1 := hbox.frozen 1
              have g2 := hbox.frozen 2
              obtain ⟨AA, ca, hvm⟩ := ownk_form hown
              subst hvm
              have hneB := own_blk hown hbox (by decide)
              have hzA := bs_size a.1
              have HAL : Hid (((a.1.length : Nat) : Int) = ((bs a.1).size : Int)) := Lib.hid (by rw [hzA])
              have hal1 : a.1.length ≤ 1000000 := by have := HT.out; omega
              have hzA2 : (bs a.1).size ≤ 1000000 := by omega
              have hbB : w.heap.size + 1 ≤ w.heap.size + 1 := Nat.le_refl _
              have hbw : Below (w.heap.size + 1) wr wr := Below.refl _ _
              have hbs2 : w.heap.size + 1 ≤ wr.heap.size := by omega
              have hQB := HQ.out
              clear hP0 hzA
              go_upto_region 10 with fail
              go_cut [] (fun wx => ∃ v1, Lb wx (w.heap.size + 1) (w.heap.size + 1) ((q : Int) + 1) (a.1, a.2 ++ [⟨(a.1.length : Int), ((i + 1 : Nat) : Int), (f : Int) + 1⟩]) v1 ∧ Below (w.heap.size + 1) wr wx)
              case first =>
                go_wp2_with (at_builtin; refine wpList_appk rfl _ _ _ rfl markK _ _ _ _ rfl (hown.alloc _) _ _ _ _ rfl rfl (news_at _ _ (by simp) _ _) (by simp [Value.oneCell']) (by omega) (by omega) (hbw.alloc hbs2 _) (by simp; omega) ?_; intro v1 w3 ho1 hb1 hg1 hat1; obtain ⟨B1, q1, rfl⟩ := ownk_form ho1; have hbx1 := hg1.block (w.heap.size + 1) (by simp; omega) (fun e => hneB e.symm); have hbx2 : Blk w3 (w.heap.size + 1) 64 #[.int .i64 ((q : Int) + 1), .string (bs a.1), .slice AA a.2.length ca, .slice none 0 0] := hbx1.trans (Blk.alloc hbox _); have kB1 : w3.cell? ⟨w.heap.size + 1, 1, none⟩ = some (.string (bs a.1)) := hbx2.cell 1; have kB2 : w3.cell? ⟨w.heap.size + 1, 2, none⟩ = some (.slice AA a.2.length ca) := hbx2.cell 2; have fB1 := hbx2.frozen 1; have fB2 := hbx2.frozen 2; clear hbx1)
                go_meet
                refine ⟨_, Lb.push hbx2 (by rw [mkC_snoc, List.length_append, mkL, HAL.out]; exact ho1) hbB, hb1.setCell (p := ⟨w.heap.size + 1, 2, none⟩) hbB _⟩
              case rest =>
                obtain ⟨v1, hL3, hB3⟩ := hcut
                have k1 : wc.cell? ⟨w.heap.size + 1, 1, none⟩ = some (.string (bs a.1)) := hL3.box.cell 1
                have m1 := hL3.box.frozen 1
                have hc3 : wc.cell? ⟨g, i, none⟩ = some (.string (bs x)) := by rw [← hci]; exact hB3.cell (p := ⟨g, i, none⟩) (by show g < w.heap.size + 1; omega)
                have hQ3 := (Fx.of_below hB3).blk hQB (by omega)
                have hB33 := HB.out.trans (hB3.mono (by omega : w.heap.size ≤ w.heap.size + 1))
                have hs3 := hB3.size
                obtain ⟨V, hV⟩ : ∃ V, bs a.1 ++ bs P = V := ⟨_, rfl⟩
                have hzP := bs_size P
                have ad1 : ∀ w, (Op.stringOp .add (bs a.1) (bs P)).run Tryz.prog w = .ok (.string V) w := fun w => by rw [← hV]; exact run_string_add_sum w _ _ (by omega)
                have HVV : Hid (V = bs (a.1 ++ P)) := by show _ = _; rw [← hV, bs_append]
                have hF : Lb (wc.setCell ⟨w.heap.size + 1, 1, none⟩ (.string (bs (a.1 ++ P)))) (w.heap.size + 1) (w.heap.size + 1) ((q : Int) + 1) (a.1 ++ P, a.2 ++ [⟨(a.1.length : Int), ((i + 1 : Nat) : Int), (f : Int) + 1⟩]) v1 := hL3.text
                have hQF := (Fx.set wc (w.heap.size + 1) 1 (.string (bs (a.1 ++ P)))).blk hQ3 (by omega)
                have hBF := hB33.setCell (p := ⟨w.heap.size + 1, 1, none⟩) (by show w.heap.size ≤ w.heap.size + 1; omega) (.string (bs (a.1 ++ P)))
                have hzF := setCell_size wc ⟨w.heap.size + 1, 1, none⟩ (.string (bs (a.1 ++ P)))
                rw [← HVV.out] at hF hQF hBF hzF
                have hHF := Lib.hid hF
                have hHQ := Lib.hid hQF
                have hHB := Lib.hid hBF
                have hHZ := Lib.hid hzF
                clear hL3 hB3 d1 d2 g1 g2 hbox hown hci hQ3 hB33 hV hzP hF hQF hBF hzF hneB hQB hbw
                go_upto_region 11 with fail
                go_region
                all_goals (
                  go_wp2_with fail
                  go_meet
                  refine ⟨v1, ?_, hHQ.out.below (Below.refl _ _).drew hHQ.out.lt, hHB.out.drew, by show w.heap.size + 1 < (wc.setCell ⟨w.heap.size + 1, 1, none⟩ (.string V)).heap.size; rw [hHZ.out]; omega⟩
                  rw [HA.out]
                  exact hHF.out.new (Below.refl _ _).drew)
          case rest =>
            obtain ⟨v1, hL4, hQ4, hB4, hs4⟩ := hcut
            rename World => w4
            have HL4 := Lib.hid hL4
            have HQ4 := Lib.hid hQ4
            have HB4 := Lib.hid hB4
            clear hL4 hQ4 hB4 hbox hown hpe HL HQ HB hci hsl
            have HAC : Hid (Lx.moreL e a x (i + 1) f = Lx.addL a P (i + 1) f) := HMORE
            obtain ⟨a2, ha2⟩ : ∃ a2, Lx.addL a P (i + 1) f = a2 := ⟨_, rfl⟩
            have hlen := more_len e a x (i + 1) f
            rw [HAC.out, ha2] at hlen
            rw [ha2] at HL4 HAC
            have htd : Lx.tot (L.drop i) = x.length + Lx.tot (L.drop (i + 1)) := by
              obtain ⟨h1, h2⟩ := List.getElem?_eq_some_iff.1 HXE.out
              rw [List.drop_eq_getElem_cons h1, Lx.tot_cons, h2]
            have HT2 : Hid (a2.1.length + Lx.tot (L.drop (i + 1)) ≤ 1000000) := Lib.hid (by have := HT.out; omega)
            have hal2 : a2.2.length ≤ i + 1 := by omega
            clear hlen htd ha2 HT HMORE HPE
            cases on with
            | false =>
              have HRS : Hid (RES = (a2, i + 1)) := by show _ = _; rw [← HJ.out, Lx.step_off HXE.out HON.out, HAC.out]
              obtain ⟨AA, ca, hvm⟩ := ownk_form HL4.out.own
              subst hvm
              have d0 : w4.cell? ⟨w.heap.size + 1, 0, none⟩ = some (.int .i64 ((q : Int) + 1)) := HL4.out.box.cell 0
              have d1 : w4.cell? ⟨w.heap.size + 1, 1, none⟩ = some (.string (bs a2.1)) := HL4.out.box.cell 1
              have d2 : w4.cell? ⟨w.heap.size + 1, 2, none⟩ = some (.slice AA a2.2.length ca) := HL4.out.box.cell 2
              have d3 : w4.cell? ⟨w.heap.size + 1, 3, none⟩ = some (.slice none 0 0) := HL4.out.box.cell 3
              clear HJ
              go_wp2_with (refine wpList_store_st rfl _ _ _ rfl lineT w.heap.size #[.int .i64 ((q : Int) + 1), .string (bs a2.1), .slice AA a2.2.length ca, .slice none 0 0] _ rfl rfl HQ4.out rfl rfl rfl ?_; intro w7 hB7 hg7 hz7)
              refine bodyPost_ret (v := .tuple #[.agg #[.int .i64 ((q : Int) + 1), .string (bs a2.1), .slice AA a2.2.length ca, .slice none 0 0], .int .i64 ((i + 1 : Nat) : Int)]) (results_c1 rfl lineT rfl rfl hB7 rfl) rfl ?_
              refine ⟨⟨.slice AA a2.2.length ca, by rw [HRS.out], ?_⟩, HB4.out.grown hg7 (by omega) (fun k hk => by injection hk with hk; omega)⟩
              rw [HRS.out]
              exact own_base (HL4.out.own.kept hg7 (.inr (fun e => by have := (HL4.out.own.lt _ e).1; omega))) (by omega)
            | true =>
              have HG : Hid (Lx.goJ e (L.drop (i + 1)) (i + 1) a2 = RES) := by show _ = _; rw [← HJ.out, Lx.step_on HXE.out HON.out, HAC.out]
              clear HJ
              go_wp2_with fail
              go_loopw [1] (fun t1 wx => ∃ k : Nat, i + 1 ≤ k ∧ k ≤ N ∧ t1 = .int .i64 (k : Int) ∧ Hid (Lx.goJ e (L.drop k) k a2 = RES) ∧ Hid (a2.1.length + Lx.tot (L.drop k) ≤ 1000000) ∧ w4 = wx) (fun t1 _ => N - (intOf t1).toNat)
              case atStart => exact ⟨i + 1, Nat.le_refl _, by omega, by go_num, HG, HT2, by first | rfl | trivial⟩
              case round =>
                clear HG HT2
                obtain ⟨k, hik, hkN, rfl, HGK, HTK, rfl⟩ := hrel
                have k0 : (0 : Int) ≤ (k : Int) := by omega
                obtain ⟨y, hy⟩ : ∃ y, Hid (((L[k]?).any fun x => Lx.nothingL x) = y) := ⟨_, Lib.hid rfl⟩
                go_upto_region 15 with fail
                go_cut [93] (fun s93 wx => s93 = .bool y ∧ w4 = wx)
                case first =>
                  rcases Nat.lt_or_ge k N with hkn | hkn
                  · have m0 : decide ((k : Int) < (N : Int)) = true := by rw [decide_eq_true_eq]; omega
                    have m1 : (k : Int) < (N : Int) := by omega
                    obtain ⟨u, hu⟩ : ∃ u, L[k]? = some u := ⟨_, List.getElem?_eq_getElem (by rw [HN.out]; exact hkn)⟩
                    have hul : u.length ≤ 2000000 := by have := hx.out u (List.mem_of_getElem? hu); omega
                    have hck : w4.cell? ⟨g, k, none⟩ = some (.string (bs u)) := by rw [← HCELL.out k u hu]; exact HB4.out.cell (p := ⟨g, k, none⟩) hgw
                    have HY : Hid (Lx.nothingL u = y) := by show _ = _; rw [← hy.out, hu, Option.any_some]
                    clear hu
                    cases y <;> (
                      go_wp2_with fail
                      refine (nothing14_any u hul _ HY).mono ?_
                      rintro r w9 ⟨rfl, rfl⟩
                      go_wp2_with fail
                      go_meet
                      exact ⟨by first | rfl | trivial, by first | rfl | trivial⟩)
                  · have m0 : decide ((k : Int) < (N : Int)) = false := by rw [decide_eq_false_iff_not]; omega
                    have HF : Hid (y = false) := by show _ = _; rw [← hy.out, List.getElem?_eq_none (by rw [HN.out]; exact hkn)]; rfl
                    go_wp2_with fail
                    go_meet
                    exact ⟨by rw [HF.out], by first | rfl | trivial⟩
                case rest =>
                  obtain ⟨rfl, rfl⟩ := hcut
                  cases y with
                  | true =>
                    have hkn : k < N := by
                      rcases Nat.lt_or_ge k N with h | h
                      · exact h
                      · have := hy.out
                        rw [List.getElem?_eq_none (by rw [HN.out]; exact h)] at this
                        cases this
                    obtain ⟨u, hu⟩ : ∃ u, L[k]? = some u := ⟨_, List.getElem?_eq_getElem (by rw [HN.out]; exact hkn)⟩
                    have hnu : Lx.nothingL u = true := by have := hy.out; rw [hu, Option.any_some] at this; exact this
                    have HG2 : Hid (Lx.goJ e (L.drop (k + 1)) (k + 1) a2 = RES) := by show _ = _; rw [← HGK.out, Lx.goJ_skip hu hnu]
                    have HT3 : Hid (a2.1.length + Lx.tot (L.drop (k + 1)) ≤ 1000000) := Lib.hid (by
                      obtain ⟨h1, h2⟩ := List.getElem?_eq_some_iff.1 hu
                      have := HTK.out
                      rw [List.drop_eq_getElem_cons h1, Lx.tot_cons] at this
                      omega)
                    clear hu hnu HGK HTK hy
                    go_wp2_with fail
                    go_roundw
                    case rel => exact ⟨k + 1, by omega, by omega, by go_num, HG2, HT3, by first | rfl | trivial⟩
                    case measure => simp [intOf]; omega
                  | false =>
                    have HG2 : Hid (Lx.stepJ e L k 0 a2 = RES) := by
                      show _ = _
                      rw [← HGK.out]
                      rcases Nat.lt_or_ge k N with h | h
                      · obtain ⟨u, hu⟩ : ∃ u, L[k]? = some u := ⟨_, List.getElem?_eq_getElem (by rw [HN.out]; exact h)⟩
                        have hnu : Lx.nothingL u = false := by have := hy.out; rw [hu, Option.any_some] at this; exact this
                        rw [Lx.goJ_step hu hnu]
                      · rw [Lx.goJ_none (by rw [HN.out]; exact h)]
                    have HR2 : Hid (Lx.Ready L k 0) := Lib.hid (Lx.ready_zero fun u hu => by have := hy.out; rw [hu, Option.any_some] at this; exact this)
                    clear hy HGK
                    go_wp2_with fail
                    go_roundw
                    case rel => exact ⟨k, 0, a2, v1, hkN, by first | rfl | trivial, by first | rfl | trivial, by omega, HR2, HQ4, HL4, HB4, hs4, HG2, HTK, by omega⟩
                    case measure => simp [intOf]; omega
    · have i0 : decide ((i : Int) < (N : Int)) = false := by rw [decide_eq_false_iff_not]; omega
      have HRS : Hid (RES = (a, i)) := by show _ = _; rw [← HJ.out, Lx.step_none (by rw [HN.out]; exact hin)]
      obtain ⟨AA, ca, hvm⟩ := ownk_form HL.out.own
      subst hvm
      have d0 : wr.cell? ⟨w.heap.size + 1, 0, none⟩ = some (.int .i64 ((q : Int) + 1)) := HL.out.box.cell 0
      have d1 : wr.cell? ⟨w.heap.size + 1, 1, none⟩ = some (.string (bs a.1)) := HL.out.box.cell 1
      have d2 : wr.cell? ⟨w.heap.size + 1, 2, none⟩ = some (.slice AA a.2.length ca) := HL.out.box.cell 2
      have d3 : wr.cell? ⟨w.heap.size + 1, 3, none⟩ = some (.slice none 0 0) := HL.out.box.cell 3
      clear HJ
      go_wp2_with (refine wpList_store_st rfl _ _ _ rfl lineT w.heap.size #[.int .i64 ((q : Int) + 1), .string (bs a.1), .slice AA a.2.length ca, .slice none 0 0] _ rfl rfl HQ.out rfl rfl rfl ?_; intro w7 hB7 hg7 hz7)
      refine bodyPost_ret (v := .tuple #[.agg #[.int .i64 ((q : Int) + 1), .string (bs a.1), .slice AA a.2.length ca, .slice none 0 0], .int .i64 (i : Int)]) (results_c1 rfl lineT rfl rfl hB7 rfl) rfl ?_
      refine ⟨⟨.slice AA a.2.length ca, by rw [HRS.out], ?_⟩, HB.out.grown hg7 (by omega) (fun k hk => by injection hk with hk; omega)⟩
      rw [HRS.out]
      exact own_base (HL.out.own.kept hg7 (.inr (fun e => by have := (HL.out.own.lt _ e).1; omega))) (by omega)
end Go.Proofs.YtpgnfianffjpnaaGreatDoor
