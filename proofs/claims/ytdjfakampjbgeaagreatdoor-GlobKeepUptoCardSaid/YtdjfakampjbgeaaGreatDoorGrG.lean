/- strataref02.Reached, Match, walked. -/
import Derived.Test.YtdjfakampjbgeaaGreatDoorGrF
import Derived.Deep.RegionWith
import Derived.IntWalk
namespace Go.Proofs.YtdjfakampjbgeaaGreatDoor
open Go.RowKit

theorem takesR_at (x y : List UInt8) (hx : x.length ≤ 2000000) (hy : y.length ≤ 2000000) {ms : List Gl.Mk} (H : Hid (Gl.pieceL x = some ms)) {b : Bool} (hres : Hid (Gl.takesName ms y = b)) (w : World) :
    Calls Tryz.prog 99 #[.string (bs x), .string (bs y)] w fun e w' => e = .returned (.bool b) ∧ Below w.heap.size w w' :=
  takesR_any (bs x) (bs y) (by rw [bs_size]; exact hx) (by rw [bs_size]; exact hy) (ms := ms) (by show _ = _; rw [bl_bs]; exact H.out) (by show _ = _; rw [bl_bs]; exact hres.out) w
/-- do a piece's marks take a name? -/
def pcTakes (q : Gl.Pc) (s : List UInt8) : Bool := Gl.takesName q.marks s
/-- which names can be come to. -/
def reachP (ps : List Gl.Pc) (ns : List (List UInt8)) (i : Nat) : Bool := Gm.reach Gl.Pc.deep pcTakes ps ns i
theorem reachP_part {ps : List Gl.Pc} {k : Nat} (hk : k < ps.length) (ns : List (List UInt8)) (h : ps[k].deep = true) (i : Nat) (hi : i ≤ ns.length) : Gm.upto (reachP (ps.take k) ns) i = reachP (ps.take (k + 1)) ns i := by
  unfold reachP
  rw [List.take_add_one, List.getElem?_eq_getElem hk]
  exact (Gm.reach_any Gl.Pc.deep pcTakes h _ ns hi).symm
theorem reachP_zero {ps : List Gl.Pc} {k : Nat} (hk : k < ps.length) (ns : List (List UInt8)) (h : ps[k].deep = false) : reachP (ps.take (k + 1)) ns 0 = false := by
  unfold reachP
  rw [List.take_add_one, List.getElem?_eq_getElem hk]
  exact Gm.reach_zero _ _ h _ _
theorem reachP_succ {ps : List Gl.Pc} {k : Nat} (hk : k < ps.length) (ns : List (List UInt8)) (h : ps[k].deep = false) {i : Nat} (hi : i < ns.length) : reachP (ps.take (k + 1)) ns (i + 1) = (reachP (ps.take k) ns i && pcTakes ps[k] ns[i]) := by
  unfold reachP
  rw [List.take_add_one, List.getElem?_eq_getElem hk]
  exact Gm.reach_succ _ _ h _ _ hi
theorem reachP_nil (ns : List (List UInt8)) {i : Nat} (h : i ≤ ns.length) : reachP [] ns i = decide (i = 0) := Gm.reach_nil _ _ _ h
theorem reachP_end (ps : List Gl.Pc) (ns : List (List UInt8)) : reachP ps ns ns.length = Gl.takesAll ps ns := Gm.reach_end _ _ _ _
set_option maxRecDepth 100000 in
set_option maxHeartbeats 4000000 in
theorem reached_any (p : ByteArray) (hp : p.size ≤ 2000000) {ps : List Gl.Pc} (H : Hid (Gl.readL (bl p) = some ps)) (ns : List (List UInt8)) (vl : Value) (w : World) {S : Nat → Prop} (hq : RC w S vl ns.length (sc ns)) (hns : ns.length ≤ 2000001) (hnx : Hid (∀ x ∈ ns, x.length ≤ 2000000)) :
    Calls Tryz.prog 83 #[.string p, vl] w fun e w' => ∃ g, e = .returned (.slice (some ⟨g, 0, none⟩) (ns.length + 1) (ns.length + 1)) ∧ (w.heap.size ≤ g ∧ BF w' g (ns.length + 1) (reachP ps ns)) ∧ Below w.heap.size w w' := by
  have hmk := make_bf (ns.length + 1) (by omega)
  have hmk' : ∀ W : World, (Instr.makeSlice 65 (.int .i64 ((ns.length : Int) + 1)) (.int .i64 ((ns.length : Int) + 1))).run Tryz.prog W = .ok (.slice (some ⟨W.heap.size, 0, none⟩) (ns.length + 1) (ns.length + 1)) (W.alloc (.cells (madeCells #[.bool false] (ns.length + 1)) 4)) := fun W => hmk W
  clear hmk
  obtain ⟨An, cn, rfl⟩ := hq.form
  have HN := Lib.hid hq
  clear hq
  obtain ⟨l, hl⟩ : ∃ l, Hid (Gl.namesL (bl p) = l) := ⟨_, rfl⟩
  have hll : l.length ≤ 2000001 := by have := Gl.namesL_length (bl p); rw [hl.out, bl_length] at this; omega
  have hx : Hid (∀ x ∈ l, x.length ≤ 2000000) := fun x hx => by
    rw [← hl.out] at hx
    have := Gl.namesL_piece hx
    rw [bl_length] at this
    omega
  have hps : Hid (Gl.PcsOf l ps) := by have := Gl.readL_of H.out; rw [hl.out] at this; exact this
  have hpl0 := Gl.PcsOf.len hps.out
  have hpl : Hid (ps.length = l.length) := hpl0
  clear hpl0
  go_enter Tryz.func83, Tryz.ntmps83
  go_wp2_with fail
  refine (refNames_pat p hp _ hl).mono ?_
  rintro e w1 ⟨A, cc, rfl, hL0, b1⟩
  have hL : Hid (RC w1 (fun g => w.heap.size ≤ g ∧ g < w1.heap.size) (.slice A l.length cc) l.length (sc l)) := hL0
  have HN1 : Hid (RC w1 S (.slice An ns.length cn) ns.length (sc ns)) := HN.out.below b1
  clear hL0 HN
  have hN := BF.new w1 (ns.length + 1)
  have hbN := (Below.refl w1.heap.size w1).alloc (Nat.le_refl _) (.cells (madeCells #[.bool false] (ns.length + 1)) 4)
  obtain ⟨w2, hw2⟩ : ∃ w2, w1.alloc (.cells (madeCells #[.bool false] (ns.length + 1)) 4) = w2 := ⟨_, rfl⟩
  rw [hw2] at hN hbN
  have HW2 := Lib.hid hw2
  clear hw2
  have c0 := hN.cell (i := 0) (by omega)
  have f0 := hN.frozen 0
  have hR0 : BF (w2.setCell ⟨w1.heap.size, 0, none⟩ (.bool true)) w1.heap.size (ns.length + 1) (reachP (ps.take 0) ns) := (hN.set_ 0 true).congr fun i hi => by
    rw [List.take_zero, reachP_nil _ (by omega)]
    by_cases h : i = 0
    · rw [if_pos h]; simp [h]
    · rw [if_neg h]; simp [h]
  have hB0 := hbN.setCell (p := ⟨w1.heap.size, 0, none⟩) (Nat.le_refl _) (.bool true)
  have j0 : (0 : Int) < (ns.length : Int) + 1 := by omega
  clear hN hbN
  go_upto_region 2 with fail
  go_upto_region 3 with fail
  rw [HW2.out]
  go_wp2_with fail
  clear c0 f0 HW2
  go_loopw [6, 7, 8, 9] (fun t6 t7 _ _ wr => ∃ (k gc : Nat), k ≤ l.length ∧ t6 = .slice (some ⟨gc, 0, none⟩) (ns.length + 1) (ns.length + 1) ∧ t7 = .int .i64 (k : Int) ∧ w1.heap.size ≤ gc ∧ BF wr gc (ns.length + 1) (reachP (ps.take k) ns) ∧ Below w1.heap.size w1 wr) (fun _ t7 _ _ _ => l.length - (intOf t7).toNat)
  case atStart => exact ⟨0, _, by omega, rfl, rfl, Nat.le_refl _, hR0, hB0⟩
  case round =>
    clear hR0 hB0
    obtain ⟨k, gc, hk, rfl, rfl, hgc, hR, hB⟩ := hrel
    have jk : (0 : Int) ≤ (k : Int) := by omega
    rcases Nat.lt_or_ge k l.length with hkn | hkn
    · have i0 : decide ((k : Int) < (l.length : Int)) = true := by rw [decide_eq_true_eq]; omega
      have i0n : decide (k < l.length) = true := by rw [decide_eq_true_eq]; omega
      have i1 : (k : Int) < (l.length : Int) := by omega
      have hkp : k < ps.length := by have := hpl.out; omega
      have hpc := Gl.PcsOf.at_ hps.out k hkn hkp
      have hlx := hx.out _ (List.getElem_mem hkn)
      have hLr := hL.out.below hB
      obtain ⟨g, o, c, hvl, d0⟩ := hLr.str hkn
      obtain ⟨hA, hcc⟩ : A = some ⟨g, o, none⟩ ∧ cc = c := by injection hvl with e1 _ e3; exact ⟨e1, e3⟩
      subst hA hcc
      clear hvl hLr
      obtain ⟨x, hxe⟩ : ∃ x, l[k] = x := ⟨_, rfl⟩
      rw [hxe] at d0 hlx hpc
      have HXE := Lib.hid hxe
      clear hxe
      rcases hpc with ⟨hdeep, hq⟩ | ⟨hdeep, hdp, hmk⟩
      · have t2 : ((bs x).toList == [42, 42]) = true := by rw [toList_bs, hdeep]; rfl
        have HD : Hid (ps[k].deep = true) := by show _ = _; rw [hq]
        clear hdeep hq
        go_wp2_with fail
        refine (spread_any gc (ns.length + 1) _ _ hR (by omega) (by omega)).mono ?_
        rintro e w7 ⟨rfl, hR7, hG7⟩
        have hR8 : BF w7 gc (ns.length + 1) (reachP (ps.take (k + 1)) ns) := hR7.congr fun i hi => reachP_part hkp ns HD.out i (by omega)
        have hB7 := hB.grown hG7 hB.size (fun k e => by cases e; exact hgc)
        clear hR hR7 d0
        go_wp2_with fail
        go_roundw
        case rel => exact ⟨k + 1, gc, by omega, rfl, by go_num, hgc, hR8, hB7⟩
        case measure => simp [intOf]; omega
      · have t2 : ((bs x).toList == [42, 42]) = false := by rw [toList_bs]; simpa using hdeep
        have HD := Lib.hid hdp
        have HPX := Lib.hid hmk
        clear hdeep hdp hmk
        have hN := BF.new wr (ns.length + 1)
        have hBN := hB.alloc hB.size (.cells (madeCells #[.bool false] (ns.length + 1)) 4)
        have hRN : BF (wr.alloc (.cells (madeCells #[.bool false] (ns.length + 1)) 4)) gc (ns.length + 1) _ := Blk.alloc hR _
        have hgcl := hR.lt
        have hwr := hB.size
        have hN' : BF (wr.alloc (.cells (madeCells #[.bool false] (ns.length + 1)) 4)) wr.heap.size (ns.length + 1) (part_f (reachP (ps.take (k + 1)) ns) 1) := hN.congr fun i _ => by
          unfold part_f
          split
          · obtain rfl : i = 0 := by omega
            exact (reachP_zero hkp ns HD.out).symm
          · rfl
        have hstep : Hid (∀ i (hi : i < ns.length), reachP (ps.take (k + 1)) ns (i + 1) = (reachP (ps.take k) ns i && pcTakes ps[k] ns[i])) := fun i hi => reachP_succ hkp ns HD.out hi
        obtain ⟨F, hF⟩ : ∃ F, reachP (ps.take k) ns = F := ⟨_, rfl⟩
        obtain ⟨F2, hF2⟩ : ∃ F, reachP (ps.take (k + 1)) ns = F := ⟨_, rfl⟩
        rw [hF, hF2] at hstep
        rw [hF] at hRN
        rw [hF2] at hN'
        have HF2 := Lib.hid hF2
        clear hF hF2 hR hN
        obtain ⟨w5, hw5⟩ : ∃ w5, wr.alloc (.cells (madeCells #[.bool false] (ns.length + 1)) 4) = w5 := ⟨_, rfl⟩
        rw [hw5] at hRN hN' hBN
        have HW5 := Lib.hid hw5
        clear hw5
        obtain ⟨g2, hg2⟩ : ∃ g2, wr.heap.size = g2 := ⟨_, rfl⟩
        have hg2' : gc < g2 := by omega
        have hg2w : w1.heap.size ≤ g2 := by omega
        rw [hg2] at hN'
        have HG2 := Lib.hid hg2
        clear hg2 hgcl hwr hB
        go_upto_region 10 with fail
        rw [HW5.out, HG2.out]
        go_wp2_with fail
        clear d0 HW5 HG2
        go_loopw [9] (fun t9 wr => ∃ i : Nat, i ≤ ns.length ∧ t9 = .int .i64 (i : Int) ∧ BF wr g2 (ns.length + 1) (part_f F2 (i + 1)) ∧ BF wr gc (ns.length + 1) F ∧ Below w1.heap.size w1 wr) (fun t9 _ => ns.length - (intOf t9).toNat)
        case atStart => exact ⟨0, by omega, rfl, hN', hRN, hBN⟩
        case round =>
          clear hN' hRN hBN
          obtain ⟨i, hi, rfl, hN, hR, hB⟩ := hrel
          have ji : (0 : Int) ≤ (i : Int) := by omega
          rcases Nat.lt_or_ge i ns.length with hin | hin
          · have i2 : decide ((i : Int) < (ns.length : Int)) = true := by rw [decide_eq_true_eq]; omega
            have i2n : decide (i < ns.length) = true := by rw [decide_eq_true_eq]; omega
            have i3 : (i : Int) < (ns.length : Int) := by omega
            have i4 : (i : Int) < (ns.length : Int) + 1 := by omega
            have i5 : (i : Int) + 1 < (ns.length : Int) + 1 := by omega
            have hLr := hL.out.below hB
            obtain ⟨g', o', c', hvl, d0⟩ := hLr.str hkn
            obtain ⟨rfl, rfl, rfl⟩ : g = g' ∧ o = o' ∧ cc = c' := by injection hvl with e1 _ e3; injection e1 with e1; injection e1 with e1 e2; exact ⟨e1, e2, e3⟩
            rw [HXE.out] at d0
            have hNr := HN1.out.below hB
            obtain ⟨g3, o3, c3n, hvn, d1⟩ := hNr.str hin
            obtain ⟨hA3, hcc3⟩ : An = some ⟨g3, o3, none⟩ ∧ cn = c3n := by injection hvn with e1 _ e3; exact ⟨e1, e3⟩
            subst hA3 hcc3
            have hly := hnx.out _ (List.getElem_mem hin)
            have c3 := hR.cell (i := i) (by omega)
            have c4 := hN.cell (i := i + 1) (by omega)
            have f4 := hN.frozen (i + 1)
            have hst := hstep.out i hin
            obtain ⟨y, hye⟩ : ∃ y, ns[i] = y := ⟨_, rfl⟩
            rw [hye] at d1 hly hst
            obtain ⟨f, hf⟩ : ∃ f, F i = f := ⟨_, rfl⟩
            rw [hf] at c3 hst
            obtain ⟨tk, htk⟩ : ∃ tk, Hid (Gl.takesName ps[k].marks y = tk) := ⟨_, Lib.hid rfl⟩
            rw [show pcTakes ps[k] y = tk from htk.out] at hst
            have hNl := hN.lt
            have hRl := hR.lt
            have hn2 : Hid (∀ (W : World) (b : Bool), Below wr.heap.size wr W → (f && tk) = b → BF (W.setCell ⟨g2, i + 1, none⟩ (.bool b)) g2 (ns.length + 1) (part_f F2 (i + 1 + 1))) := fun W b hb e => ((hN.below hb hNl).set_ (i + 1) b).congr fun j _ => part_step F2 (i + 1) b (by rw [hst, e]) j
            have hRn : Hid (∀ (W : World) (b : Bool), Below wr.heap.size wr W → BF (W.setCell ⟨g2, i + 1, none⟩ (.bool b)) gc (ns.length + 1) F) := fun W b hb => (hR.below hb hRl).grown (setCell_grown W ⟨g2, i + 1, none⟩ _) (fun e => by injection e with e; have : g2 = gc := e; omega)
            have hBn : Hid (∀ (W : World) (b : Bool), Below wr.heap.size wr W → Below w1.heap.size w1 (W.setCell ⟨g2, i + 1, none⟩ (.bool b))) := fun W b hb => (below_of_below hB hb hB.size).setCell (p := ⟨g2, i + 1, none⟩) hg2w _
            have HNb := Lib.hid hN
            have hi1 : i + 1 < ns.length + 1 := by omega
            have BX := Below.refl wr.heap.size wr
            clear hf hst hLr hvl hNr hvn hye hstep hN hR hB HF2
            cases f with
            | false =>
              go_upto_region 13 with fail
              go_region
              go_wp2_with fail
              go_roundw
              case rel => exact ⟨i + 1, by omega, by go_num, hn2.out _ _ BX rfl, hRn.out _ _ BX, by first | exact (hBn.out _ _ BX).drew | exact hBn.out _ _ BX⟩
              case measure => simp [intOf]; omega
            | true =>
              have n0 : (0 : Int) ≤ (i : Int) + 1 := by omega
              have n1 : ((i : Int) + 1).toNat = i + 1 := by omega
              have n2 : IntKind.i64.wrap ((i : Int) + 1) = (i : Int) + 1 := IntWalk.i64_in _ (by omega)
              go_upto_region 13 with fail
              go_region_with (go_at_call 99; refine (takesR_at x y hlx hly HPX htk _).mono ?_; rintro e w9 ⟨rfl, hb0⟩; have BX := below_of_below (by first | exact Below.refl wr.heap.size wr | exact (Below.refl wr.heap.size wr).drew) hb0 (by first | exact Nat.le_refl _ | rfl); have BN := HNb.out.below BX hNl; have c4 := BN.cell hi1; have f4 := BN.frozen (i + 1); clear BN)
              all_goals (
                go_wp2_with fail
                go_roundw
                case rel => exact ⟨i + 1, by omega, by go_num, hn2.out _ _ BX rfl, hRn.out _ _ BX, by first | exact (hBn.out _ _ BX).drew | exact hBn.out _ _ BX⟩
                case measure => simp [intOf]; omega)
          · have i2 : decide ((i : Int) < (ns.length : Int)) = false := by rw [decide_eq_false_iff_not]; omega
            have i2n : decide (i < ns.length) = false := by rw [decide_eq_false_iff_not]; omega
            have hN2 : BF wr g2 (ns.length + 1) (reachP (ps.take (k + 1)) ns) := by
              rw [HF2.out]
              exact hN.congr fun j hj => by rw [part_f, if_pos (by omega)]
            clear hN hR hstep HF2
            go_wp2_with fail
            go_roundw
            case rel => exact ⟨k + 1, g2, by omega, rfl, by go_num, hg2w, hN2, hB⟩
            case measure => simp [intOf]; omega
    · have i0 : decide ((k : Int) < (l.length : Int)) = false := by rw [decide_eq_false_iff_not]; omega
      have i0n : decide (k < l.length) = false := by rw [decide_eq_false_iff_not]; omega
      have hR2 : BF wr gc (ns.length + 1) (reachP ps ns) := hR.congr fun i _ => by rw [List.take_of_length_le (by have := hpl.out; omega)]
      clear hR
      go_wp2_with fail
      go_ret
      exact ⟨gc, rfl, ⟨by have := b1.size; omega, hR2⟩, below_of_below b1 hB b1.size⟩
end Go.Proofs.YtdjfakampjbgeaaGreatDoor
