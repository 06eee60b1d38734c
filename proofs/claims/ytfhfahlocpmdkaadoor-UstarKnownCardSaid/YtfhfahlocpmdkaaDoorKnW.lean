/- stratalaw05.written, walked. -/
import Derived.Test.YtfhfahlocpmdkaaDoorKnW0
import Derived.Deep.RegionHeld3
import Derived.Deep.DeepCutAuto
namespace Go.Proofs.YtfhfahlocpmdkaaDoor
open Go.RowKit

theorem plain_9 (w : World) (hg : ErrVar w) : Calls Tryd.prog 15 #[eno 9, .int .i64 9] w fun e w' => e = .returned (.bool true) ∧ Below w.heap.size w w' :=
  plain_n 9 (by decide) w hg
def kL : List Us.Hd := [{ Us.hd0 with path := [97], mode := -1 }, { Us.hd0 with path := [97], mode := 2097152 }, { Us.hd0 with path := [97], size := 8589934592 }, { Us.hd0 with path := [97], link := reps [120] 101 }, { Us.hd0 with path := [97], user := reps [117] 32 }, { Us.hd0 with path := [97, 0] }]
def kN : List Nat := [1, 1, 1, 17, 6, 6]
def kNC : Array Value := (kN.map fun (x : Nat) => Value.int .i64 (x : Int)).toArray
theorem kL_enc : ∀ j : Fin 6, Us.enc (kL[j]) = (kN[j], []) := by decide +kernel
theorem kL_short : ∀ h ∈ kL, Short h := by
  intro h hh
  simp only [kL, List.mem_cons, List.not_mem_nil, or_false] at hh
  rcases hh with rfl | rfl | rfl | rfl | rfl | rfl <;> refine ⟨?_, ?_, ?_, ?_⟩ <;> simp [Us.hd0, bs_size, reps_length]
theorem k_at {g g2 : Nat} (j : Nat) (hj : j < 6) : ∃ (h : Us.Hd) (N : Nat), Short h ∧ N ≠ 0 ∧ N ≤ 32 ∧ Hid (Us.enc h = (N, [])) ∧ (∀ wx, Blk wx g 23 (hdsC kL) → HAt wx g (j * 12) h) ∧ (∀ wx, Blk wx g2 3 kNC → wx.cell? ⟨g2, j, none⟩ = some (.int .i64 (N : Int))) := by
  have hk2 : j < kN.length := hj
  have hall : ∀ x ∈ kN, x ≠ 0 ∧ x ≤ 32 := by decide
  obtain ⟨h1, h2⟩ := hall _ (List.getElem_mem hk2)
  refine ⟨kL[j], kN[j], kL_short _ (List.getElem_mem _), h1, h2, kL_enc ⟨j, hj⟩, fun wx hb => hds_at hb hj, fun wx hx => ?_⟩
  rw [hx.cell j, kNC, List.getElem?_toArray, List.getElem?_map, List.getElem?_eq_getElem hk2]
  rfl
theorem plain_eno (N : Nat) (h0 : N ≠ 0) (hN : N ≤ 32) (w : World) (hg : ErrVar w) : Calls Tryd.prog 15 #[eno (N : Int), .int .i64 (N : Int)] w fun e w' => e = .returned (.bool true) ∧ Below w.heap.size w w' := by
  have := plain_n N hN w hg
  rw [errN, if_neg h0] at this
  exact this
set_option maxRecDepth 100000 in
set_option maxHeartbeats 8000000 in
theorem written_any (w : World) (hg : ErrVar w) : Calls Tryd.prog 27 #[] w fun e w' => e = .returned (.bool true) ∧ Below w.heap.size w w' := by
  have HG := Lib.hid hg
  clear hg
  have E0 := Lib.hid enc_Z0
  have EA := Lib.hid enc_ZA
  have EP := Lib.hid enc_ZP
  have EL := Lib.hid enc_lH
  obtain ⟨o1, O1⟩ : ∃ o, Hid (o = bs (reps (bl ⟨#[0]⟩) 100)) := ⟨_, rfl⟩
  obtain ⟨o2, O2⟩ : ∃ o, Hid (o = bs (reps (bl ⟨#[0]⟩) 101)) := ⟨_, rfl⟩
  obtain ⟨o3, O3⟩ : ∃ o, Hid (o = bs (reps (bl ⟨#[0]⟩) 64)) := ⟨_, rfl⟩
  obtain ⟨o4, O4⟩ : ∃ o, Hid (o = bs (reps (bl ⟨#[0]⟩) 167)) := ⟨_, rfl⟩
  have z1 : o1.size = 100 := by rw [O1.out, bs_size, reps_length]; rfl
  have z2 : o2.size = 101 := by rw [O2.out, bs_size, reps_length]; rfl
  have z3 : o3.size = 64 := by rw [O3.out, bs_size, reps_length]; rfl
  have z4 : o4.size = 167 := by rw [O4.out, bs_size, reps_length]; rfl
  have ht0 := bne_of (want0 O1 O2 O3 O4)
  have la := ZA_len
  have lp := ZP_len
  have hzA : (bs ZA).size = 512 := by rw [bs_size]; exact la
  have hzP : (bs ZP).size = 512 := by rw [bs_size]; exact lp
  have tA0 : ((((bs ZA).size : Int)) != 512) = false := by rw [hzA]; rfl
  have tP0 : ((((bs ZP).size : Int)) != 512) = false := by rw [hzP]; rfl
  have tA1 : (!((bs ZA).extract 100 108).toList == [48, 48, 48, 48, 54, 52, 52, 0]) = false := by rw [ext_bs, ZA_at1, toList_bs]; rfl
  have tA2 : (!((bs ZA).extract 148 156).toList == [48, 48, 55, 51, 51, 54, 0, 32]) = false := by rw [ext_bs, ZA_at2, toList_bs]; rfl
  have qA1 : (108 : Int) ≤ ((bs ZA).size : Int) := by omega
  have qA2 : (156 : Int) ≤ ((bs ZA).size : Int) := by omega
  have qP1 : (100 : Int) ≤ ((bs ZP).size : Int) := by omega
  have qP2 : (500 : Int) ≤ ((bs ZP).size : Int) := by omega
  go_enter Tryd.func27, Tryd.ntmps27
  go_wp2_with fail
  refine (enc_ok_at Us.hd0 _ short_0 E0).mono ?_
  rintro e w1 ⟨rfl, b1⟩
  go_wp2_with (go_at_call 51; (first | (with_reducible refine (times_o ⟨#[0]⟩ 100 100 rfl _ (by decide) (by decide) O1).mono ?_) | (with_reducible refine (times_o ⟨#[0]⟩ 101 101 rfl _ (by decide) (by decide) O2).mono ?_) | (with_reducible refine (times_o ⟨#[0]⟩ 64 64 rfl _ (by decide) (by decide) O3).mono ?_) | (with_reducible refine (times_o ⟨#[0]⟩ 167 167 rfl _ (by decide) (by decide) O4).mono ?_)); rintro e w2 ⟨rfl, rfl⟩)
  clear ht0 z1 z2 z3 z4 O1 O2 O3 O4 E0
  refine (enc_ok_at zH _ short_zH EA).mono ?_
  rintro e w2 ⟨rfl, b2⟩
  have B2 := below_of_below b1 b2 b1.size
  clear b1 b2
  obtain ⟨o5, O5⟩ : ∃ o, Hid (o = bs lH.path) := ⟨_, rfl⟩
  obtain ⟨o6, O6⟩ : ∃ o, Hid (o = bs (reps (bl ⟨#[97]⟩) 99)) := ⟨_, rfl⟩
  obtain ⟨o7, O7⟩ : ∃ o, Hid (o = bs (reps (bl ⟨#[98]⟩) 100)) := ⟨_, rfl⟩
  obtain ⟨o8, O8⟩ : ∃ o, Hid (o = bs (reps (bl ⟨#[0]⟩) 56)) := ⟨_, rfl⟩
  go_wp2_with (go_at_call 51; (first | (with_reducible refine (times_o ⟨#[97]⟩ 101 101 rfl _ (by decide) (by decide) O5).mono ?_)); rintro e w3 ⟨rfl, rfl⟩)
  clear tA0 tA1 tA2 qA1 qA2
  obtain rfl := O5.out
  refine (enc_bad_at lH _ short_lH (by decide) EL).mono ?_
  rintro e w3 ⟨rfl, b3⟩
  have B3 := below_of_below B2 b3 B2.size
  clear b3 B2 O5
  have es : o6 ++ ⟨#[47]⟩ ++ o7 = bs pH.path := by
    rw [O6.out, O7.out, show (⟨#[47]⟩ : ByteArray) = bs [47] from rfl, bs_append, bs_append]
    show _ = bs (reps [97] 99 ++ 47 :: reps [98] 100)
    rw [List.append_assoc]
    rfl
  have zz : o6.size = 99 := by rw [O6.out, bs_size, reps_length]; rfl
  have zz7 : o7.size = 100 := by rw [O7.out, bs_size, reps_length]; rfl
  have zz8 : o8.size = 56 := by rw [O8.out, bs_size, reps_length]; rfl
  go_wp2_with (go_at_call 51; (first | (with_reducible refine (times_o ⟨#[97]⟩ 99 99 rfl _ (by decide) (by decide) O6).mono ?_) | (with_reducible refine (times_o ⟨#[98]⟩ 100 100 rfl _ (by decide) (by decide) O7).mono ?_)); rintro e w3 ⟨rfl, rfl⟩)
  refine (enc_ok_at pH _ short_pH EP).mono ?_
  rintro e w4 ⟨rfl, b4⟩
  have B4 := below_of_below B3 b4 B3.size
  clear b4 B3 es

  have tP1 : (!((bs ZP).extract 0 100).toList == o7.toList) = false := bne_of (by rw [ext_bs, ZP_at1, O7.out]; rfl)
  have tP2 : (!((bs ZP).extract 345 500).toList == (o6 ++ o8).toList) = false := bne_of (by rw [ext_bs, ZP_at2, O6.out, O8.out, bs_append]; rfl)
  clear la lp hzA EA EP EL
  go_upto_region 13 with fail
  go_cut [119] (fun s5 wx => s5 = .bool false ∧ Below w.heap.size w wx)
  case first =>
    go_region_held3 (fun _ => True) (exact trivial) (first | (go_at_call 15; refine (plain_9 _ (HG.out.below (by first | exact B4 | exact B4.drew) HG.out.lt)).mono ?_; rintro e w1 ⟨rfl, hb0⟩; have B5 := below_of_below (by first | exact B4 | exact B4.drew) hb0 (by first | exact B4.size | exact B4.drew.size)) | (go_at_call 51; (first | (with_reducible refine (times_o ⟨#[97]⟩ 99 99 rfl _ (by decide) (by decide) O6).mono ?_) | (with_reducible refine (times_o ⟨#[98]⟩ 100 100 rfl _ (by decide) (by decide) O7).mono ?_) | (with_reducible refine (times_o ⟨#[0]⟩ 56 56 rfl _ (by decide) (by decide) O8).mono ?_)); rintro e w3 ⟨rfl, rfl⟩))
    go_wp2_with fail
    go_meet
    exact ⟨rfl, B5⟩
  case rest =>
    obtain ⟨rfl, hB⟩ := hcut
    clear tP0 tP1 tP2 B4 qP1 qP2 hzP O6 O7 O8 zz zz7 zz8
    obtain ⟨o9, O9⟩ : ∃ o, Hid (o = bs (reps (bl ⟨#[120]⟩) 101)) := ⟨_, rfl⟩
    obtain ⟨o10, O10⟩ : ∃ o, Hid (o = bs (reps (bl ⟨#[117]⟩) 32)) := ⟨_, rfl⟩
    go_upto_region 15 with fail
    go_cut [12] (fun s12 wx => ∃ g, s12 = .slice (some ⟨g, 0, none⟩) 6 6 ∧ Blk wx g 23 (hdsC kL) ∧ Below w.heap.size w wx)
    case first =>
      go_wp2_with (go_at_call 51; (first | (with_reducible refine (times_o ⟨#[120]⟩ 101 101 rfl _ (by decide) (by decide) O9).mono ?_) | (with_reducible refine (times_o ⟨#[117]⟩ 32 32 rfl _ (by decide) (by decide) O10).mono ?_)); rintro e w3 ⟨rfl, rfl⟩)
      go_meet
      obtain rfl := O9.out
      obtain rfl := O10.out
      exact ⟨_, rfl, (by exact Blk.new _ 23 (hdsC kL)), hB.alloc hB.size _⟩
    case rest =>
      clear hB
      obtain ⟨g, rfl, hL, hB⟩ := hcut
      go_wp2_with fail
      go_loopw [14, 15, 16] (fun i _ _ wx => ∃ j : Nat, j ≤ 6 ∧ i = .int .i64 (j : Int) ∧ Blk wx g 23 (hdsC kL) ∧ Blk wx wc.heap.size 3 kNC ∧ Below w.heap.size w wx) (fun i _ _ _ => 6 - (intOf i).toNat)
      case atStart => exact ⟨0, by omega, rfl, hL.alloc _, (by exact Blk.new wc 3 kNC), hB.alloc hB.size _⟩
      case round =>
        clear hL hB
        obtain ⟨j, hj, rfl, hL, hx, hB⟩ := hrel
        by_cases hjn : j < 6
        · have i0 : decide ((j : Int) < 6) = true := by simp; omega
          have i1 : (0 : Int) ≤ (j : Int) := by omega
          have i2 : (j : Int) < 6 := by omega
          obtain ⟨h, N, hs, hN0, hN32, HE, hA, hC⟩ := k_at (g := g) (g2 := wc.heap.size) j hjn
          have HA := Lib.hid hA
          have HC := Lib.hid hC
          clear hA hC
          obtain ⟨c0, c1, c2, c3, c4, c5, c6, c7, c8, c9, c10, c11⟩ := HA.out _ hL
          go_wp2_with fail
          refine (enc_bad_at h _ hs hN0 HE).mono ?_
          rintro e w2 ⟨rfl, b2⟩
          clear c0 c1 c2 c3 c4 c5 c6 c7 c8 c9 c10 c11
          have hL := hL.below b2 hL.lt
          have hx := hx.below b2 hx.lt
          have hB := below_of_below hB b2 hB.size
          have G1 := HG.out.below hB HG.out.lt
          have hcc := HC.out _ hx
          clear b2
          go_wp2_with fail
          refine (plain_eno N hN0 hN32 _ G1).mono ?_
          rintro e w2 ⟨rfl, b2⟩
          clear hcc G1
          have hL := hL.below b2 hL.lt
          have hx := hx.below b2 hx.lt
          have hB := below_of_below hB b2 hB.size
          clear b2
          go_wp2_with fail
          go_roundw
          case rel => exact ⟨j + 1, by omega, by go_num, hL, hx, hB⟩
          case measure => simp [intOf]; omega
        · have i0 : decide ((j : Int) < 6) = false := by simp; omega
          go_wp2_with fail
          go_ret
          exact ⟨rfl, hB⟩
end Go.Proofs.YtfhfahlocpmdkaaDoor
