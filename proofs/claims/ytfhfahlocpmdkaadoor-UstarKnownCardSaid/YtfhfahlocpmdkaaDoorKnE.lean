/- stratalaw05.ends, walked. -/
import Derived.Test.YtfhfahlocpmdkaaDoorKnA
import Derived.Deep.DeepCutAuto
namespace Go.Proofs.YtfhfahlocpmdkaaDoor
open Go.RowKit

def endX : List Int := [-9223372036854775808, -1, 0, 1, 7, 8, 2097151, 2097152, 8589934591, 8589934592, 9223372036854775807]
def endXC : Array Value := (endX.map fun x => Value.int .i64 x).toArray
def endL (x : Int) : List Us.Hd := [{ Us.hd0 with mode := x }, { Us.hd0 with uid := x }, { Us.hd0 with gid := x }, { Us.hd0 with size := x }, { Us.hd0 with time := x }, { Us.hd0 with major := x }, { Us.hd0 with minor := x }]
theorem endL_short (x : Int) : ∀ h ∈ endL x, Short h := by
  intro h hh
  simp only [endL, List.mem_cons, List.not_mem_nil, or_false] at hh
  rcases hh with rfl | rfl | rfl | rfl | rfl | rfl | rfl <;> refine ⟨?_, ?_, ?_, ?_⟩ <;> simp [Us.hd0, bs_size]
def S47 : ByteArray := ⟨#[47]⟩
/-- "b", a hundred times. -/
@[irreducible] def B100 : ByteArray := bs (reps [98] 100)
theorem B100_size : B100.size = 100 := by unfold B100; rw [bs_size, reps_length]; rfl
theorem b100 (w : World) : Calls Tryd.prog 51 #[.string ⟨#[98]⟩, .int .i64 100] w fun e w' => e = .returned (.string B100) ∧ w' = w :=
  times_o ⟨#[98]⟩ 100 100 rfl w (by decide) (by decide) (by unfold B100; rfl)
def endM (s : ByteArray) : List Us.Hd := [{ Us.hd0 with path := bl s }, { Us.hd0 with path := bl (s ++ ⟨#[47]⟩) }, { Us.hd0 with path := bl (⟨#[47]⟩ ++ s) }, { Us.hd0 with path := bl (s ++ ⟨#[47, 98]⟩) }, { Us.hd0 with path := bl (⟨#[98, 47]⟩ ++ s) }, { Us.hd0 with path := bl (s ++ ⟨#[47]⟩ ++ B100) }, { Us.hd0 with link := bl s }, { Us.hd0 with user := bl s }, { Us.hd0 with group := bl s }]
theorem endM_short (s : ByteArray) (hs : s.size ≤ 1000) : ∀ h ∈ endM s, Short h := by
  intro h hh
  have z1 : (⟨#[47]⟩ : ByteArray).size = 1 := rfl
  have z2 : (⟨#[47, 98]⟩ : ByteArray).size = 2 := rfl
  have z3 : (⟨#[98, 47]⟩ : ByteArray).size = 2 := rfl
  simp only [endM, List.mem_cons, List.not_mem_nil, or_false] at hh
  rcases hh with rfl | rfl | rfl | rfl | rfl | rfl | rfl | rfl | rfl <;> refine ⟨?_, ?_, ?_, ?_⟩ <;> simp only [bs_size, bl_length, ByteArray.size_append, B100_size, z1, z2, z3, Us.hd0, List.length_nil] <;> omega
def endF : List Int := [100, 108, 116, 124, 136, 329, 337, 0, 156, 157, 257, 263, 264, 265, 345, 500]
def endFC : Array Value := (endF.map fun x => Value.int .i64 x).toArray
theorem endF_at {w : World} {g k : Nat} (hx : Blk w g 3 endFC) (hk : k < 16) : ∃ x : Int, 0 ≤ x ∧ x ≤ 500 ∧ w.cell? ⟨g, k, none⟩ = some (.int .i64 x) := by
  have hk2 : k < endF.length := hk
  have hall : ∀ x ∈ endF, 0 ≤ x ∧ x ≤ 500 := by decide
  obtain ⟨h1, h2⟩ := hall _ (List.getElem_mem hk2)
  refine ⟨endF[k], h1, h2, ?_⟩
  rw [hx.cell k, endFC, List.getElem?_toArray, List.getElem?_map, List.getElem?_eq_getElem hk2]
  rfl
theorem short_u (c : UInt8) : Short { Us.hd0 with type := c, path := [c], user := [c] } := by
  refine ⟨?_, ?_, ?_, ?_⟩ <;> simp [Us.hd0, bs_size]
theorem short_v (c : UInt8) : Short { Us.hd0 with type := c, link := [c] } := by
  refine ⟨?_, ?_, ?_, ?_⟩ <;> simp [Us.hd0, bs_size]
theorem short_al : Short { Us.hd0 with path := [97], link := [108] } := ⟨by decide, by decide, by decide, by decide⟩
theorem endX_at {w : World} {g k : Nat} (hx : Blk w g 2 endXC) (hk : k < 11) : ∃ x : Int, w.cell? ⟨g, k, none⟩ = some (.int .i64 x) := by
  have hk2 : k < endX.length := hk
  refine ⟨endX[k], ?_⟩
  rw [hx.cell k, endXC, List.getElem?_toArray, List.getElem?_map, List.getElem?_eq_getElem hk2]
  rfl
set_option maxRecDepth 100000 in
set_option maxHeartbeats 8000000 in
theorem ends_any (w : World) (hg : ErrVar w) : Calls Tryd.prog 29 #[] w fun e w' => e = .returned (.bool true) ∧ Below w.heap.size w w' := by
  have HG := Lib.hid hg
  clear hg
  have hx0 : Blk (w.alloc (.cells endXC 2)) w.heap.size 2 endXC := Blk.new _ _ _
  have B0 : Below w.heap.size w (w.alloc (.cells endXC 2)) := (Below.refl _ _).alloc (Nat.le_refl _) _
  go_enter Tryd.func29, Tryd.ntmps29
  go_wp2_with fail
  go_loopw [2, 3, 4] (fun i _ _ wr => ∃ k : Nat, k ≤ 11 ∧ i = .int .i64 (k : Int) ∧ Blk wr w.heap.size 2 endXC ∧ Below w.heap.size w wr) (fun i _ _ _ => 11 - (intOf i).toNat)
  case atStart => exact ⟨0, by omega, rfl, hx0, B0⟩
  case round =>
    clear hx0 B0
    obtain ⟨k, hk, rfl, hx, hB⟩ := hrel
    by_cases hkn : k < 11
    · have i0 : decide ((k : Int) < 11) = true := by simp; omega
      have i1 : (0 : Int) ≤ (k : Int) := by omega
      have i2 : (k : Int) < 11 := by omega
      obtain ⟨x, hxk⟩ := endX_at hx hkn
      go_upto_region 5 with fail
      go_cut [3] (fun s3 wx => ∃ g, s3 = .slice (some ⟨g, 0, none⟩) 7 7 ∧ Blk wx g 23 (hdsC (endL x)) ∧ Blk wx w.heap.size 2 endXC ∧ Below w.heap.size w wx)
      case first =>
        refine wp_still_tail 35 (by kernel_rfl) (by kernel_rfl) ?_
        simp only [List.take_succ_cons, List.take_zero, List.drop_succ_cons, List.drop_zero]
        repeat still_step
        refine wpStill_nil ?_
        go_wp2_with fail
        go_meet
        exact ⟨_, rfl, (by exact Blk.new wr.drew 23 (hdsC (endL x))), (by have q := hx.drewN 1; exact q.alloc _), hB.drew.alloc hB.size _⟩
      case rest =>
        clear hx hB hxk
        obtain ⟨g, rfl, hL, hx, hB⟩ := hcut
        go_wp2_with fail
        go_loopw [4] (fun s4 wx => ∃ j : Nat, j ≤ 7 ∧ s4 = .int .i64 (j : Int) ∧ Blk wx g 23 (hdsC (endL x)) ∧ Blk wx w.heap.size 2 endXC ∧ Below w.heap.size w wx) (fun s4 _ => 7 - (intOf s4).toNat)
        case atStart => exact ⟨0, by omega, rfl, hL, hx, hB⟩
        case round =>
          clear hL hx hB
          obtain ⟨j, hj, rfl, hL, hx, hB⟩ := hrel
          by_cases hjn : j < 7
          · have i0 : decide ((j : Int) < 7) = true := by simp; omega
            have i1 : (0 : Int) ≤ (j : Int) := by omega
            have i2 : (j : Int) < 7 := by omega
            obtain ⟨h, hs, hA⟩ : ∃ h, Short h ∧ ∀ wx, Blk wx g 23 (hdsC (endL x)) → HAt wx g (j * 12) h := ⟨(endL x)[j], endL_short x _ (List.getElem_mem _), fun wx hb => hds_at hb hjn⟩
            have HA := Lib.hid hA
            clear hA
            have G1 := HG.out.below hB HG.out.lt
            obtain ⟨c0, c1, c2, c3, c4, c5, c6, c7, c8, c9, c10, c11⟩ := HA.out _ hL
            go_wp2_with fail
            refine (lawEncode h _ hs G1).mono ?_
            rintro e w2 ⟨rfl, b2⟩
            clear c0 c1 c2 c3 c4 c5 c6 c7 c8 c9 c10 c11 G1
            have hL := hL.below b2 hL.lt
            have hx := hx.below b2 hx.lt
            have hB := below_of_below hB b2 hB.size
            have G1 := HG.out.below hB HG.out.lt
            obtain ⟨c0, c1, c2, c3, c4, c5, c6, c7, c8, c9, c10, c11⟩ := HA.out _ hL
            clear b2
            go_wp2_with fail
            refine (lawBack h _ hs G1).mono ?_
            rintro e w2 ⟨rfl, b2⟩
            clear c0 c1 c2 c3 c4 c5 c6 c7 c8 c9 c10 c11 G1
            have hL := hL.below b2 hL.lt
            have hx := hx.below b2 hx.lt
            have hB := below_of_below hB b2 hB.size
            clear b2
            go_wp2_with fail
            go_roundw
            case rel => exact ⟨j + 1, by omega, by go_num, hL, hx, hB⟩
            case measure => simp [intOf]; omega
          · have i0 : decide ((j : Int) < 7) = false := by simp; omega
            go_wp2_with fail
            go_roundw
            case rel => exact ⟨k + 1, by omega, by go_num, hx, hB⟩
            case measure => simp [intOf]; omega
    · have i0 : decide ((k : Int) < 11) = false := by simp; omega
      clear hx
      go_wp2_with fail
      go_loopw [5, 6, 7, 8] (fun i _ _ _ wx => ∃ n : Nat, n ≤ 300 ∧ i = .int .i64 (n : Int) ∧ Below w.heap.size w wx) (fun i _ _ _ _ => 300 - (intOf i).toNat)
      case atStart => exact ⟨0, by omega, rfl, hB⟩
      case round =>
        clear hB
        obtain ⟨n, hn, rfl, hB⟩ := hrel
        by_cases hnn : n < 300
        · have i0 : decide ((n : Int) < 300) = true := by simp; omega
          go_wp2_with fail
          refine (times_sz ⟨#[97]⟩ n _ (by omega) (by decide)).mono ?_
          rintro e w2 ⟨o, rfl, ho, rfl⟩
          have hoz : o.size ≤ 1000 := by rw [ho]; show n * 1 ≤ 1000; omega
          clear ho
          go_upto_region 15 with fail
          go_cut [7] (fun s7 wx => ∃ g, s7 = .slice (some ⟨g, 0, none⟩) 9 9 ∧ Blk wx g 23 (hdsC (endM o)) ∧ Below w.heap.size w wx)
          case first =>
            have hbz := B100_size
            go_wp2_with (go_at_call 51; refine (b100 _).mono ?_; rintro e w2 ⟨rfl, rfl⟩)
            go_meet
            refine ⟨_, rfl, ?_, hB.alloc hB.size _⟩
            exact Blk.new _ 23 (hdsC (endM o))
          case rest =>
            clear hB
            obtain ⟨g, rfl, hL, hB⟩ := hcut
            go_wp2_with fail
            go_loopw [8] (fun s8 wx => ∃ j : Nat, j ≤ 9 ∧ s8 = .int .i64 (j : Int) ∧ Blk wx g 23 (hdsC (endM o)) ∧ Below w.heap.size w wx) (fun s8 _ => 9 - (intOf s8).toNat)
            case atStart => exact ⟨0, by omega, rfl, hL, hB⟩
            case round =>
              clear hL hB
              obtain ⟨j, hj, rfl, hL, hB⟩ := hrel
              by_cases hjn : j < 9
              · have i0 : decide ((j : Int) < 9) = true := by simp; omega
                have i1 : (0 : Int) ≤ (j : Int) := by omega
                have i2 : (j : Int) < 9 := by omega
                obtain ⟨h, hs, hA⟩ : ∃ h, Short h ∧ ∀ wx, Blk wx g 23 (hdsC (endM o)) → HAt wx g (j * 12) h := ⟨(endM o)[j], endM_short o hoz _ (List.getElem_mem _), fun wx hb => hds_at hb hjn⟩
                have HA := Lib.hid hA
                clear hA
                have G1 := HG.out.below hB HG.out.lt
                obtain ⟨c0, c1, c2, c3, c4, c5, c6, c7, c8, c9, c10, c11⟩ := HA.out _ hL
                go_wp2_with fail
                refine (lawEncode h _ hs G1).mono ?_
                rintro e w2 ⟨rfl, b2⟩
                clear c0 c1 c2 c3 c4 c5 c6 c7 c8 c9 c10 c11 G1
                have hL := hL.below b2 hL.lt
                have hB := below_of_below hB b2 hB.size
                have G1 := HG.out.below hB HG.out.lt
                obtain ⟨c0, c1, c2, c3, c4, c5, c6, c7, c8, c9, c10, c11⟩ := HA.out _ hL
                clear b2
                go_wp2_with fail
                refine (lawBack h _ hs G1).mono ?_
                rintro e w2 ⟨rfl, b2⟩
                clear c0 c1 c2 c3 c4 c5 c6 c7 c8 c9 c10 c11 G1
                have hL := hL.below b2 hL.lt
                have hB := below_of_below hB b2 hB.size
                clear b2
                go_wp2_with fail
                go_roundw
                case rel => exact ⟨j + 1, by omega, by go_num, hL, hB⟩
                case measure => simp [intOf]; omega
              · have i0 : decide ((j : Int) < 9) = false := by simp; omega
                go_wp2_with fail
                go_roundw
                case rel => exact ⟨n + 1, by omega, by go_num, hB⟩
                case measure => simp [intOf]; omega
        · have i0 : decide ((n : Int) < 300) = false := by simp; omega
          go_wp2_with fail
          go_loopw [9, 10] (fun i _ wx => ∃ a : Nat, a ≤ 32 ∧ i = .int .i64 (a : Int) ∧ Below w.heap.size w wx) (fun i _ _ => 32 - (intOf i).toNat)
          case atStart => exact ⟨0, by omega, rfl, hB⟩
          case round =>
            clear hB
            obtain ⟨a, ha, rfl, hB⟩ := hrel
            by_cases han : a < 32
            · have i0 : decide ((a : Int) < 32) = true := by simp; omega
              go_upto_if 138 with (refine wpList_store_hd rfl _ _ rfl wr.heap.size { Us.hd0 with path := [112] } rfl rfl Us.hd0 (Blk.new _ _ _) ?_; intro w2 hH hb2 hz2; have hB0 := hB.size; have hB := hB.trans ((((Below.refl _ _).alloc (Nat.le_refl _) _).trans hb2).mono hB.size); clear hb2 hz2)
              obtain ⟨g, hg, hgw⟩ : ∃ g, g = wr.heap.size ∧ w.heap.size ≤ g := ⟨_, rfl, hB0⟩
              rw [← hg] at hH ⊢
              clear hg hB0
              obtain ⟨h, hs, hH⟩ : ∃ h, Short h ∧ Blk w2 g 23 (hdC h) := ⟨_, by refine ⟨?_, ?_, ?_, ?_⟩ <;> simp [Us.hd0, bs_size], hH⟩
              go_cut [10] (fun s10 wx => s10 = .pointer (some ⟨g, 0, none⟩) ∧ ∃ h, Short h ∧ Blk wx g 23 (hdC h) ∧ Below w.heap.size w wx)
              case first =>
                obtain ⟨c0, c1, c2, c3, c4, c5, c6, c7, c8, c9, c10, c11, f0, f1, f2, f3, f4, f5, f6, f7, f8, f9, f10, f11⟩ := cells12 hH
                go_wp2_with fail
                all_goals (go_meet; first | exact ⟨rfl, h, hs, hH, hB⟩ | exact ⟨rfl, { h with mode := (-1) }, (by obtain ⟨q1, q2, q3, q4⟩ := hs; constructor <;> assumption), hd_mode hH _, hB.setCell hgw _⟩)
              case rest =>
              clear hH hB hs
              clear h
              obtain ⟨rfl, h, hs, hH, hB⟩ := hcut
              go_upto_if 142 with fail
              go_cut [10] (fun s10 wx => s10 = .pointer (some ⟨g, 0, none⟩) ∧ ∃ h, Short h ∧ Blk wx g 23 (hdC h) ∧ Below w.heap.size w wx)
              case first =>
                obtain ⟨c0, c1, c2, c3, c4, c5, c6, c7, c8, c9, c10, c11, f0, f1, f2, f3, f4, f5, f6, f7, f8, f9, f10, f11⟩ := cells12 hH
                go_wp2_with (go_at_call 51; refine (times_z ⟨#[108]⟩ 101 101 rfl _ (by decide) (by decide)).mono ?_; rintro e w3 ⟨l, rfl, hl, rfl⟩)
                all_goals (go_meet; first | exact ⟨rfl, h, hs, hH, hB⟩ | exact ⟨rfl, { h with link := l }, (by have hl2 : (bs l).size ≤ 1000000000 := (by rw [hl]; decide); obtain ⟨q1, q2, q3, q4⟩ := hs; constructor <;> assumption), hd_link hH _, hB.setCell hgw _⟩)
              case rest =>
              clear hH hB hs
              clear h
              obtain ⟨rfl, h, hs, hH, hB⟩ := hcut
              go_upto_if 147 with fail
              go_cut [10] (fun s10 wx => s10 = .pointer (some ⟨g, 0, none⟩) ∧ ∃ h, Short h ∧ Blk wx g 23 (hdC h) ∧ Below w.heap.size w wx)
              case first =>
                obtain ⟨c0, c1, c2, c3, c4, c5, c6, c7, c8, c9, c10, c11, f0, f1, f2, f3, f4, f5, f6, f7, f8, f9, f10, f11⟩ := cells12 hH
                go_wp2_with (go_at_call 51; refine (times_z ⟨#[112]⟩ 101 101 rfl _ (by decide) (by decide)).mono ?_; rintro e w3 ⟨l, rfl, hl, rfl⟩)
                all_goals (go_meet; first | exact ⟨rfl, h, hs, hH, hB⟩ | exact ⟨rfl, { h with path := l }, (by have hl2 : (bs l).size ≤ 1000000000 := (by rw [hl]; decide); obtain ⟨q1, q2, q3, q4⟩ := hs; constructor <;> assumption), hd_path hH _, hB.setCell hgw _⟩)
              case rest =>
              clear hH hB hs
              clear h
              obtain ⟨rfl, h, hs, hH, hB⟩ := hcut
              go_upto_if 152 with fail
              go_cut [10] (fun s10 wx => s10 = .pointer (some ⟨g, 0, none⟩) ∧ ∃ h, Short h ∧ Blk wx g 23 (hdC h) ∧ Below w.heap.size w wx)
              case first =>
                obtain ⟨c0, c1, c2, c3, c4, c5, c6, c7, c8, c9, c10, c11, f0, f1, f2, f3, f4, f5, f6, f7, f8, f9, f10, f11⟩ := cells12 hH
                go_wp2_with (go_at_call 51; refine (times_z ⟨#[117]⟩ 32 32 rfl _ (by decide) (by decide)).mono ?_; rintro e w3 ⟨l, rfl, hl, rfl⟩)
                all_goals (go_meet; first | exact ⟨rfl, h, hs, hH, hB⟩ | exact ⟨rfl, { h with user := l }, (by have hl2 : (bs l).size ≤ 1000000000 := (by rw [hl]; decide); obtain ⟨q1, q2, q3, q4⟩ := hs; constructor <;> assumption), hd_user hH _, hB.setCell hgw _⟩)
              case rest =>
              clear hH hB hs
              clear h
              obtain ⟨rfl, h, hs, hH, hB⟩ := hcut
              go_upto_if 157 with fail
              go_cut [10] (fun s10 wx => s10 = .pointer (some ⟨g, 0, none⟩) ∧ ∃ h, Short h ∧ Blk wx g 23 (hdC h) ∧ Below w.heap.size w wx)
              case first =>
                obtain ⟨c0, c1, c2, c3, c4, c5, c6, c7, c8, c9, c10, c11, f0, f1, f2, f3, f4, f5, f6, f7, f8, f9, f10, f11⟩ := cells12 hH
                go_wp2_with fail
                all_goals (go_meet; first | exact ⟨rfl, h, hs, hH, hB⟩ | exact ⟨rfl, { h with time := (8589934592) }, (by obtain ⟨q1, q2, q3, q4⟩ := hs; constructor <;> assumption), hd_time hH _, hB.setCell hgw _⟩)
              case rest =>
              clear hH hB hs
              clear h
              obtain ⟨rfl, h, hs, hH, hB⟩ := hcut
              have G1 := HG.out.below hB HG.out.lt
              obtain ⟨c0, c1, c2, c3, c4, c5, c6, c7, c8, c9, c10, c11, _, _, _, _, _, _, _, _, _, _, _, _⟩ := cells12 hH
              go_wp2_with fail
              refine (lawEncode h _ hs G1).mono ?_
              rintro e w2 ⟨rfl, b2⟩
              have hB := below_of_below hB b2 hB.size
              clear c0 c1 c2 c3 c4 c5 c6 c7 c8 c9 c10 c11 G1 b2 hH
              go_wp2_with fail
              go_roundw
              case rel => exact ⟨a + 1, by omega, by go_num, hB⟩
              case measure => simp [intOf]; omega
            · have i0 : decide ((a : Int) < 32) = false := by simp; omega
              go_wp2_with fail
              go_loopw [11, 12, 13, 14, 15] (fun i _ _ _ _ wx => ∃ c : Nat, c ≤ 256 ∧ i = .int .i64 (c : Int) ∧ Below w.heap.size w wx) (fun i _ _ _ _ _ => 256 - (intOf i).toNat)
              case atStart => exact ⟨0, by omega, rfl, hB⟩
              case round =>
                clear hB
                obtain ⟨c, hc, rfl, hB⟩ := hrel
                by_cases hcn : c < 256
                · obtain ⟨u, rfl⟩ : ∃ u : UInt8, c = u.toNat := ⟨UInt8.ofNat c, by rw [UInt8.toNat_ofNat']; omega⟩
                  have i0 : decide ((u.toNat : Int) < 256) = true := by simp; omega
                  have cnow := conv_now
                  go_wp2_with fail
                  have hB := hB.alloc hB.size (.cells #[.int .u8 (u.toNat : Int)] 5)
                  have G1 := HG.out.below hB HG.out.lt
                  refine (lawEncode { Us.hd0 with type := u, path := [u], user := [u] } _ (short_u u) G1).mono ?_
                  rintro e w2 ⟨rfl, b2⟩
                  have hB := below_of_below hB b2 hB.size
                  have G1 := HG.out.below hB HG.out.lt
                  clear b2 cnow
                  go_wp2_with fail
                  refine (lawBack { Us.hd0 with type := u, link := [u] } _ (short_v u) G1).mono ?_
                  rintro e w3 ⟨rfl, b3⟩
                  have hB := below_of_below hB b3 hB.size
                  clear b3 G1
                  have hF0 : Blk (w3.alloc (.cells endFC 3)) w3.heap.size 3 endFC := Blk.new _ _ _
                  have hB0 := hB.alloc hB.size (.cells endFC 3)
                  go_wp2_with fail
                  obtain ⟨g, hg⟩ : ∃ g, g = w3.heap.size := ⟨_, rfl⟩
                  rw [← hg] at hF0 ⊢
                  clear hg hB
                  go_loopw [14, 15] (fun i _ wx => ∃ j : Nat, j ≤ 16 ∧ i = .int .i64 (j : Int) ∧ Blk wx g 3 endFC ∧ Below w.heap.size w wx) (fun i _ _ => 16 - (intOf i).toNat)
                  case atStart => exact ⟨0, by omega, rfl, hF0, hB0⟩
                  case round =>
                    clear hF0 hB0
                    obtain ⟨j, hj, rfl, hF, hB⟩ := hrel
                    by_cases hjn : j < 16
                    · have i0 : decide ((j : Int) < 16) = true := by simp; omega
                      have i1 : (0 : Int) ≤ (j : Int) := by omega
                      have i2 : (j : Int) < 16 := by omega
                      go_wp2_with fail
                      go_loopw [15] (fun i wx => ∃ a : Nat, a ≤ 14 ∧ i = .int .i64 (a : Int) ∧ Blk wx g 3 endFC ∧ Below w.heap.size w wx) (fun i _ => 14 - (intOf i).toNat)
                      case atStart => exact ⟨0, by omega, rfl, hF, hB⟩
                      case round =>
                        clear hF hB
                        obtain ⟨a, ha, rfl, hF, hB⟩ := hrel
                        by_cases han : a < 12
                        · have i0 : decide ((a : Int) < 12) = true := by simp; omega
                          obtain ⟨x, hx1, hx2, hxk⟩ := endF_at hF hjn
                          have G1 := HG.out.below hB HG.out.lt
                          go_wp2_with fail
                          refine (lawForged { Us.hd0 with path := [97], link := [108] } (x + (a : Int)) (tS u) _ short_al (by omega) (by omega) (by rw [tS_size]; decide) G1).mono ?_
                          rintro e w4 ⟨rfl, b4⟩
                          have hF := hF.below b4 hF.lt
                          have hB := below_of_below hB b4 hB.size
                          clear b4 G1 hxk
                          go_wp2_with fail
                          go_roundw
                          case rel => exact ⟨a + 3, by omega, by go_num, hF, hB⟩
                          case measure => simp [intOf]; omega
                        · have i0 : decide ((a : Int) < 12) = false := by simp; omega
                          go_wp2_with fail
                          go_roundw
                          case rel => exact ⟨j + 1, by omega, by go_num, hF, hB⟩
                          case measure => simp [intOf]; omega
                    · have i0 : decide ((j : Int) < 16) = false := by simp; omega
                      clear hF
                      go_wp2_with fail
                      go_roundw
                      case rel => exact ⟨u.toNat + 1, by omega, by go_num, hB⟩
                      case measure => simp [intOf]; omega
                · have i0 : decide ((c : Int) < 256) = false := by simp; omega
                  go_wp2_with fail
                  go_ret
                  exact ⟨rfl, hB⟩
end Go.Proofs.YtfhfahlocpmdkaaDoor
