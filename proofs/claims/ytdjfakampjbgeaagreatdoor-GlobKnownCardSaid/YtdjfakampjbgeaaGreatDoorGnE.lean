/- stratalaw02's edged, walked: true. -/
import Derived.Test.YtdjfakampjbgeaaGreatDoorGrH
import Derived.Test.YtdjfakampjbgeaaGreatDoorGoH
import Derived.Test.YtdjfakampjbgeaaGreatDoorGoJ
import Derived.Laws.BytesArg
namespace Go.Proofs.YtdjfakampjbgeaaGreatDoor
open Go Go.RowKit

/-- a string of one byte, out of a row of one byte. -/
theorem byte_text (c : Nat) : ∃ s : ByteArray, s.size = 1 ∧ ∀ W : World, (convert 74 9 (.slice (some ⟨W.heap.size, 0, none⟩) 1 1)).run Tryz.prog (W.alloc (.cells #[.int .u8 (c : Int)] 5)) = .ok (.string s) (W.alloc (.cells #[.int .u8 (c : Int)] 5)) := by
  refine ⟨strOfNums [(c : Int)], by simp [strOfNums, ByteArray.size], fun W => ?_⟩
  exact run_convert_bytes_arg (P := Tryz.prog) (W.alloc (.cells #[.int .u8 (c : Int)] 5)) 74 5 Tryz.underlying74 Tryz.underlying5 W.heap.size 0 1 1 [(c : Int)] rfl (fun i hi => by
    obtain rfl : i = 0 := by simpa using hi
    simp) 9 Tryz.underlying9
/-- texts in a block. -/
def tcs (ys : List ByteArray) : Array Value := (ys.map Value.string).toArray
theorem tcs_cell {w : World} {g i : Nat} {ys : List ByteArray} (h : Blk w g 9 (tcs ys)) (hi : i < ys.length) : w.cell? ⟨g, i, none⟩ = some (.string ys[i]) := by
  rw [h.cell]; simp [tcs, hi]
theorem tcs_arg {w : World} {g : Nat} {ys : List ByteArray} (h : Blk w g 9 (tcs ys)) : ArgT w (some ⟨g, 0, none⟩) (ys.map bl) := fun j hj => by
  have hj2 : j < ys.length := by simpa using hj
  refine ⟨_, rfl, ?_⟩
  rw [Addr.add_lit, Nat.zero_add, tcs_cell h hj2]
  simp [bs_bl]
/-- all texts that the laws are asked at. -/
def small (ys : List ByteArray) : Prop := ∀ y ∈ ys, y.size ≤ 40
theorem out_lit (a b : ByteArray) (ha : a.size ≤ 1048576) (hb : b.size ≤ 1048576) (g n : Nat) (ys : List ByteArray) (hn : ys.length = n) (hs : small ys) (w : World) (hK : Blk w g 9 (tcs ys)) (hg : ErrVar w) (hm : Maxl w) :
    Calls Tryz.prog 38 #[.string a, .string b, .slice (some ⟨g, 0, none⟩) n n] w fun e w' => e = .returned (.bool true) ∧ Below w.heap.size w w' := by
  have h := lawOut a b (some ⟨g, 0, none⟩) n (ys.map bl) w ha hb (tcs_arg hK) (fun x hx => by
    obtain ⟨y, hy, rfl⟩ := List.mem_map.1 hx
    have := hs y hy
    rw [bl_length]; omega) hg hm
  rwa [List.length_map, hn] at h
def psT : List ByteArray := [⟨#[97]⟩, ⟨#[120]⟩, ⟨#[120, 47, 121]⟩, ⟨#[]⟩]
theorem psT_small : small psT := by unfold small; decide
def linesT : List ByteArray := [⟨#[33, 120]⟩, ⟨#[33, 33, 120]⟩, ⟨#[32, 33, 32, 120, 13]⟩, ⟨#[35, 120]⟩, ⟨#[33, 97, 47, 98]⟩, ⟨#[33, 42]⟩, ⟨#[33, 35, 120]⟩, ⟨#[92, 33, 120]⟩, ⟨#[33, 92, 33, 120]⟩, ⟨#[120]⟩, ⟨#[]⟩, ⟨#[33, 42, 42]⟩, ⟨#[33, 32]⟩]
theorem linesT_small : small linesT := by unfold small; decide
def textsT : List ByteArray := [⟨#[]⟩, ⟨#[120]⟩, ⟨#[97, 47, 98, 10, 42, 10]⟩, ⟨#[33, 120]⟩, ⟨#[42, 42, 10, 33, 97]⟩, ⟨#[35]⟩, ⟨#[33, 92, 33, 42]⟩]
theorem textsT_small : small textsT := by unfold small; decide
def pathsT : List ByteArray := [⟨#[120]⟩, ⟨#[33, 120]⟩, ⟨#[97, 47, 98]⟩, ⟨#[97, 47, 98, 47, 99]⟩, ⟨#[35, 120]⟩, ⟨#[]⟩, ⟨#[120, 47, 121]⟩]
theorem pathsT_small : small pathsT := by unfold small; decide
theorem ErrVar.drew' {w : World} (h : ErrVar w) : ErrVar w.drew := h.below ((Below.refl _ _).drew) h.lt
theorem Maxl.drew' {w : World} (h : Maxl w) : Maxl w.drew := h.below ((Below.refl _ _).drew) h.lt
set_option maxRecDepth 100000 in
set_option maxHeartbeats 16000000 in
theorem edged_any (w : World) (hg : ErrVar w) (hm : Maxl w) : Calls Tryz.prog 17 #[] w fun e w' => e = .returned (.bool true) ∧ Below w.heap.size w w' := by
  have HG := Lib.hid hg
  have HM := Lib.hid hm
  clear hg hm
  go_enter Tryz.func17, Tryz.ntmps17
  go_wp2_with fail
  go_loopw [1, 2, 3, 4] (fun t1 _ _ _ wr => ∃ c : Nat, c ≤ 256 ∧ t1 = .int .i64 (c : Int) ∧ Below w.heap.size w wr) (fun t1 _ _ _ _ => 256 - (intOf t1).toNat)
  case atStart => exact ⟨0, by omega, rfl, Below.refl _ _⟩
  case round =>
    obtain ⟨c, hc, rfl, hB⟩ := hrel
    have j0 : (0 : Int) ≤ (c : Int) := by omega
    rcases Nat.lt_or_ge c 256 with hcn | hcn
    · have i0 : decide ((c : Int) < 256) = true := by rw [decide_eq_true_eq]; omega
      have hw : IntKind.u8.wrap (c : Int) = (c : Int) := by
        unfold IntKind.wrap
        simp [IntKind.bits, IntKind.signed]
        omega
      obtain ⟨s, hz, hconv⟩ := byte_text c
      have z1 : (⟨#[92]⟩ : ByteArray).size = 1 := rfl
      have z2 : (⟨#[91]⟩ : ByteArray).size = 1 := rfl
      have z3 : (⟨#[93]⟩ : ByteArray).size = 1 := rfl
      have z4 : (⟨#[91, 33]⟩ : ByteArray).size = 2 := rfl
      have z5 : (⟨#[120, 93]⟩ : ByteArray).size = 2 := rfl
      have z6 : (⟨#[91, 97, 45]⟩ : ByteArray).size = 3 := rfl
      have z7 : (⟨#[45, 122, 93]⟩ : ByteArray).size = 3 := rfl
      have z8 : (⟨#[97]⟩ : ByteArray).size = 1 := rfl
      have z9 : (⟨#[98]⟩ : ByteArray).size = 1 := rfl
      have za : (⟨#[91, 92]⟩ : ByteArray).size = 2 := rfl
      have zb : (⟨#[91, 45]⟩ : ByteArray).size = 2 := rfl
      have zc : (⟨#[42, 42]⟩ : ByteArray).size = 2 := rfl
      have zd : (⟨#[42]⟩ : ByteArray).size = 1 := rfl
      have ze : (⟨#[91, 1, 45, 92]⟩ : ByteArray).size = 4 := rfl
      have hB1 := hB.alloc hB.size (.cells #[.int .u8 (c : Int)] 5)
      obtain ⟨ys, hys⟩ : ∃ ys : List ByteArray, ys = [s, ⟨#[92]⟩ ++ s, ⟨#[91]⟩ ++ s ++ ⟨#[93]⟩, ⟨#[91, 33]⟩ ++ s ++ ⟨#[120, 93]⟩, ⟨#[91, 97, 45]⟩ ++ s ++ ⟨#[93]⟩, ⟨#[91]⟩ ++ s ++ ⟨#[45, 122, 93]⟩, ⟨#[91]⟩ ++ s, ⟨#[97]⟩ ++ s ++ ⟨#[98]⟩, ⟨#[91, 92]⟩ ++ s ++ ⟨#[45, 122, 93]⟩, ⟨#[91, 45]⟩ ++ s ++ ⟨#[93]⟩, s ++ ⟨#[42, 42]⟩, ⟨#[63]⟩, ⟨#[97, 63, 98]⟩, ⟨#[42]⟩ ++ s, ⟨#[91, 1, 45, 92]⟩ ++ s ++ ⟨#[120, 93]⟩] := ⟨_, rfl⟩
      have hyl : Hid (ys.length = 15) := Lib.hid (by rw [hys]; rfl)
      have hys2 : Hid (small ys) := Lib.hid fun y hy => by
        rw [hys] at hy
        simp only [List.mem_cons, List.not_mem_nil, or_false] at hy
        rcases hy with rfl | rfl | rfl | rfl | rfl | rfl | rfl | rfl | rfl | rfl | rfl | rfl | rfl | rfl | rfl
        all_goals first | (simp only [ByteArray.size_append]; omega) | omega | decide
      have hB2 := hB1.alloc hB1.size (.cells (tcs ys) 9)
      have hK2 := Blk.new (wr.alloc (.cells #[.int .u8 (c : Int)] 5)) 9 (tcs ys)
      rw [show (wr.alloc (.cells #[.int .u8 (c : Int)] 5)).heap.size = wr.heap.size + 1 by simp] at hK2
      obtain ⟨w2, hw2⟩ : ∃ w2, (wr.alloc (.cells #[.int .u8 (c : Int)] 5)).alloc (.cells (tcs ys) 9) = w2 := ⟨_, rfl⟩
      rw [hw2] at hB2 hK2
      have HW2 : Hid ((wr.alloc (.cells #[.int .u8 (c : Int)] 5)).alloc (.cells #[.string s, .string (⟨#[92]⟩ ++ s), .string (⟨#[91]⟩ ++ s ++ ⟨#[93]⟩), .string (⟨#[91, 33]⟩ ++ s ++ ⟨#[120, 93]⟩), .string (⟨#[91, 97, 45]⟩ ++ s ++ ⟨#[93]⟩), .string (⟨#[91]⟩ ++ s ++ ⟨#[45, 122, 93]⟩), .string (⟨#[91]⟩ ++ s), .string (⟨#[97]⟩ ++ s ++ ⟨#[98]⟩), .string (⟨#[91, 92]⟩ ++ s ++ ⟨#[45, 122, 93]⟩), .string (⟨#[91, 45]⟩ ++ s ++ ⟨#[93]⟩), .string (s ++ ⟨#[42, 42]⟩), .string ⟨#[63]⟩, .string ⟨#[97, 63, 98]⟩, .string (⟨#[42]⟩ ++ s), .string (⟨#[91, 1, 45, 92]⟩ ++ s ++ ⟨#[120, 93]⟩)] 9) = w2) := Lib.hid (by rw [hys] at hw2; exact hw2)
      obtain ⟨g, hgg⟩ : ∃ g, wr.heap.size + 1 = g := ⟨_, rfl⟩
      rw [hgg] at hK2
      have HGG := Lib.hid hgg
      have HK2 := Lib.hid hK2
      have HB2 := Lib.hid hB2
      clear hys hw2 hgg hK2 hB2 hB1 hB
      go_upto_region 6 with fail
      rw [HW2.out, HGG.out]
      clear HW2 HGG z1 z2 z3 z4 z5 z6 z7 za zb zc zd ze hconv hw
      go_wp2_with fail
      go_loopw [4] (fun t4 wv => ∃ i : Nat, i ≤ 15 ∧ t4 = .int .i64 (i : Int) ∧ Below w2.heap.size w2 wv) (fun t4 _ => 15 - (intOf t4).toNat)
      case atStart => exact ⟨0, by omega, rfl, Below.refl _ _⟩
      case round =>
        obtain ⟨i, hi, rfl, hB⟩ := hrel
        have jj0 : (0 : Int) ≤ (i : Int) := by omega
        have hBw := below_of_below HB2.out hB HB2.out.size
        rcases Nat.lt_or_ge i 15 with hin | hin
        · have i2 : decide ((i : Int) < 15) = true := by rw [decide_eq_true_eq]; omega
          have i3 : (i : Int) < 15 := by omega
          have hyi : i < ys.length := by rw [hyl.out]; exact hin
          have hK := HK2.out.below hB HK2.out.lt
          have c0 := tcs_cell hK hyi
          have hyz := hys2.out _ (List.getElem_mem hyi)
          obtain ⟨y, hye⟩ : ∃ y, ys[i] = y := ⟨_, rfl⟩
          rw [hye] at c0 hyz
          have zab : Hid ((⟨#[97]⟩ ++ s ++ ⟨#[98]⟩ : ByteArray).size ≤ 1048576) := Lib.hid (by rw [ByteArray.size_append, ByteArray.size_append, z8, z9, hz]; omega)
          have hlt : g < wr.heap.size := hK.lt
          clear hK hye hyi
          go_wp2_with fail
          have h5 := lawMatch y s _ (by omega) (by omega) (HG.out.below hBw HG.out.lt) (HM.out.below hBw HM.out.lt)
          refine h5.mono ?_
          clear h5
          rintro e v1 ⟨rfl, b1⟩
          have c0 := (b1.cell (p := ⟨g, i, none⟩) hlt).trans c0
          have hlt := Nat.lt_of_lt_of_le hlt b1.size
          have B1 := below_of_below hBw b1 hBw.size
          have D1 := below_of_below hB b1 hB.size
          clear b1
          go_wp2_with fail
          have h5 := lawMatch y ⟨#[98]⟩ _ (by omega) (by decide) (HG.out.below B1 HG.out.lt) (HM.out.below B1 HM.out.lt)
          refine h5.mono ?_
          clear h5
          rintro e v2 ⟨rfl, b2⟩
          have c0 := (b2.cell (p := ⟨g, i, none⟩) hlt).trans c0
          have hlt := Nat.lt_of_lt_of_le hlt b2.size
          have B2 := below_of_below B1 b2 B1.size
          have D2 := below_of_below D1 b2 D1.size
          clear b2
          go_wp2_with fail
          have h5 := lawMatch y ⟨#[45]⟩ _ (by omega) (by decide) (HG.out.below B2 HG.out.lt) (HM.out.below B2 HM.out.lt)
          refine h5.mono ?_
          clear h5
          rintro e v3 ⟨rfl, b3⟩
          have c0 := (b3.cell (p := ⟨g, i, none⟩) hlt).trans c0
          have hlt := Nat.lt_of_lt_of_le hlt b3.size
          have B3 := below_of_below B2 b3 B2.size
          have D3 := below_of_below D2 b3 D2.size
          clear b3
          go_wp2_with fail
          have h5 := lawMatch y (⟨#[97]⟩ ++ s ++ ⟨#[98]⟩) _ (by omega) zab.out (HG.out.below B3 HG.out.lt) (HM.out.below B3 HM.out.lt)
          refine h5.mono ?_
          clear h5
          rintro e v4 ⟨rfl, b4⟩
          have c0 := (b4.cell (p := ⟨g, i, none⟩) hlt).trans c0
          have hlt := Nat.lt_of_lt_of_le hlt b4.size
          have B4 := below_of_below B3 b4 B3.size
          have D4 := below_of_below D3 b4 D3.size
          clear b4
          go_wp2_with fail
          have h5 := lawMatch y ⟨#[120, 93]⟩ _ (by omega) (by decide) (HG.out.below B4 HG.out.lt) (HM.out.below B4 HM.out.lt)
          refine h5.mono ?_
          clear h5
          rintro e v5 ⟨rfl, b5⟩
          have D5 := below_of_below D4 b5 D4.size
          clear b5
          go_wp2_with fail
          go_roundw
          case rel => exact ⟨i + 1, by omega, by go_num, D5⟩
          case measure => simp [intOf]; omega
        · have i2 : decide ((i : Int) < 15) = false := by rw [decide_eq_false_iff_not]; omega
          go_wp2_with fail
          go_roundw
          case rel => exact ⟨c + 1, by omega, by go_num, hBw⟩
          case measure => simp [intOf]; omega
    · have i0 : decide ((c : Int) < 256) = false := by rw [decide_eq_false_iff_not]; omega
      go_wp2_with fail
      go_loopw [5, 6] (fun t5 t6 wv => ∃ (k : Nat) (o : ByteArray), k ≤ 510 ∧ o.size = 2 * k ∧ t5 = .string o ∧ t6 = .int .i64 (k : Int) ∧ wv = wr) (fun _ t6 _ => 510 - (intOf t6).toNat)
      case atStart => exact ⟨0, ⟨#[]⟩, by omega, rfl, rfl, rfl, by first | rfl | trivial⟩
      case round =>
        obtain ⟨k, o, hk, hz, rfl, rfl, rfl⟩ := hrel
        have jk : (0 : Int) ≤ (k : Int) := by omega
        rcases Nat.lt_or_ge k 510 with hkn | hkn
        · have i1 : decide ((k : Int) < 510) = true := by rw [decide_eq_true_eq]; omega
          have z1 : (⟨#[97, 47]⟩ : ByteArray).size = 2 := rfl
          have hz2 : Hid ((o ++ ⟨#[97, 47]⟩).size = 2 * (k + 1)) := Lib.hid (by rw [ByteArray.size_append, hz, z1]; omega)
          go_wp2_with fail
          go_roundw
          case rel => exact ⟨k + 1, _, by omega, hz2.out, rfl, by go_num, by first | rfl | trivial⟩
          case measure => simp [intOf]; omega
        · have i1 : decide ((k : Int) < 510) = false := by rw [decide_eq_false_iff_not]; omega
          have zo : o.size = 1020 := by omega
          have z1 : (⟨#[47]⟩ : ByteArray).size = 1 := rfl
          have z2 : (⟨#[97]⟩ : ByteArray).size = 1 := rfl
          have y1 : Hid ((o ++ ⟨#[47]⟩).size ≤ 1048576) := Lib.hid (by rw [ByteArray.size_append, zo, z1]; omega)
          have y2 : Hid ((o ++ ⟨#[97]⟩).size ≤ 1048576) := Lib.hid (by rw [ByteArray.size_append, zo, z2]; omega)
          have y3 : Hid ((o ++ o).size ≤ 1048576) := Lib.hid (by rw [ByteArray.size_append, zo]; omega)
          clear hz
          go_wp2_with fail
          have h5 := lawMatch o o _ (by omega) (by omega) (HG.out.below hB HG.out.lt) (HM.out.below hB HM.out.lt)
          refine h5.mono ?_
          clear h5
          rintro e v1 ⟨rfl, b1⟩
          have B1 := below_of_below hB b1 hB.size
          go_wp2_with fail
          have h5 := lawMatch (o ++ ⟨#[47]⟩) o _ y1.out (by omega) (HG.out.below B1 HG.out.lt) (HM.out.below B1 HM.out.lt)
          refine h5.mono ?_
          clear h5
          rintro e v2 ⟨rfl, b2⟩
          have B2 := below_of_below B1 b2 B1.size
          go_wp2_with fail
          have h5 := lawMatch (o ++ ⟨#[97]⟩) (o ++ ⟨#[97]⟩) _ y2.out y2.out (HG.out.below B2 HG.out.lt) (HM.out.below B2 HM.out.lt)
          refine h5.mono ?_
          clear h5
          rintro e v3 ⟨rfl, b3⟩
          have B3 := below_of_below B2 b3 B2.size
          go_wp2_with fail
          have h5 := lawMatch ⟨#[42, 42, 47, 97]⟩ (o ++ o) _ (by decide) y3.out (HG.out.below B3 HG.out.lt) (HM.out.below B3 HM.out.lt)
          refine h5.mono ?_
          clear h5
          rintro e v4 ⟨rfl, b4⟩
          have B4 := below_of_below B3 b4 B3.size
          clear b1 b2 b3 b4 B1 B2 B3 y1 y2 y3 zo z1 z2 hB
          go_wp2_with fail
          go_loopw [7, 8] (fun t7 t8 wv => ∃ (k : Nat) (o : ByteArray), k ≤ 256 ∧ o.size = 2 * k ∧ t7 = .string o ∧ t8 = .int .i64 (k : Int) ∧ wv = v4) (fun _ t8 _ => 256 - (intOf t8).toNat)
          case atStart => exact ⟨0, ⟨#[]⟩, by omega, rfl, rfl, rfl, by first | rfl | trivial⟩
          case round =>
            obtain ⟨k, r, hk, hz, rfl, rfl, rfl⟩ := hrel
            have jk : (0 : Int) ≤ (k : Int) := by omega
            rcases Nat.lt_or_ge k 256 with hkn | hkn
            · have i1 : decide ((k : Int) < 256) = true := by rw [decide_eq_true_eq]; omega
              have z1 : (⟨#[120, 10]⟩ : ByteArray).size = 2 := rfl
              have hz2 : Hid ((r ++ ⟨#[120, 10]⟩).size = 2 * (k + 1)) := Lib.hid (by rw [ByteArray.size_append, hz, z1]; omega)
              go_wp2_with fail
              go_roundw
              case rel => exact ⟨k + 1, _, by omega, hz2.out, rfl, by go_num, by first | rfl | trivial⟩
              case measure => simp [intOf]; omega
            · have i1 : decide ((k : Int) < 256) = false := by rw [decide_eq_false_iff_not]; omega
              have zr : r.size = 512 := by omega
              clear hz
              have hB0 := B4
              have hB1 := hB0.alloc hB0.size (.cells (tcs psT) 9)
              have hK1 := Blk.new wr 9 (tcs psT)
              have hB2 := hB1.alloc hB1.size (.cells (tcs linesT) 9)
              have hK2 := Blk.new (wr.alloc (.cells (tcs psT) 9)) 9 (tcs linesT)
              rw [show (wr.alloc (.cells (tcs psT) 9)).heap.size = wr.heap.size + 1 by simp] at hK2
              have hB3 := hB2.alloc hB2.size (.cells (tcs textsT) 9)
              have hK3 := Blk.new ((wr.alloc (.cells (tcs psT) 9)).alloc (.cells (tcs linesT) 9)) 9 (tcs textsT)
              rw [show ((wr.alloc (.cells (tcs psT) 9)).alloc (.cells (tcs linesT) 9)).heap.size = wr.heap.size + 2 by simp] at hK3
              have hB4 := hB3.alloc hB3.size (.cells (tcs pathsT) 9)
              have hK4 := Blk.new (((wr.alloc (.cells (tcs psT) 9)).alloc (.cells (tcs linesT) 9)).alloc (.cells (tcs textsT) 9)) 9 (tcs pathsT)
              rw [show (((wr.alloc (.cells (tcs psT) 9)).alloc (.cells (tcs linesT) 9)).alloc (.cells (tcs textsT) 9)).heap.size = wr.heap.size + 3 by simp] at hK4
              have hK1 := ((hK1.alloc (.cells (tcs linesT) 9)).alloc (.cells (tcs textsT) 9)).alloc (.cells (tcs pathsT) 9)
              have hK2 := (hK2.alloc (.cells (tcs textsT) 9)).alloc (.cells (tcs pathsT) 9)
              have hK3 := hK3.alloc (.cells (tcs pathsT) 9)
              obtain ⟨w9, hw9⟩ : ∃ w9, ((((wr.alloc (.cells (tcs psT) 9)).alloc (.cells (tcs linesT) 9)).alloc (.cells (tcs textsT) 9)).alloc (.cells (tcs pathsT) 9)) = w9 := ⟨_, rfl⟩
              rw [hw9] at hB4 hK1 hK2 hK3 hK4
              have HW9 : Hid (((((wr.alloc (.cells #[.string ⟨#[97]⟩, .string ⟨#[120]⟩, .string ⟨#[120, 47, 121]⟩, .string ⟨#[]⟩] 9)).alloc (.cells #[.string ⟨#[33, 120]⟩, .string ⟨#[33, 33, 120]⟩, .string ⟨#[32, 33, 32, 120, 13]⟩, .string ⟨#[35, 120]⟩, .string ⟨#[33, 97, 47, 98]⟩, .string ⟨#[33, 42]⟩, .string ⟨#[33, 35, 120]⟩, .string ⟨#[92, 33, 120]⟩, .string ⟨#[33, 92, 33, 120]⟩, .string ⟨#[120]⟩, .string ⟨#[]⟩, .string ⟨#[33, 42, 42]⟩, .string ⟨#[33, 32]⟩] 9)).alloc (.cells #[.string ⟨#[]⟩, .string ⟨#[120]⟩, .string ⟨#[97, 47, 98, 10, 42, 10]⟩, .string ⟨#[33, 120]⟩, .string ⟨#[42, 42, 10, 33, 97]⟩, .string ⟨#[35]⟩, .string ⟨#[33, 92, 33, 42]⟩] 9)).alloc (.cells #[.string ⟨#[120]⟩, .string ⟨#[33, 120]⟩, .string ⟨#[97, 47, 98]⟩, .string ⟨#[97, 47, 98, 47, 99]⟩, .string ⟨#[35, 120]⟩, .string ⟨#[]⟩, .string ⟨#[120, 47, 121]⟩] 9)) = w9) := Lib.hid hw9
              obtain ⟨n0, hn0⟩ : ∃ n0, wr.heap.size = n0 := ⟨_, rfl⟩
              rw [hn0] at hK1 hK2 hK3 hK4
              have HN0 := Lib.hid hn0
              have HK1 := Lib.hid hK1
              have HK2 := Lib.hid hK2
              have HK3 := Lib.hid hK3
              have HK4 := Lib.hid hK4
              have HB9 := Lib.hid hB4
              clear hw9 hn0 hK1 hK2 hK3 hK4 hB0 hB1 hB2 hB3 hB4 B4
              go_upto_region 27 with fail
              rw [HW9.out, HN0.out]
              clear HW9 HN0
              go_wp2_with fail
              go_loopw [13, 14, 15] (fun t13 _ _ wx => ∃ i : Nat, i ≤ 13 ∧ t13 = .int .i64 (i : Int) ∧ Below w9.heap.size w9 wx) (fun t13 _ _ _ => 13 - (intOf t13).toNat)
              case atStart => exact ⟨0, by omega, rfl, Below.refl _ _⟩
              case round =>
                obtain ⟨i, hi, rfl, hB⟩ := hrel
                have ji : (0 : Int) ≤ (i : Int) := by omega
                rcases Nat.lt_or_ge i 13 with hin | hin
                · have i0 : decide ((i : Int) < 13) = true := by rw [decide_eq_true_eq]; omega
                  have i1 : (i : Int) < 13 := by omega
                  go_wp2_with fail
                  go_loopw [14, 15] (fun t14 _ wx => ∃ k : Nat, k ≤ 7 ∧ t14 = .int .i64 (k : Int) ∧ Below w9.heap.size w9 wx) (fun t14 _ _ => 7 - (intOf t14).toNat)
                  case atStart => exact ⟨0, by omega, rfl, hB⟩
                  case round =>
                    clear hB
                    obtain ⟨k, hk, rfl, hB⟩ := hrel
                    have jk : (0 : Int) ≤ (k : Int) := by omega
                    rcases Nat.lt_or_ge k 7 with hkn | hkn
                    · have k0 : decide ((k : Int) < 7) = true := by rw [decide_eq_true_eq]; omega
                      have k1 : (k : Int) < 7 := by omega
                      go_wp2_with fail
                      go_loopw [15] (fun t15 wx => ∃ j : Nat, j ≤ 7 ∧ t15 = .int .i64 (j : Int) ∧ Below w9.heap.size w9 wx) (fun t15 _ => 7 - (intOf t15).toNat)
                      case atStart => exact ⟨0, by omega, rfl, hB⟩
                      case round =>
                        clear hB
                        obtain ⟨j, hj, rfl, hB⟩ := hrel
                        have jj : (0 : Int) ≤ (j : Int) := by omega
                        rcases Nat.lt_or_ge j 7 with hjn | hjn
                        · have m0 : decide ((j : Int) < 7) = true := by rw [decide_eq_true_eq]; omega
                          have m1 : (j : Int) < 7 := by omega
                          have hl1 : i < linesT.length := hin
                          have hl2 : k < textsT.length := hkn
                          have hl3 : j < pathsT.length := hjn
                          have q2 := HK2.out.below hB HK2.out.lt
                          have q3 := HK3.out.below hB HK3.out.lt
                          have q4 := HK4.out.below hB HK4.out.lt
                          have d1 := tcs_cell q2 hl1
                          have d2 := tcs_cell q3 hl2
                          have d3 := tcs_cell q4 hl3
                          have s1 := linesT_small _ (List.getElem_mem hl1)
                          have s2 := textsT_small _ (List.getElem_mem hl2)
                          obtain ⟨ly, hly⟩ : ∃ y, linesT[i] = y := ⟨_, rfl⟩
                          obtain ⟨ty, hty⟩ : ∃ y, textsT[k] = y := ⟨_, rfl⟩
                          obtain ⟨py, hpy⟩ : ∃ y, pathsT[j] = y := ⟨_, rfl⟩
                          rw [hly] at d1 s1
                          rw [hty] at d2 s2
                          rw [hpy] at d3
                          have z10 : (⟨#[10]⟩ : ByteArray).size = 1 := rfl
                          have ad1 : ∀ w, (Op.stringOp .add ty ⟨#[10]⟩).run Tryz.prog w = .ok (.string (ty ++ ⟨#[10]⟩)) w := fun w => run_string_add_sum w _ _ (by rw [z10]; omega)
                          have ad2 : ∀ w, (Op.stringOp .add (ty ++ ⟨#[10]⟩) ly).run Tryz.prog w = .ok (.string (ty ++ ⟨#[10]⟩ ++ ly)) w := fun w => run_string_add_sum w _ _ (by rw [ByteArray.size_append, z10]; omega)
                          have zs : Hid ((ty ++ ⟨#[10]⟩ ++ ly).size ≤ 1048576) := Lib.hid (by rw [ByteArray.size_append, ByteArray.size_append, z10]; omega)
                          have hBw := below_of_below HB9.out hB HB9.out.size
                          have G := HG.out.below hBw HG.out.lt
                          have M := HM.out.below hBw HM.out.lt
                          have e1 := q2.lt
                          have e2 := q3.lt
                          have e3 := q4.lt
                          have HG1 := Lib.hid G
                          have HM1 := Lib.hid M
                          have HQ4 := Lib.hid q4
                          have HBB := Lib.hid hB
                          clear hly hty hpy q2 q3 q4 hBw hl1 hl2 hl3 G M hB
                          go_upto_region 36 with fail
                          go_cut [198] (fun s198 wx => s198 = .bool false ∧ Below wr.heap.size wr wx)
                          case first =>
                            go_region_held3 (fun w' => w'.cell? ⟨n0 + 1, i, none⟩ = some (.string ly) ∧ w'.cell? ⟨n0 + 2, k, none⟩ = some (.string ty) ∧ w'.cell? ⟨n0 + 3, j, none⟩ = some (.string py)) (exact ⟨d1, d2, d3⟩) (first | (go_at_call 37; refine (lawLast ty ly py _ (by first | exact HG1.out | exact HG1.out.drew') (by first | exact HM1.out | exact HM1.out.drew')).mono ?_; rintro e u1 ⟨rfl, b1⟩; have BX := below_of_below (by first | exact Below.refl wr.heap.size wr | exact (Below.refl wr.heap.size wr).drew) b1 (by first | exact Nat.le_refl _ | rfl); have d1 := (b1.cell (p := ⟨n0 + 1, i, none⟩) e1).trans d1; have d2 := (b1.cell (p := ⟨n0 + 2, k, none⟩) e2).trans d2; have d3 := (b1.cell (p := ⟨n0 + 3, j, none⟩) e3).trans d3; have x1 := Nat.lt_of_lt_of_le e1 BX.size; have x2 := Nat.lt_of_lt_of_le e2 BX.size; have x3 := Nat.lt_of_lt_of_le e3 BX.size; have G1 := HG1.out.below BX HG1.out.lt; have M1 := HM1.out.below BX HM1.out.lt; have K1 := HQ4.out.below BX HQ4.out.lt) | (go_at_call 38; refine (out_lit ty (ty ++ ⟨#[10]⟩ ++ ly) (by omega) zs.out (n0 + 3) 7 pathsT rfl pathsT_small _ (by first | exact K1 | exact K1.drewN 1) (by first | exact G1 | exact G1.drew') (by first | exact M1 | exact M1.drew')).mono ?_; rintro e u2 ⟨rfl, b2⟩; have BY := below_of_below BX b2 BX.size; have d1 := (b2.cell (p := ⟨n0 + 1, i, none⟩) x1).trans d1; have d2 := (b2.cell (p := ⟨n0 + 2, k, none⟩) x2).trans d2; have d3 := (b2.cell (p := ⟨n0 + 3, j, none⟩) x3).trans d3))
                            go_wp2_with fail
                            go_meet
                            exact ⟨rfl, BY⟩
                          case rest =>
                            obtain ⟨rfl, bx⟩ := hcut
                            have hB2 := below_of_below HBB.out bx HBB.out.size
                            clear bx d1 d2 d3
                            go_wp2_with fail
                            go_roundw
                            case rel => exact ⟨j + 1, by omega, by go_num, hB2⟩
                            case measure => simp [intOf]; omega
                        · have m0 : decide ((j : Int) < 7) = false := by rw [decide_eq_false_iff_not]; omega
                          go_wp2_with fail
                          go_roundw
                          case rel => exact ⟨k + 1, by omega, by go_num, hB⟩
                          case measure => simp [intOf]; omega
                    · have k0 : decide ((k : Int) < 7) = false := by rw [decide_eq_false_iff_not]; omega
                      go_wp2_with fail
                      go_roundw
                      case rel => exact ⟨i + 1, by omega, by go_num, hB⟩
                      case measure => simp [intOf]; omega
                · have i0 : decide ((i : Int) < 13) = false := by rw [decide_eq_false_iff_not]; omega
                  have z1 : (⟨#[97]⟩ : ByteArray).size = 1 := rfl
                  have z2 : (⟨#[35, 10, 32, 9, 13, 10]⟩ : ByteArray).size = 6 := rfl
                  have z3 : (⟨#[91]⟩ : ByteArray).size = 1 := rfl
                  have y1 : Hid ((r ++ ⟨#[97]⟩).size ≤ 1048576) := Lib.hid (by rw [ByteArray.size_append, zr, z1]; omega)
                  have y2 : Hid ((r ++ ⟨#[35, 10, 32, 9, 13, 10]⟩).size ≤ 1048576) := Lib.hid (by rw [ByteArray.size_append, zr, z2]; omega)
                  have y3 : Hid ((r ++ ⟨#[91]⟩).size ≤ 1048576) := Lib.hid (by rw [ByteArray.size_append, zr, z3]; omega)
                  have hBw := below_of_below HB9.out hB HB9.out.size
                  have q1 := HK1.out.below hB HK1.out.lt
                  go_wp2_with fail
                  have h5 := out_lit r (r ++ ⟨#[97]⟩) (by omega) y1.out n0 4 psT rfl psT_small _ q1 (HG.out.below hBw HG.out.lt) (HM.out.below hBw HM.out.lt)
                  refine h5.mono ?_
                  clear h5
                  rintro e u1 ⟨rfl, b1⟩
                  have B1 := below_of_below hBw b1 hBw.size
                  have q2 := q1.below b1 q1.lt
                  go_wp2_with fail
                  have h5 := out_lit (r ++ ⟨#[35, 10, 32, 9, 13, 10]⟩) (r ++ ⟨#[91]⟩) y2.out y3.out n0 4 psT rfl psT_small _ q2 (HG.out.below B1 HG.out.lt) (HM.out.below B1 HM.out.lt)
                  refine h5.mono ?_
                  clear h5
                  rintro e u2 ⟨rfl, b2⟩
                  have B2 := below_of_below B1 b2 B1.size
                  have q3 := q2.below b2 q2.lt
                  go_wp2_with fail
                  have h5 := out_lit ⟨#[]⟩ ⟨#[10, 10]⟩ (by decide) (by decide) n0 4 psT rfl psT_small _ q3 (HG.out.below B2 HG.out.lt) (HM.out.below B2 HM.out.lt)
                  refine h5.mono ?_
                  clear h5
                  rintro e u3 ⟨rfl, b3⟩
                  have B3 := below_of_below B2 b3 B2.size
                  have q4 := q3.below b3 q3.lt
                  go_wp2_with fail
                  have h5 := out_lit ⟨#[42, 42]⟩ ⟨#[33, 42, 42]⟩ (by decide) (by decide) n0 4 psT rfl psT_small _ q4 (HG.out.below B3 HG.out.lt) (HM.out.below B3 HM.out.lt)
                  refine h5.mono ?_
                  clear h5
                  rintro e u4 ⟨rfl, b4⟩
                  go_wp2_with fail
                  go_ret
                  exact ⟨rfl, below_of_below B3 b4 B3.size⟩
end Go.Proofs.YtdjfakampjbgeaaGreatDoor
