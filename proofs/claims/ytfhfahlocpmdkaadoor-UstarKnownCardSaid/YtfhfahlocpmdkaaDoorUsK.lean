/- stratalaw05's forged and UstarForged, walked: of all inputs, true. -/
import Derived.Test.YtfhfahlocpmdkaaDoorUsFl
import Derived.Test.YtfhfahlocpmdkaaDoorUsZ
import Derived.BigQuiet
namespace Go.Proofs.YtfhfahlocpmdkaaDoor
open Go.RowKit

theorem elem_u8 : Tryd.prog.underlying 42 = some (.slice (Tryd.prog.elem 42)) := by simp [Program.elem, Tryd.underlying42]
theorem elem_u8e : Tryd.prog.elem 42 = 5 := by simp [Program.elem, Tryd.underlying42]
theorem size_u8 : ∀ w, (Go.sizeOf 5).run Tryd.prog w = .ok 1 w := by
  obtain ⟨i, hi, hs⟩ := Option.map_eq_some_iff.1 one_u8
  intro w
  rw [run_sizeOf w hi]
  rw [show Tryd.prog.cellsOf 5 = 1 by kernel_rfl]
theorem slice_u8_h (g n cap h : Nat) (hi : Int) (hh : hi = (h : Int)) (hc : h ≤ cap) : ∀ wx, (Instr.slice 42 (.slice (some ⟨g, 0, none⟩) n cap) none (some (.int .i64 hi)) none).run Tryd.prog wx = .ok (.slice (some ⟨g, 0, none⟩) (h - 0) cap) wx := by
  subst hh
  intro wx
  rw [run_slice_h wx 42 _ _ _ elem_u8 .i64 _ (by omega) (by omega), elem_u8e, size_u8]
  simp [Result.andThen, sliced, Addr.add]
theorem slice_u8_l (g n cap l : Nat) (li : Int) (hl : li = (l : Int)) (hn : l ≤ n) (hc : l < cap) : ∀ wx, (Instr.slice 42 (.slice (some ⟨g, 0, none⟩) n cap) (some (.int .i64 li)) none none).run Tryd.prog wx = .ok (.slice (some ⟨g, l, none⟩) (n - l) (cap - l)) wx := by
  subst hl
  intro wx
  rw [run_slice_l wx 42 _ _ _ elem_u8 .i64 _ (by omega) (by omega), elem_u8e, size_u8]
  have hne : ¬ cap = l := by omega
  by_cases h0 : l = 0
  · subst h0
    simp [Result.andThen, sliced, Addr.add, hne]
  · simp [Result.andThen, sliced, Addr.add, hne, h0]
theorem strOf_bs (l : List UInt8) : strOfNums (l.map fun b => (b.toNat : Int)) = bs l := by
  have hf : ((fun n : Int => UInt8.ofNat n.toNat) ∘ fun b : UInt8 => (b.toNat : Int)) = id := by funext b; simp
  simp [strOfNums, bs, hf]
theorem own_piece {w : World} {base g cap n : Nat} {acc : List UInt8} (h : w.ownsRow base 5 1 (.slice (some ⟨g, 0, none⟩) n cap) n (bc acc)) (a b : Nat) (c : Nat) (hab : a ≤ b) (hb : b ≤ n) :
    ∃ o : ByteArray, o.size = b - a ∧ ∀ q, (convert 42 9 (.slice (some ⟨g, a, none⟩) (b - a) c)).run Tryd.prog (w.drewN q) = .ok (.string o) (w.drewN q) := by
  have hlen : acc.length = n := by have := h.1; simpa [bc] using this
  refine ⟨bs ((acc.drop a).take (b - a)), by rw [bs_size, List.length_take, List.length_drop]; omega, fun q => ?_⟩
  have hx := run_convert_bytes_arg (P := Tryd.prog) (w.drewN q) 42 5 Tryd.underlying42 Tryd.underlying5 g a (b - a) c (((acc.drop a).take (b - a)).map fun b => (b.toNat : Int)) (by simp; omega) (fun i hi => by
    have h1 : a + i < acc.length := by omega
    have := h.cells (g := g) rfl (a + i) (.int .u8 ((acc[a + i]).toNat : Int)) (by simp [bc, h1])
    rw [Addr.add_lit, Nat.zero_add] at this
    show w.cell? _ = _
    rw [this]
    simp [List.getD, h1, hi]) 9 Tryd.underlying9
  rw [hx, strOf_bs]
set_option maxRecDepth 100000 in
set_option maxHeartbeats 4000000 in
theorem forged_any (s : ByteArray) (m : Nat) (p : ByteArray) (w : World) (hs : s.size = 512) (hm : m < 512) (hp : p.size ≤ 1000000000) : Calls Tryd.prog 19 #[.string s, .int .i64 (m : Int), .string p] w fun e w' => ∃ f : ByteArray, e = .returned (.string f) ∧ f.size ≤ 1000000 ∧ Below w.heap.size w w' := by
  go_enter Tryd.func19, Tryd.ntmps19
  go_wp2_with fail
  go_loopw [7, 8] (fun v i wr => ∃ (k n : Nat) (acc : List UInt8), k ≤ 512 ∧ n = k ∧ i = .int .i64 (k : Int) ∧ wr.ownsRow w.heap.size 5 1 v n (bc acc) ∧ Below w.heap.size w wr) (fun _ i _ => 512 - (intOf i).toNat)
  case atStart => exact ⟨0, 0, [], by omega, rfl, rfl, World.ownsRow_nil _ _ _ _, Below.refl _ _⟩
  case round =>
    obtain ⟨k, n, acc, hk, hnk, rfl, hown, hbel⟩ := hrel
    have hsz := hbel.size
    by_cases hkm : k < 512
    · have i0 : decide ((k : Int) < (s.size : Int)) = true := by simp; omega
      have i1 : (0 : Int) ≤ (k : Int) := by omega
      have i2 : (k : Int) < (s.size : Int) := by omega
      have i4 : k < s.size := by omega
      have hb : (s[k]).toNat < 256 := (s[k]).toNat_lt
      by_cases hmk : m ≤ k
      · have i3 : decide ((m : Int) ≤ (k : Int)) = true := by simp; omega
        by_cases hpk : k - m < p.size
        · have i5 : decide ((k : Int) - (m : Int) < (p.size : Int)) = true := by simp; omega
          have j1 : (0 : Int) ≤ (k : Int) - (m : Int) := by omega
          have j2 : (k : Int) - (m : Int) < (p.size : Int) := by omega
          have j3 : ((k : Int) - (m : Int)).toNat = k - m := by omega
          have hb2 : (p[k - m]).toNat < 256 := (p[k - m]).toNat_lt
          go_wp2_with ((at_builtin; refine wpList_app rfl _ _ _ rfl byteSliceR _ _ _ _ rfl (hown.alloc _) _ _ _ _ rfl rfl (news_alloc _ _ _) (one_of_all rfl) (by omega) (by omega) (hbel.alloc hsz _) (by simp; omega) ?_; intro v1 w1 hown1 hb1 hg1 hat1))
          go_roundw
          case rel => exact ⟨k + 1, n + 1, acc ++ [p[k - m]], by omega, by omega, by go_num, by rw [bc_append]; exact hown1, hb1⟩
          case measure => simp [intOf]; omega
        · have i5 : decide ((k : Int) - (m : Int) < (p.size : Int)) = false := by simp; omega
          go_wp2_with ((at_builtin; refine wpList_app rfl _ _ _ rfl byteSliceR _ _ _ _ rfl (hown.alloc _) _ _ _ _ rfl rfl (news_alloc _ _ _) (one_of_all rfl) (by omega) (by omega) (hbel.alloc hsz _) (by simp; omega) ?_; intro v1 w1 hown1 hb1 hg1 hat1))
          go_roundw
          case rel => exact ⟨k + 1, n + 1, acc ++ [s[k]], by omega, by omega, by go_num, by rw [bc_append]; exact hown1, hb1⟩
          case measure => simp [intOf]; omega
      · have i3 : decide ((m : Int) ≤ (k : Int)) = false := by simp; omega
        go_wp2_with ((at_builtin; refine wpList_app rfl _ _ _ rfl byteSliceR _ _ _ _ rfl (hown.alloc _) _ _ _ _ rfl rfl (news_alloc _ _ _) (one_of_all rfl) (by omega) (by omega) (hbel.alloc hsz _) (by simp; omega) ?_; intro v1 w1 hown1 hb1 hg1 hat1))
        go_roundw
        case rel => exact ⟨k + 1, n + 1, acc ++ [s[k]], by omega, by omega, by go_num, by rw [bc_append]; exact hown1, hb1⟩
        case measure => simp [intOf]; omega
    · have i0 : decide ((k : Int) < (s.size : Int)) = false := by simp; omega
      obtain rfl : k = 512 := by omega
      subst hnk
      obtain ⟨g, cap, hv, _, hlt⟩ := hown.form (by omega)
      subst hv
      have hlen : acc.length = 512 := by have := hown.1; simpa [bc] using this
      have hcap : 512 ≤ cap := by
        rcases hown.2 with ⟨h1, h2⟩ | ⟨g', cap', cur, hv, hb, hg, hn, hc, hs, htk⟩
        · omega
        · injection hv with _ _ e3
          omega
      have hcv := run_str_own Tryd.underlying42 Tryd.underlying5 hown 9 Tryd.underlying9
      obtain ⟨i, hi⟩ : ∃ i : Int, Hid (i = (Us.sumFrom 0 (bl (bs acc)) : Nat)) := ⟨_, rfl⟩
      have i0 : 0 ≤ i := by rw [hi.out]; omega
      have i1 : i ≤ 8589934591 := by have := Us.sumFrom_le (bl (bs acc)) 0; rw [bl_bs, hlen] at this; rw [hi.out, bl_bs]; omega
      have hz : (bs acc).size ≤ 1000000000 := by rw [bs_size]; omega
      go_wp2_with fail
      refine (encSum_hid _ _ hz hi).mono ?_
      rintro e w2 ⟨rfl, rfl⟩
      clear hcv hi
      go_wp2_with fail
      refine (octal_6 _ _ i0 i1).mono ?_
      rintro e w2 ⟨rfl, hb0⟩
      have hown2 := own_below hown hb0
      have B2 := below_of_below hbel hb0 hbel.size
      clear hb0 hown hbel
      have ho6 := oS_size 6 i.toNat
      obtain ⟨x1, z1, cv1⟩ := own_piece hown2 0 148 cap (by omega) (by omega)
      obtain ⟨x2, z2, cv2⟩ := own_piece hown2 156 512 (cap - 156) (by omega) (by omega)
      have hs1 : ∀ wx, (Instr.slice 42 (.slice (some ⟨g, 0, none⟩) 512 cap) none (some (.int .i64 148)) none).run Tryd.prog wx = .ok (.slice (some ⟨g, 0, none⟩) (148 - 0) cap) wx := slice_u8_h g 512 cap 148 148 rfl (by omega)
      have hs2 : ∀ wx, (Instr.slice 42 (.slice (some ⟨g, 0, none⟩) 512 cap) (some (.int .i64 156)) none none).run Tryd.prog wx = .ok (.slice (some ⟨g, 156, none⟩) (512 - 156) (cap - 156)) wx := slice_u8_l g 512 cap 156 156 rfl (by omega) (by omega)
      go_upto_region 11 with fail
      go_quiet (fail)
      go_wp2_with fail
      go_ret
      exact ⟨_, rfl, by simp only [ByteArray.size_append, z1, z2, ho6]; decide, B2.trans ⟨rfl, rfl, rfl, Nat.le_refl _, fun _ _ => rfl⟩⟩
set_option maxRecDepth 100000 in
set_option maxHeartbeats 8000000 in
theorem lawForged (h : Us.Hd) (k : Int) (p : ByteArray) (w : World) (hs : Short h) (hk1 : -9223372036854775808 ≤ k) (hk2 : k ≤ 9223372036854775807) (hp : p.size ≤ 1000000000) (hg : ErrVar w) : Calls Tryd.prog 5 #[.agg (hdC h), .int .i64 k, .string p] w fun e w' => e = .returned (.bool true) ∧ Below w.heap.size w w' := by
  have HG := Lib.hid hg
  clear hg
  rcases enc_cases h with ⟨B, e1, e2, _⟩ | ⟨N, hN, e1⟩
  · have E1 := Lib.hid e1
    have hz : (bs B).size = 512 := by rw [bs_size]; exact e2
    obtain ⟨m, hm, hm2⟩ : ∃ m : Nat, pick k 512 = (m : Int) ∧ m < 512 := by
      have := pick_range k 512 (by omega)
      exact ⟨(pick k 512).toNat, by omega, by omega⟩
    have HM := Lib.hid hm
    clear hm e1 e2
    unfold hdC
    go_enter Tryd.func5, Tryd.ntmps5
    go_wp2_with fail
    refine (refEnc_at h _ hs E1).mono ?_
    rintro e w1 ⟨rfl, b1⟩
    obtain ⟨hh1, B1⟩ := new_hd w h b1
    clear b1 hh1
    go_wp2_with fail
    refine (pick_h k 512 (by omega) (by omega) hk1 hk2 HM _).mono ?_
    rintro e w2 ⟨rfl, rfl⟩
    go_wp2_with fail
    refine (forged_any _ m p _ hz hm2 hp).mono ?_
    rintro e w2 ⟨f, rfl, hf, b2⟩
    have B2 := below_of_below B1 b2 B1.size
    clear b2 HM E1
    obtain ⟨N, g, hD⟩ : ∃ N g, Us.dec (bl f) = (N, g) := ⟨_, _, rfl⟩
    have hN : N ≤ 32 := by have := dec_le (bl f); rw [hD] at this; exact this
    have HD := Lib.hid hD
    clear hD
    go_wp2_with fail
    refine (refDec_at _ _ (by omega) HD).mono ?_
    rintro e w3 ⟨rfl, b3⟩
    have B3 := below_of_below B2 b3 B2.size
    clear b3
    go_wp2_with (refine wpList_store_hd rfl _ _ rfl w3.heap.size g rfl rfl Us.hd0 (Blk.new _ _ _) ?_; intro w4 hB4 hb4 hz4)
    have b4 : Below w3.heap.size w3 w4 := ((Below.refl _ _).alloc (Nat.le_refl _) _).trans hb4
    have B4 := below_of_below B3 b4 B3.size
    clear b4 hb4 hz4
    refine (dec_at _ _ (by omega) HD).mono ?_
    rintro e w5 ⟨rfl, b5⟩
    have hB5 := hB4.below b5 hB4.lt
    have B5 := below_of_below B4 b5 B4.size
    clear b5 hB4
    go_wp2_with (refine wpList_store_hd rfl _ _ rfl w5.heap.size g rfl rfl Us.hd0 (Blk.new _ _ _) ?_; intro w6 hB6 hb6 hz6; have b6 : Below w5.heap.size w5 w6 := ((Below.refl _ _).alloc (Nat.le_refl _) _).trans hb6; have B6 := below_of_below B5 b6 B5.size; have hA6 := hB5.below b6 hB5.lt; have G6 := HG.out.below B6 HG.out.lt; obtain ⟨c0, c1, c2, c3, c4, c5, c6, c7, c8, c9, c10, c11, _, _, _, _, _, _, _, _, _, _, _, _⟩ := cells12 hB6; obtain ⟨d0, d1, d2, d3, d4, d5, d6, d7, d8, d9, d10, d11, _, _, _, _, _, _, _, _, _, _, _, _⟩ := cells12 hA6)
    refine (plain_n N hN _ G6).mono ?_
    rintro e w7 ⟨rfl, b7⟩
    have B7 := below_of_below B6 b7 B6.size
    have G7 := HG.out.below B7 HG.out.lt
    go_wp2_with fail
    refine (works_any _ G7).mono ?_
    rintro e w8 ⟨rfl, b8⟩
    go_wp2_with fail
    go_ret
    exact ⟨rfl, below_of_below B7 b8 B7.size⟩
  · have E1 := Lib.hid e1
    have hnz : ((N : Int) != 0) = true := by simpa using hN
    clear e1
    unfold hdC
    go_enter Tryd.func5, Tryd.ntmps5
    go_wp2_with fail
    refine (refEnc_at h _ hs E1).mono ?_
    rintro e w1 ⟨rfl, b1⟩
    obtain ⟨hh1, B1⟩ := new_hd w h b1
    have G1 := HG.out.below B1 HG.out.lt
    clear b1
    go_wp2_with (go_at_call 16; refine (works_any _ G1).mono ?_; rintro e w5 ⟨rfl, b5⟩)
    go_ret
    exact ⟨rfl, below_of_below B1 b5 B1.size⟩
end Go.Proofs.YtfhfahlocpmdkaaDoor
