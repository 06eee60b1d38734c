/- stratalaw05's forged, walked with its very answer; closed facts on what is read. -/
import Derived.Test.YtfhfahlocpmdkaaDoorKnW0
namespace Go.Proofs.YtfhfahlocpmdkaaDoor
open Go.RowKit

def pieceAt (s p : List UInt8) (m k : Nat) : UInt8 := if m ≤ k ∧ k - m < p.length then p.getD (k - m) 0 else s.getD k 0
def pieceL (s p : List UInt8) (m : Nat) : Nat → List UInt8
  | 0 => []
  | k + 1 => pieceL s p m k ++ [pieceAt s p m k]
theorem pieceL_map (s p : List UInt8) (m : Nat) : ∀ k, pieceL s p m k = (List.range k).map (pieceAt s p m)
  | 0 => rfl
  | k + 1 => by rw [pieceL, pieceL_map s p m k, List.range_succ, List.map_append]; rfl
theorem pieceL_length (s p : List UInt8) (m k : Nat) : (pieceL s p m k).length = k := by rw [pieceL_map]; simp
def putSum (l : List UInt8) : List UInt8 := l.take 148 ++ (Us.oct 6 (Us.sumFrom 0 l) ++ [0, 32]) ++ l.drop 156
def forgedL (s p : List UInt8) (m : Nat) : List UInt8 := putSum ((List.range 512).map (pieceAt s p m))
theorem own_piece2 {w : World} {base g cap n : Nat} {acc : List UInt8} (h : w.ownsRow base 5 1 (.slice (some ⟨g, 0, none⟩) n cap) n (bc acc)) (a b : Nat) (c : Nat) (hab : a ≤ b) (hb : b ≤ n) :
    ∃ o : ByteArray, Hid (o = bs ((acc.drop a).take (b - a))) ∧ ∀ q, (convert 42 9 (.slice (some ⟨g, a, none⟩) (b - a) c)).run Tryd.prog (w.drewN q) = .ok (.string o) (w.drewN q) := by
  have hlen : acc.length = n := by have := h.1; simpa [bc] using this
  refine ⟨bs ((acc.drop a).take (b - a)), rfl, fun q => ?_⟩
  have hx := run_convert_bytes_arg (P := Tryd.prog) (w.drewN q) 42 5 Tryd.underlying42 Tryd.underlying5 g a (b - a) c (((acc.drop a).take (b - a)).map fun b => (b.toNat : Int)) (by simp; omega) (fun i hi => by
    have h1 : a + i < acc.length := by omega
    have := h.cells (g := g) rfl (a + i) (.int .u8 ((acc[a + i]).toNat : Int)) (by simp [bc, h1])
    rw [Addr.add_lit, Nat.zero_add] at this
    show w.cell? _ = _
    rw [this]
    simp [List.getD, h1, hi]) 9 Tryd.underlying9
  rw [hx, strOf_bs]
theorem bl_getD (s : ByteArray) (k : Nat) (h : k < s.size) : (bl s).getD k 0 = s[k] := by
  have h2 : k < (bl s).length := by rw [bl_length]; exact h
  rw [List.getD, List.getElem?_eq_getElem h2]
  rfl
set_option maxRecDepth 100000 in
set_option maxHeartbeats 4000000 in
theorem forged_is (s : ByteArray) (m : Nat) (p : ByteArray) (w : World) (hs : s.size = 512) (hm : m < 512) (hp : p.size ≤ 1000000000) : Calls Tryd.prog 19 #[.string s, .int .i64 (m : Int), .string p] w fun e w' => e = .returned (.string (bs (forgedL (bl s) (bl p) m))) ∧ Below w.heap.size w w' := by
  go_enter Tryd.func19, Tryd.ntmps19
  go_wp2_with fail
  go_loopw [7, 8] (fun v i wr => ∃ (k n : Nat) (acc : List UInt8), k ≤ 512 ∧ n = k ∧ Hid (acc = pieceL (bl s) (bl p) m k) ∧ i = .int .i64 (k : Int) ∧ wr.ownsRow w.heap.size 5 1 v n (bc acc) ∧ Below w.heap.size w wr) (fun _ i _ => 512 - (intOf i).toNat)
  case atStart => exact ⟨0, 0, [], by omega, rfl, rfl, rfl, World.ownsRow_nil _ _ _ _, Below.refl _ _⟩
  case round =>
    obtain ⟨k, n, acc, hk, hnk, HA, rfl, hown, hbel⟩ := hrel
    have hsz := hbel.size
    by_cases hkm : k < 512
    · have i0 : decide ((k : Int) < (s.size : Int)) = true := by simp; omega
      have i1 : (0 : Int) ≤ (k : Int) := by omega
      have i2 : (k : Int) < (s.size : Int) := by omega
      have i4 : k < s.size := by omega
      have hb : (s[k]).toNat < 256 := (s[k]).toNat_lt
      by_cases hmk : m ≤ k
      · have i3 : decide ((m : Int) ≤ (k : Int)) = true := by simp; omega
        by_cases hpk : k - m < p.size
        · have i5 : decide ((k : Int) - (m : Int) < (p.size : Int)) = true := by simp; omega
          have j1 : (0 : Int) ≤ (k : Int) - (m : Int) := by omega
          have j2 : (k : Int) - (m : Int) < (p.size : Int) := by omega
          have j3 : ((k : Int) - (m : Int)).toNat = k - m := by omega
          have hb2 : (p[k - m]).toNat < 256 := (p[k - m]).toNat_lt
          have HB : Hid (acc ++ [p[k - m]] = pieceL (bl s) (bl p) m (k + 1)) := by show _ = _; rw [pieceL, ← HA.out, pieceAt, if_pos ⟨hmk, by rw [bl_length]; exact hpk⟩, bl_getD _ _ hpk]
          go_wp2_with ((at_builtin; refine wpList_app rfl _ _ _ rfl byteSliceR _ _ _ _ rfl (hown.alloc _) _ _ _ _ rfl rfl (news_alloc _ _ _) (one_of_all rfl) (by omega) (by omega) (hbel.alloc hsz _) (by simp; omega) ?_; intro v1 w1 hown1 hb1 hg1 hat1))
          go_roundw
          case rel => exact ⟨k + 1, n + 1, acc ++ [p[k - m]], by omega, by omega, HB, by go_num, by rw [bc_append]; exact hown1, hb1⟩
          case measure => simp [intOf]; omega
        · have i5 : decide ((k : Int) - (m : Int) < (p.size : Int)) = false := by simp; omega
          have HB : Hid (acc ++ [s[k]] = pieceL (bl s) (bl p) m (k + 1)) := by show _ = _; rw [pieceL, ← HA.out, pieceAt, if_neg (by rw [bl_length]; omega), bl_getD _ _ i4]
          go_wp2_with ((at_builtin; refine wpList_app rfl _ _ _ rfl byteSliceR _ _ _ _ rfl (hown.alloc _) _ _ _ _ rfl rfl (news_alloc _ _ _) (one_of_all rfl) (by omega) (by omega) (hbel.alloc hsz _) (by simp; omega) ?_; intro v1 w1 hown1 hb1 hg1 hat1))
          go_roundw
          case rel => exact ⟨k + 1, n + 1, acc ++ [s[k]], by omega, by omega, HB, by go_num, by rw [bc_append]; exact hown1, hb1⟩
          case measure => simp [intOf]; omega
      · have i3 : decide ((m : Int) ≤ (k : Int)) = false := by simp; omega
        have HB : Hid (acc ++ [s[k]] = pieceL (bl s) (bl p) m (k + 1)) := by show _ = _; rw [pieceL, ← HA.out, pieceAt, if_neg (by omega), bl_getD _ _ i4]
        go_wp2_with ((at_builtin; refine wpList_app rfl _ _ _ rfl byteSliceR _ _ _ _ rfl (hown.alloc _) _ _ _ _ rfl rfl (news_alloc _ _ _) (one_of_all rfl) (by omega) (by omega) (hbel.alloc hsz _) (by simp; omega) ?_; intro v1 w1 hown1 hb1 hg1 hat1))
        go_roundw
        case rel => exact ⟨k + 1, n + 1, acc ++ [s[k]], by omega, by omega, HB, by go_num, by rw [bc_append]; exact hown1, hb1⟩
        case measure => simp [intOf]; omega
    · have i0 : decide ((k : Int) < (s.size : Int)) = false := by simp; omega
      obtain rfl : k = 512 := by omega
      subst hnk
      obtain ⟨g, cap, hv, _, hlt⟩ := hown.form (by omega)
      subst hv
      have hlen : acc.length = 512 := by have := hown.1; simpa [bc] using this
      have hcap : 512 ≤ cap := by
        rcases hown.2 with ⟨h1, h2⟩ | ⟨g', cap', cur, hv, hb, hg, hn, hc, hs, htk⟩
        · omega
        · injection hv with _ _ e3
          omega
      have hcv := run_str_own Tryd.underlying42 Tryd.underlying5 hown 9 Tryd.underlying9
      obtain ⟨i, hi⟩ : ∃ i : Int, Hid (i = (Us.sumFrom 0 (bl (bs acc)) : Nat)) := ⟨_, rfl⟩
      have i0 : 0 ≤ i := by rw [hi.out]; omega
      have i1 : i ≤ 8589934591 := by have := Us.sumFrom_le (bl (bs acc)) 0; rw [bl_bs, hlen] at this; rw [hi.out, bl_bs]; omega
      have hz : (bs acc).size ≤ 1000000000 := by rw [bs_size]; omega
      go_wp2_with fail
      refine (encSum_hid _ _ hz hi).mono ?_
      rintro e w2 ⟨rfl, rfl⟩
      clear hcv
      go_wp2_with fail
      refine (octal_6 _ _ i0 i1).mono ?_
      rintro e w2 ⟨rfl, hb0⟩
      have hown2 := own_below hown hb0
      have B2 := below_of_below hbel hb0 hbel.size
      clear hb0 hown hbel
      obtain ⟨x1, z1, cv1⟩ := own_piece2 hown2 0 148 cap (by omega) (by omega)
      obtain ⟨x2, z2, cv2⟩ := own_piece2 hown2 156 512 (cap - 156) (by omega) (by omega)
      have hs1 : ∀ wx, (Instr.slice 42 (.slice (some ⟨g, 0, none⟩) 512 cap) none (some (.int .i64 148)) none).run Tryd.prog wx = .ok (.slice (some ⟨g, 0, none⟩) (148 - 0) cap) wx := slice_u8_h g 512 cap 148 148 rfl (by omega)
      have hs2 : ∀ wx, (Instr.slice 42 (.slice (some ⟨g, 0, none⟩) 512 cap) (some (.int .i64 156)) none none).run Tryd.prog wx = .ok (.slice (some ⟨g, 156, none⟩) (512 - 156) (cap - 156)) wx := slice_u8_l g 512 cap 156 156 rfl (by omega) (by omega)
      have FIN : ∀ t : ByteArray, Hid (t = ⟨#[0, 32]⟩) → x1 ++ (oS 6 i.toNat ++ t) ++ x2 = bs (forgedL (bl s) (bl p) m) := by
        intro t ht
        have ei : i.toNat = Us.sumFrom 0 acc := by rw [hi.out, bl_bs]; simp
        have ea : (List.range 512).map (pieceAt (bl s) (bl p) m) = acc := by rw [HA.out, pieceL_map]
        rw [forgedL, putSum, ea, z1.out, z2.out, oS, ei, ht.out]
        rw [show (⟨#[0, 32]⟩ : ByteArray) = bs [0, 32] from rfl, bs_append, bs_append, bs_append, List.drop_zero]
        rw [List.take_of_length_le (l := acc.drop 156) (by rw [List.length_drop]; omega)]
      have ho6 := oS_size 6 i.toNat
      have zz1 : x1.size = 148 - 0 := by rw [z1.out, bs_size, List.length_take, List.length_drop]; omega
      have zz2 : x2.size = 512 - 156 := by rw [z2.out, bs_size, List.length_take, List.length_drop]; omega
      clear HA hi
      go_upto_region 11 with fail
      go_quiet (fail)
      go_wp2_with fail
      go_ret
      exact ⟨by rw [← FIN _ rfl]; rfl, B2.trans ⟨rfl, rfl, rfl, Nat.le_refl _, fun _ _ => rfl⟩⟩
/-! closed -/
theorem fst_of {α : Type} {x : Nat × α} {n : Nat} (h : x.1 = n) : ∃ y, Hid (x = (n, y)) := by
  subst h
  exact ⟨x.2, rfl⟩
theorem dec_z1 : Us.dec (forgedL ZA [32, 32, 32, 54, 52, 52, 32, 32] 100) = (0, zH) := by
  unfold ZA
  decide +kernel
theorem dec_z2 : (Us.dec (forgedL ZA (reps [0] 8) 100)).1 = 6 := by unfold ZA; decide +kernel
theorem dec_z3 : (Us.dec (forgedL ZA [48, 48, 48, 48, 54, 52, 56, 0] 100)).1 = 6 := by unfold ZA; decide +kernel
theorem dec_z4 : (Us.dec (ZA.take 156 ++ [53] ++ ZA.drop 157)).1 = 7 := by unfold ZA; decide +kernel
theorem dec_z5 : (Us.dec (ZA.take 511)).1 = 2 := by unfold ZA; decide +kernel
theorem dec_z6 : (Us.dec (ZA ++ [0])).1 = 3 := by unfold ZA; decide +kernel
theorem dec_z7 : (Us.dec (reps [0] 512)).1 = 4 := by decide +kernel
end Go.Proofs.YtfhfahlocpmdkaaDoor
