/- stratalaw05.UstarPosix, walked: of all inputs, true. -/
import Derived.Test.YtfhfahlocpmdkaaDoorUsXb
import Derived.Test.YtfhfahlocpmdkaaDoorUsY
import Derived.Deep.RegionHeld3
namespace Go.Proofs.YtfhfahlocpmdkaaDoor
open Go.RowKit
attribute [local go_sem ↓] Go.wp_at_zero Go.wp_at_succ

theorem bl_cut (B : List UInt8) (a b : Nat) : bl ((bs B).extract a b) = Us.cut B a b := by rw [bl_extract]; rfl
theorem octal_cut (B : List UInt8) (a b d : Nat) (x : Int) (hF : Us.cut B a b = Us.oct d x.toNat ++ [0]) (hx : x.toNat < 8 ^ d ∧ (x.toNat : Int) = x) (hd : d ≤ 11) (w : World) :
    Calls Tryd.prog 23 #[.string ((bs B).extract a b), .int .i64 x] w fun e w' => e = .returned (.bool true) ∧ w = w' := by
  have := octal_true ((bs B).extract a b) d x.toNat w (by rw [bl_cut]; exact hF) hx.1 hd
  rwa [hx.2] at this
theorem texted_cut (B : List UInt8) (a b n : Nat) (x : List UInt8) (hF : Us.cut B a b = Us.fill n x) (hx : (bs x).size ≤ n) (hn : n ≤ 1000) (w : World) :
    Calls Tryd.prog 24 #[.string ((bs B).extract a b), .string (bs x)] w fun e w' => e = .returned (.bool true) ∧ w = w' :=
  texted_true ((bs B).extract a b) (bs x) n w (by rw [bl_cut]; exact hF) hx hn
def outFrom : Nat → List UInt8 → Nat
  | _, [] => 0
  | i, c :: r => (if 148 ≤ i ∧ i < 156 then 0 else c.toNat) + outFrom (i + 1) r
theorem out_sum : ∀ (l : List UInt8) (i : Nat), Us.sumFrom i l = outFrom i l + 32 * (min 156 (i + l.length) - max 148 i)
  | [], i => by simp only [Us.sumFrom, outFrom, List.length_nil]; omega
  | c :: r, i => by
    have ih := out_sum r (i + 1)
    simp only [Us.sumFrom, outFrom, List.length_cons, ih]
    split <;> omega
theorem out_all (B : List UInt8) (h : B.length = 512) : Us.sumFrom 0 B = outFrom 0 B + 256 := by
  have := out_sum B 0
  rw [h] at this
  omega
theorem out_le : ∀ (l : List UInt8) (i : Nat), outFrom i l ≤ 255 * l.length
  | [], _ => by simp [outFrom]
  | c :: r, i => by
    have := out_le r (i + 1)
    have := c.toNat_lt
    rw [outFrom, List.length_cons]
    split <;> omega
theorem out_snoc (L : List UInt8) (k : Nat) (h : k < L.length) : outFrom k (L.drop k) = (if 148 ≤ k ∧ k < 156 then 0 else (L[k]).toNat) + outFrom (k + 1) (L.drop (k + 1)) := by
  rw [List.drop_eq_getElem_cons h, outFrom]
theorem cut_get {B L : List UInt8} {a b k : Nat} (h : Us.cut B a b = L) (hk : a + k < b) (hb : b ≤ B.length) (hkl : k < L.length) : B[a + k]'(by omega) = L[k] := by
  subst h
  simp [Us.cut]
set_option maxRecDepth 100000 in
set_option maxHeartbeats 8000000 in
theorem lawPosix (h : Us.Hd) (w : World) (hs : Short h) (hg : ErrVar w) : Calls Tryd.prog 9 #[.agg (hdC h)] w fun e w' => e = .returned (.bool true) ∧ Below w.heap.size w w' := by
  have HG := Lib.hid hg
  clear hg
  by_cases h0 : (Us.enc h).1 = 0
  · obtain ⟨hb, pre, name, hsp, hl, hgn, e⟩ := Us.enc_ok h0
    have F := Us.fields h pre name
    obtain ⟨B, hB⟩ : ∃ B, B = Us.bytes h pre name := ⟨_, rfl⟩
    have E1 : Hid (Us.enc h = (0, B)) := by show _ = _; rw [hB, ← e]; exact Prod.ext h0 rfl
    rw [← hB] at F
    have hlen := F.len
    simp only [Us.goodNums, Bool.and_eq_true] at hgn
    obtain ⟨⟨⟨⟨⟨⟨g1, g2⟩, g3⟩, g4⟩, g5⟩, g6⟩, g7⟩ := hgn
    simp only [Us.badText, Bool.or_eq_false_iff, decide_eq_false_iff_not] at hb
    obtain ⟨⟨⟨⟨⟨b1, b2⟩, b3⟩, b4⟩, b5⟩, b6⟩ := hb
    obtain ⟨s1, s2, s3⟩ := Us.split_spec hsp
    have hz : (bs B).size = 512 := by rw [bs_size]; exact hlen
    have O100 : Hid (∀ w, Calls Tryd.prog 23 #[.string ((bs B).extract 100 108), .int .i64 h.mode] w fun e w' => e = .returned (.bool true) ∧ w = w') := octal_cut B 100 108 7 h.mode F.mode (Us.fits7 g1) (by decide)
    have O108 : Hid (∀ w, Calls Tryd.prog 23 #[.string ((bs B).extract 108 116), .int .i64 h.uid] w fun e w' => e = .returned (.bool true) ∧ w = w') := octal_cut B 108 116 7 h.uid F.uid (Us.fits7 g2) (by decide)
    have O116 : Hid (∀ w, Calls Tryd.prog 23 #[.string ((bs B).extract 116 124), .int .i64 h.gid] w fun e w' => e = .returned (.bool true) ∧ w = w') := octal_cut B 116 124 7 h.gid F.gid (Us.fits7 g3) (by decide)
    have O124 : Hid (∀ w, Calls Tryd.prog 23 #[.string ((bs B).extract 124 136), .int .i64 h.size] w fun e w' => e = .returned (.bool true) ∧ w = w') := octal_cut B 124 136 11 h.size F.size (Us.fits11 g6) (by decide)
    have O136 : Hid (∀ w, Calls Tryd.prog 23 #[.string ((bs B).extract 136 148), .int .i64 h.time] w fun e w' => e = .returned (.bool true) ∧ w = w') := octal_cut B 136 148 11 h.time F.time (Us.fits11 g7) (by decide)
    have O329 : Hid (∀ w, Calls Tryd.prog 23 #[.string ((bs B).extract 329 337), .int .i64 h.major] w fun e w' => e = .returned (.bool true) ∧ w = w') := octal_cut B 329 337 7 h.major F.major (Us.fits7 g4) (by decide)
    have O337 : Hid (∀ w, Calls Tryd.prog 23 #[.string ((bs B).extract 337 345), .int .i64 h.minor] w fun e w' => e = .returned (.bool true) ∧ w = w') := octal_cut B 337 345 7 h.minor F.minor (Us.fits7 g5) (by decide)
    have T157 : Hid (∀ w, Calls Tryd.prog 24 #[.string ((bs B).extract 157 257), .string (bs h.link)] w fun e w' => e = .returned (.bool true) ∧ w = w') := texted_cut B 157 257 100 h.link F.link (by rw [bs_size]; exact hl) (by decide)
    have T265 : Hid (∀ w, Calls Tryd.prog 24 #[.string ((bs B).extract 265 297), .string (bs h.user)] w fun e w' => e = .returned (.bool true) ∧ w = w') := texted_cut B 265 297 32 h.user F.user (by rw [bs_size]; omega) (by decide)
    have T297 : Hid (∀ w, Calls Tryd.prog 24 #[.string ((bs B).extract 297 329), .string (bs h.group)] w fun e w' => e = .returned (.bool true) ∧ w = w') := texted_cut B 297 329 32 h.group F.group (by rw [bs_size]; omega) (by decide)
    have T500 : Hid (∀ w, Calls Tryd.prog 24 #[.string ((bs B).extract 500 (bs B).size), .string ⟨#[]⟩] w fun e w' => e = .returned (.bool true) ∧ w = w') := fun w => texted_true _ ⟨#[]⟩ 12 w (by rw [hz, bl_cut, F.rest]; rfl) (by decide) (by decide)
    have P0 : Hid (∀ w, Calls Tryd.prog 22 #[.string ((bs B).extract 0 100), .string ((bs B).extract 345 500), .string (bs h.path)] w fun e w' => e = .returned (.bool true) ∧ w = w') := by
      show ∀ w, _
      intro w
      by_cases hp : (bs h.path).size ≤ 100
      · have hp2 : h.path.length ≤ 100 := by rw [← bs_size]; exact hp
        rw [Us.split, if_pos hp2] at hsp
        injection hsp with hsp
        injection hsp with q1 q2
        exact pathed_short _ _ _ w hp (by rw [bl_cut, F.name, ← q2]; rfl) (by rw [bl_cut, F.prefix_, ← q1])
      · exact pathed_long _ _ _ pre name w (by omega) (by have := hs.path; omega) hsp b1 (by rw [bl_cut, F.name]) (by rw [bl_cut, F.prefix_])
    have hmg : (((bs B).extract 257 265).toList == [117, 115, 116, 97, 114, 0, 48, 48]) = true := by
      rw [toList_bl, bl_cut, F.mag]; rfl
    have S8 : Us.sumFrom 0 B < 8 ^ 6 := by
      have := Us.sumFrom_le B 0
      rw [hlen] at this
      show _ < 262144
      omega
    have hSum : Us.cut B 148 155 = Us.oct 6 (Us.sumFrom 0 B) ++ [0] := by
      have e1 : Us.cut B 148 155 = (Us.cut B 148 156).take 7 := by simp [Us.cut, List.take_take]
      rw [e1, F.sum, List.take_append]
      simp [Us.oct_length, List.take_of_length_le]
    have O148 : Hid (∀ w, Calls Tryd.prog 23 #[.string ((bs B).extract 148 155), .int .i64 ((Us.sumFrom 0 B : Nat) : Int)] w fun e w' => e = .returned (.bool true) ∧ w = w') := fun w => octal_true _ 6 (Us.sumFrom 0 B) w (by rw [bl_cut]; exact hSum) S8 (by decide)
    have hp155 : 155 < (bs B).size := by omega
    have g155 : (((bs B)[155]).toNat) = 32 := by
      have q := cut_get (k := 7) F.sum (by decide) (by rw [hlen]; decide) (by simp [Us.oct_length])
      have q2 : (Us.oct 6 (Us.sumFrom 0 B) ++ [0, 32])[7]'(by simp [Us.oct_length]) = 32 := by
        rw [List.getElem_append_right (by simp [Us.oct_length])]
        simp [Us.oct_length]
      rw [q2] at q
      show (B[155]'(by omega)).toNat = 32
      have q3 : B[155]'(by omega) = 32 := q
      rw [q3]; rfl
    have hp156 : 156 < (bs B).size := by omega
    have t156 : ((((bs B)[156]).toNat : Int) != (h.type.toNat : Int)) = false := by
      have q := F.type
      rw [List.getD_eq_getElem?_getD, List.getElem?_eq_getElem (by omega)] at q
      have q2 : (bs B)[156] = h.type := q
      rw [q2]; simp
    have t155 : ((((bs B)[155]).toNat : Int) == 32) = true := by simp [g155]
    obtain ⟨TS, hTS⟩ : ∃ n, n = Us.sumFrom 0 B := ⟨_, rfl⟩
    rw [← hTS] at O148
    have HT : Hid (TS = 256 + outFrom 0 B) := by show _ = _; rw [hTS, out_all B hlen, Nat.add_comm]
    have hTle : TS < 262144 := by rw [hTS]; exact S8
    have HLEN := Lib.hid hlen
    have h100 := slice_h (bs B) 100 100 rfl (by omega)
    have h500 := slice_l (bs B) 500 500 rfl (by omega)
    have sl345 := slice_lit (bs B) 345 500 345 500 rfl rfl (by omega) (by omega)
    have sl100 := slice_lit (bs B) 100 108 100 108 rfl rfl (by omega) (by omega)
    have sl108 := slice_lit (bs B) 108 116 108 116 rfl rfl (by omega) (by omega)
    have sl116 := slice_lit (bs B) 116 124 116 124 rfl rfl (by omega) (by omega)
    have sl124 := slice_lit (bs B) 124 136 124 136 rfl rfl (by omega) (by omega)
    have sl136 := slice_lit (bs B) 136 148 136 148 rfl rfl (by omega) (by omega)
    have sl329 := slice_lit (bs B) 329 337 329 337 rfl rfl (by omega) (by omega)
    have sl337 := slice_lit (bs B) 337 345 337 345 rfl rfl (by omega) (by omega)
    have sl157 := slice_lit (bs B) 157 257 157 257 rfl rfl (by omega) (by omega)
    have sl265 := slice_lit (bs B) 265 297 265 297 rfl rfl (by omega) (by omega)
    have sl297 := slice_lit (bs B) 297 329 297 329 rfl rfl (by omega) (by omega)
    have sl257 := slice_lit (bs B) 257 265 257 265 rfl rfl (by omega) (by omega)
    have sl148 := slice_lit (bs B) 148 155 148 155 rfl rfl (by omega) (by omega)
    have z1 : (bs B).size ≤ 512 := by omega
    have z2 : 512 ≤ (bs B).size := by omega
    have zb : (((bs B).size : Int) != 512) = false := by rw [hz]; rfl
    have i156 : (156 : Int) < ((bs B).size : Int) := by omega
    have i155 : (155 : Int) < ((bs B).size : Int) := by omega
    clear hB e F g1 g2 g3 g4 g5 g6 g7 b1 b2 b3 b4 b5 b6 s1 s2 s3 hsp hl hlen hSum S8 hTS g155 h0 hz
    unfold hdC
    go_enter Tryd.func9, Tryd.ntmps9
    go_wp2_with fail
    refine (enc_ok_at h _ hs E1).mono ?_
    rintro e w1 ⟨rfl, b1⟩
    obtain ⟨hh1, B1⟩ := new_hd w h b1
    clear b1
    obtain ⟨c0, c1, c2, c3, c4, c5, c6, c7, c8, c9, c10, c11, _, _, _, _, _, _, _, _, _, _, _, _⟩ := cells12 hh1
    go_wp2_with fail
    go_region_held3 (fun w' => w'.cell? ⟨w.heap.size, 0, none⟩ = some (.string (bs h.path)) ∧ w'.cell? ⟨w.heap.size, 1, none⟩ = some (.int .i64 h.mode) ∧ w'.cell? ⟨w.heap.size, 2, none⟩ = some (.int .i64 h.uid) ∧ w'.cell? ⟨w.heap.size, 3, none⟩ = some (.int .i64 h.gid) ∧ w'.cell? ⟨w.heap.size, 4, none⟩ = some (.int .i64 h.size) ∧ w'.cell? ⟨w.heap.size, 5, none⟩ = some (.int .i64 h.time) ∧ w'.cell? ⟨w.heap.size, 6, none⟩ = some (.int .u8 (h.type.toNat : Int)) ∧ w'.cell? ⟨w.heap.size, 7, none⟩ = some (.string (bs h.link)) ∧ w'.cell? ⟨w.heap.size, 8, none⟩ = some (.string (bs h.user)) ∧ w'.cell? ⟨w.heap.size, 9, none⟩ = some (.string (bs h.group)) ∧ w'.cell? ⟨w.heap.size, 10, none⟩ = some (.int .i64 h.major) ∧ w'.cell? ⟨w.heap.size, 11, none⟩ = some (.int .i64 h.minor)) (exact ⟨c0, c1, c2, c3, c4, c5, c6, c7, c8, c9, c10, c11⟩) (first | (go_at_call 22; refine (P0.out _).mono ?_; rintro e w2 ⟨rfl, rfl⟩) | (go_at_call 23; (first | (with_reducible refine (O100.out _).mono ?_) | (with_reducible refine (O108.out _).mono ?_) | (with_reducible refine (O116.out _).mono ?_) | (with_reducible refine (O124.out _).mono ?_) | (with_reducible refine (O136.out _).mono ?_) | (with_reducible refine (O329.out _).mono ?_) | (with_reducible refine (O337.out _).mono ?_)); rintro e w2 ⟨rfl, rfl⟩) | (go_at_call 24; (first | (with_reducible refine (T157.out _).mono ?_) | (with_reducible refine (T265.out _).mono ?_) | (with_reducible refine (T297.out _).mono ?_) | (with_reducible refine (T500.out _).mono ?_)); rintro e w2 ⟨rfl, rfl⟩))
    go_wp2_with fail
    go_region_held3 (fun w' => w'.cell? ⟨w.heap.size, 0, none⟩ = some (.string (bs h.path)) ∧ w'.cell? ⟨w.heap.size, 1, none⟩ = some (.int .i64 h.mode) ∧ w'.cell? ⟨w.heap.size, 2, none⟩ = some (.int .i64 h.uid) ∧ w'.cell? ⟨w.heap.size, 3, none⟩ = some (.int .i64 h.gid) ∧ w'.cell? ⟨w.heap.size, 4, none⟩ = some (.int .i64 h.size) ∧ w'.cell? ⟨w.heap.size, 5, none⟩ = some (.int .i64 h.time) ∧ w'.cell? ⟨w.heap.size, 6, none⟩ = some (.int .u8 (h.type.toNat : Int)) ∧ w'.cell? ⟨w.heap.size, 7, none⟩ = some (.string (bs h.link)) ∧ w'.cell? ⟨w.heap.size, 8, none⟩ = some (.string (bs h.user)) ∧ w'.cell? ⟨w.heap.size, 9, none⟩ = some (.string (bs h.group)) ∧ w'.cell? ⟨w.heap.size, 10, none⟩ = some (.int .i64 h.major) ∧ w'.cell? ⟨w.heap.size, 11, none⟩ = some (.int .i64 h.minor)) (exact ⟨c0, c1, c2, c3, c4, c5, c6, c7, c8, c9, c10, c11⟩) (first | (go_at_call 22; refine (P0.out _).mono ?_; rintro e w2 ⟨rfl, rfl⟩) | (go_at_call 23; (first | (with_reducible refine (O100.out _).mono ?_) | (with_reducible refine (O108.out _).mono ?_) | (with_reducible refine (O116.out _).mono ?_) | (with_reducible refine (O124.out _).mono ?_) | (with_reducible refine (O136.out _).mono ?_) | (with_reducible refine (O329.out _).mono ?_) | (with_reducible refine (O337.out _).mono ?_)); rintro e w2 ⟨rfl, rfl⟩) | (go_at_call 24; (first | (with_reducible refine (T157.out _).mono ?_) | (with_reducible refine (T265.out _).mono ?_) | (with_reducible refine (T297.out _).mono ?_) | (with_reducible refine (T500.out _).mono ?_)); rintro e w2 ⟨rfl, rfl⟩))
    go_wp2_with fail
    go_region_held3 (fun w' => w'.cell? ⟨w.heap.size, 0, none⟩ = some (.string (bs h.path)) ∧ w'.cell? ⟨w.heap.size, 1, none⟩ = some (.int .i64 h.mode) ∧ w'.cell? ⟨w.heap.size, 2, none⟩ = some (.int .i64 h.uid) ∧ w'.cell? ⟨w.heap.size, 3, none⟩ = some (.int .i64 h.gid) ∧ w'.cell? ⟨w.heap.size, 4, none⟩ = some (.int .i64 h.size) ∧ w'.cell? ⟨w.heap.size, 5, none⟩ = some (.int .i64 h.time) ∧ w'.cell? ⟨w.heap.size, 6, none⟩ = some (.int .u8 (h.type.toNat : Int)) ∧ w'.cell? ⟨w.heap.size, 7, none⟩ = some (.string (bs h.link)) ∧ w'.cell? ⟨w.heap.size, 8, none⟩ = some (.string (bs h.user)) ∧ w'.cell? ⟨w.heap.size, 9, none⟩ = some (.string (bs h.group)) ∧ w'.cell? ⟨w.heap.size, 10, none⟩ = some (.int .i64 h.major) ∧ w'.cell? ⟨w.heap.size, 11, none⟩ = some (.int .i64 h.minor)) (exact ⟨c0, c1, c2, c3, c4, c5, c6, c7, c8, c9, c10, c11⟩) (first | (go_at_call 22; refine (P0.out _).mono ?_; rintro e w2 ⟨rfl, rfl⟩) | (go_at_call 23; (first | (with_reducible refine (O100.out _).mono ?_) | (with_reducible refine (O108.out _).mono ?_) | (with_reducible refine (O116.out _).mono ?_) | (with_reducible refine (O124.out _).mono ?_) | (with_reducible refine (O136.out _).mono ?_) | (with_reducible refine (O329.out _).mono ?_) | (with_reducible refine (O337.out _).mono ?_)); rintro e w2 ⟨rfl, rfl⟩) | (go_at_call 24; (first | (with_reducible refine (T157.out _).mono ?_) | (with_reducible refine (T265.out _).mono ?_) | (with_reducible refine (T297.out _).mono ?_) | (with_reducible refine (T500.out _).mono ?_)); rintro e w2 ⟨rfl, rfl⟩))
    go_wp2_with fail
    go_region_held3 (fun w' => w'.cell? ⟨w.heap.size, 0, none⟩ = some (.string (bs h.path)) ∧ w'.cell? ⟨w.heap.size, 1, none⟩ = some (.int .i64 h.mode) ∧ w'.cell? ⟨w.heap.size, 2, none⟩ = some (.int .i64 h.uid) ∧ w'.cell? ⟨w.heap.size, 3, none⟩ = some (.int .i64 h.gid) ∧ w'.cell? ⟨w.heap.size, 4, none⟩ = some (.int .i64 h.size) ∧ w'.cell? ⟨w.heap.size, 5, none⟩ = some (.int .i64 h.time) ∧ w'.cell? ⟨w.heap.size, 6, none⟩ = some (.int .u8 (h.type.toNat : Int)) ∧ w'.cell? ⟨w.heap.size, 7, none⟩ = some (.string (bs h.link)) ∧ w'.cell? ⟨w.heap.size, 8, none⟩ = some (.string (bs h.user)) ∧ w'.cell? ⟨w.heap.size, 9, none⟩ = some (.string (bs h.group)) ∧ w'.cell? ⟨w.heap.size, 10, none⟩ = some (.int .i64 h.major) ∧ w'.cell? ⟨w.heap.size, 11, none⟩ = some (.int .i64 h.minor)) (exact ⟨c0, c1, c2, c3, c4, c5, c6, c7, c8, c9, c10, c11⟩) (first | (go_at_call 22; refine (P0.out _).mono ?_; rintro e w2 ⟨rfl, rfl⟩) | (go_at_call 23; (first | (with_reducible refine (O100.out _).mono ?_) | (with_reducible refine (O108.out _).mono ?_) | (with_reducible refine (O116.out _).mono ?_) | (with_reducible refine (O124.out _).mono ?_) | (with_reducible refine (O136.out _).mono ?_) | (with_reducible refine (O329.out _).mono ?_) | (with_reducible refine (O337.out _).mono ?_)); rintro e w2 ⟨rfl, rfl⟩) | (go_at_call 24; (first | (with_reducible refine (T157.out _).mono ?_) | (with_reducible refine (T265.out _).mono ?_) | (with_reducible refine (T297.out _).mono ?_) | (with_reducible refine (T500.out _).mono ?_)); rintro e w2 ⟨rfl, rfl⟩))
    go_wp2_with fail
    have h256 : 256 ≤ TS := by have := HT.out; omega
    have HOUT : Hid (∀ k (h : k < 512), outFrom k (B.drop k) = (if 148 ≤ k ∧ k < 156 then 0 else ((bs B)[k]'(by omega)).toNat) + outFrom (k + 1) (B.drop (k + 1))) := fun k h => out_snoc B k (by rw [HLEN.out]; exact h)
    go_loop [5, 6] (fun v i => ∃ k acc : Nat, k ≤ 512 ∧ i = .int .i64 (k : Int) ∧ v = .int .i64 (acc : Int) ∧ acc ≤ TS ∧ Hid (TS = acc + outFrom k (B.drop k))) (fun _ i => 512 - (intOf i).toNat)
    case atStart => exact ⟨0, 256, by omega, rfl, rfl, h256, HT⟩
    case round =>
      obtain ⟨k, acc, hk, rfl, rfl, hacc, hrec⟩ := hrel
      by_cases hk5 : k < 512
      · have hks : k < (bs B).size := by omega
        have hbk : ((bs B)[k]).toNat < 256 := ((bs B)[k]).toNat_lt
        have i1 : (0 : Int) ≤ (k : Int) := by omega
        have i2 : (k : Int) < ((bs B).size : Int) := by omega
        have i3 : decide ((k : Int) < 512) = true := by simp; omega
        have ho := HOUT.out k hk5
        rcases (show k < 148 ∨ (148 ≤ k ∧ k < 156) ∨ (148 ≤ k ∧ 156 ≤ k) by omega) with q | ⟨q, q2⟩ | ⟨q, q2⟩
        · have HV : Hid (TS = (acc + ((bs B)[k]).toNat) + outFrom (k + 1) (B.drop (k + 1))) := by show _ = _; rw [hrec.out, ho, if_neg (by omega), Nat.add_assoc]
          have hle : acc + ((bs B)[k]).toNat ≤ TS := by have := HV.out; omega
          have d1 : decide ((k : Int) < 148) = true := by simp; omega
          clear hrec ho
          go_wp2_with fail
          go_round
          case rel => exact ⟨k + 1, acc + ((bs B)[k]).toNat, by omega, by go_num, by go_num, hle, HV⟩
          case measure => simp [intOf]; omega
        · have HV : Hid (TS = acc + outFrom (k + 1) (B.drop (k + 1))) := by show _ = _; rw [hrec.out, ho, if_pos ⟨q, q2⟩, Nat.zero_add]
          have d1 : decide ((k : Int) < 148) = false := by simp; omega
          have d2 : decide ((156 : Int) ≤ (k : Int)) = false := by simp; omega
          clear hrec ho
          go_wp2_with fail
          go_round
          case rel => exact ⟨k + 1, acc, by omega, by go_num, rfl, hacc, HV⟩
          case measure => simp [intOf]; omega
        · have HV : Hid (TS = (acc + ((bs B)[k]).toNat) + outFrom (k + 1) (B.drop (k + 1))) := by show _ = _; rw [hrec.out, ho, if_neg (by omega), Nat.add_assoc]
          have hle : acc + ((bs B)[k]).toNat ≤ TS := by have := HV.out; omega
          have d1 : decide ((k : Int) < 148) = false := by simp; omega
          have d2 : decide ((156 : Int) ≤ (k : Int)) = true := by simp; omega
          clear hrec ho
          go_wp2_with fail
          go_round
          case rel => exact ⟨k + 1, acc + ((bs B)[k]).toNat, by omega, by go_num, by go_num, hle, HV⟩
          case measure => simp [intOf]; omega
      · obtain rfl : k = 512 := by omega
        have hfin : acc = TS := by rw [hrec.out, List.drop_of_length_le (by rw [HLEN.out]; exact Nat.le_refl _), outFrom, Nat.add_zero]
        subst hfin
        clear hrec
        go_wp2_with (first | (go_at_call 23; refine (O148.out _).mono ?_; rintro e w2 ⟨rfl, rfl⟩) | (go_at_call 16; refine (works_any _ (by first | exact HG.out.below B1 HG.out.lt | exact HG.out.below (below_drewN B1 4) HG.out.lt)).mono ?_; rintro e w5 ⟨rfl, b5⟩))
        go_ret
        first | exact ⟨rfl, below_of_below B1 b5 B1.size⟩ | exact ⟨rfl, below_of_below (below_drewN B1 4) b5 B1.size⟩
  · obtain ⟨N, hN, e1⟩ : ∃ N, N ≠ 0 ∧ Us.enc h = (N, []) := ⟨_, h0, Prod.ext rfl (Us.enc_bad h0)⟩
    have E1 := Lib.hid e1
    clear e1 h0
    unfold hdC
    go_enter Tryd.func9, Tryd.ntmps9
    go_wp2_with fail
    refine (enc_bad_at h _ hs hN E1).mono ?_
    rintro e w1 ⟨rfl, b1⟩
    obtain ⟨hh1, B1⟩ := new_hd w h b1
    have G1 := HG.out.below B1 HG.out.lt
    clear b1
    go_wp2_with (go_at_call 16; refine (works_any _ G1).mono ?_; rintro e w5 ⟨rfl, b5⟩)
    go_ret
    exact ⟨rfl, below_of_below B1 b5 B1.size⟩
end Go.Proofs.YtfhfahlocpmdkaaDoor
