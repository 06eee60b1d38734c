/- lex.wrongText, walked: characters of UTF-8. -/
import Derived.Test.YtpgnfianffjpnaaGreatDoorProg
import Derived.Ground.NamesProg
import Derived.Test.YtpgnfianffjpnaaGreatDoorLxD
import Derived.Shelf.Abstract
import Derived.Shelf.RegionOpen
import Derived.Shelf.Unicode.DecodeAny
import Derived.Lib.LaidU8
import Derived.Lib.TrimU
namespace Go.Proofs.YtpgnfianffjpnaaGreatDoor
open Go Go.RowKit Go.Shelf
def Tryz.lays197_ren : Go.Shelf.Ren := ⟨fun | 197 => 85 | 260 => 137 | n => n, fun | 9 => 9 | 21 => 21 | 3 => 3 | 4 => 4 | 5 => 5 | 105 => 151 | 119 => 291 | 0 => 0 | 46 => 292 | 139 => 295 | 138 => 294 | n => n, fun | 3 => 1 | 4 => 2 | n => n⟩
theorem Tryz.lays197 : Go.Proofs.Lays.n197 Tryz.prog Tryz.lays197_ren := {
  mixed := by kernel_rfl
  f197 := Tryz.func85.trans (congrArg some (by kernel_rfl))
  f260 := Tryz.func137.trans (congrArg some (by kernel_rfl))
  t0 := Tryz.underlying0
  a0 := Tryz.isAgg0
  z0 := Tryz.sizeOf0
  v0 := Tryz.zeroValue0
  t3 := Tryz.underlying3
  a3 := Tryz.isAgg3
  z3 := Tryz.sizeOf3
  v3 := Tryz.zeroValue3
  t4 := Tryz.underlying4
  a4 := Tryz.isAgg4
  z4 := Tryz.sizeOf4
  v4 := Tryz.zeroValue4
  t5 := Tryz.underlying5
  a5 := Tryz.isAgg5
  z5 := Tryz.sizeOf5
  v5 := Tryz.zeroValue5
  t9 := Tryz.underlying9
  a9 := Tryz.isAgg9
  z9 := Tryz.sizeOf9
  v9 := Tryz.zeroValue9
  t21 := Tryz.underlying21
  a21 := Tryz.isAgg21
  z21 := Tryz.sizeOf21
  v21 := Tryz.zeroValue21
  t46 := Tryz.underlying292
  a46 := Tryz.isAgg292
  z46 := Tryz.sizeOf292
  v46 := Tryz.zeroValue292
  t105 := Tryz.underlying151
  a105 := Tryz.isAgg151
  z105 := Tryz.sizeOf151
  v105 := Tryz.zeroValue151
  t119 := Tryz.underlying291
  a119 := Tryz.isAgg291
  z119 := Tryz.sizeOf291
  t138 := Tryz.underlying294
  a138 := Tryz.isAgg294
  z138 := Tryz.sizeOf294
  v138 := Tryz.zeroValue294
  t139 := Tryz.underlying295
  a139 := Tryz.isAgg295
  z139 := Tryz.sizeOf295
  v139 := Tryz.zeroValue295
  g3 := by kernel_rfl
  g4 := by kernel_rfl }

set_option maxRecDepth 100000 in
set_option maxHeartbeats 4000000 in
theorem charN_dec (n b0 b1 b2 b3 : Nat) (h0 : b0 < 256) (h1 : b1 < 256) (h2 : b2 < 256) (h3 : b3 < 256) :
    (Lx.charN n b0 b1 b2 b3 = 0 ∧ Lib.decodeN n b0 b1 b2 b3 = (65533, 1)) ∨ (Lx.charN n b0 b1 b2 b3 = (Lib.decodeN n b0 b1 b2 b3).2 ∧ 1 ≤ (Lib.decodeN n b0 b1 b2 b3).2 ∧ ¬ ((Lib.decodeN n b0 b1 b2 b3).1 = 65533 ∧ (Lib.decodeN n b0 b1 b2 b3).2 = 1)) := by
  unfold Lx.charN Lib.decodeN
  repeat' split
  all_goals first
    | (left; exact ⟨rfl, rfl⟩)
    | (exfalso; omega)
    | (right; refine ⟨rfl, by simp only; omega, fun h => ?_⟩; have h5 := h.1; have h6 := h.2; simp only at h5 h6; omega)
/-- Go's two tables of UTF-8 stand as the program's text lays them. -/
def Tabs (w : World) : Prop := Lib.Utf8Tabs 1 2 w
theorem Tabs.new {w w' : World} (h : Tabs w) (hb : Below w.heap.size w w') : Tabs w' := by
  obtain ⟨h1, h2⟩ := h
  refine ⟨fun c hc => ?_, fun i hi => ⟨?_, ?_⟩⟩
  · have h := h1 c hc
    exact (hb.cell (p := ⟨_, c, none⟩) (World.block_lt_of_cell? w _ h)).trans h
  · have h := (h2 i hi).1
    exact (hb.cell (p := ⟨_, 2 * i, none⟩) (World.block_lt_of_cell? w _ h)).trans h
  · have h := (h2 i hi).2
    exact (hb.cell (p := ⟨_, 2 * i + 1, none⟩) (World.block_lt_of_cell? w _ h)).trans h
theorem get_bs (l : List UInt8) (k : Nat) : (bs l).get! k = l.getD k 0 := by
  show (l.toArray)[k]! = _
  simp [List.getD]
  rfl
theorem decode_any (l : List UInt8) (hl : l ≠ []) (w : World) (hT : Tabs w) : Calls Tryz.prog 85 #[.string (bs l)] w fun e w' => e = .returned (.tuple #[.int .i32 ((Utf8.decode (bs l) 0).1 : Int), .int .i64 ((Utf8.decode (bs l) 0).2 : Int)]) ∧ Below w.heap.size w w' := by
  have h := Any.utf8_DecodeRuneInString Tryz.lays197 (bs l) w hT
  have hz : ¬ (bs l).size = 0 := by rw [bs_size]; cases l with
    | nil => exact absurd rfl hl
    | cons a r => simp
  rw [Lib.decodeGo, if_neg hz] at h
  exact h
theorem dec_char (l : List UInt8) : (Lx.charLen l = 0 ∧ Utf8.decode (bs l) 0 = (65533, 1)) ∨ (∃ k, Lx.charLen l = k + 1 ∧ (Utf8.decode (bs l) 0).2 = k + 1 ∧ ¬ ((Utf8.decode (bs l) 0).1 = 65533 ∧ k = 0)) := by
  have e : Utf8.decode (bs l) 0 = Lib.decodeN l.length (l.getD 0 0).toNat (l.getD 1 0).toNat (l.getD 2 0).toNat (l.getD 3 0).toNat := by
    rw [Lib.decode_at, get_bs, get_bs, get_bs, get_bs, bs_size]; rfl
  have h := charN_dec l.length (l.getD 0 0).toNat (l.getD 1 0).toNat (l.getD 2 0).toNat (l.getD 3 0).toNat (UInt8.toNat_lt _) (UInt8.toNat_lt _) (UInt8.toNat_lt _) (UInt8.toNat_lt _)
  rw [← e] at h
  rw [show Lx.charN l.length (l.getD 0 0).toNat (l.getD 1 0).toNat (l.getD 2 0).toNat (l.getD 3 0).toNat = Lx.charLen l from rfl] at h
  rcases h with h | ⟨h1, h2, h3⟩
  · exact .inl h
  · obtain ⟨k, hk⟩ : ∃ k, (Utf8.decode (bs l) 0).2 = k + 1 := ⟨(Utf8.decode (bs l) 0).2 - 1, by omega⟩
    exact .inr ⟨k, by rw [h1, hk], hk, fun h => h3 ⟨h.1, by omega⟩⟩
theorem charLen_le {l : List UInt8} (h : l ≠ []) : Lx.charLen l ≤ l.length := Lx.charN_le _ _ _ _ _ (by cases l with
  | nil => exact absurd rfl h
  | cons a r => simp)
/-- the place, as two numbers. -/
def two (R : Option (Nat × Nat)) : Int × Int := match R with
  | none => (0, 0)
  | some (l, a) => ((l : Int), (a : Int))
set_option maxRecDepth 100000 in
set_option maxHeartbeats 8000000 in
theorem wrongText_any (s : List UInt8) (hs : s.length ≤ 2000000) (w : World) (hT : Tabs w) {R : Option (Nat × Nat)} (H : Hid (Lx.wrongL s 0 0 1 0 = R)) :
    Calls Tryz.prog 37 #[.string (bs s)] w fun e w' => e = .returned (.tuple #[.int .i64 (two R).1, .int .i64 (two R).2]) ∧ Below w.heap.size w w' := by
  have HZ := Lib.hid (bs_size s)
  have hs2 : (bs s).size ≤ 2000000 := by rw [HZ.out]; exact hs
  have H0 : Hid (Lx.wrongL (s.drop 0) 0 0 1 0 = R) := by show _ = _; rw [List.drop_zero]; exact H.out
  have HT := Lib.hid hT
  clear hT H
  go_enter Tryz.func37, Tryz.ntmps37
  go_wp2_with fail
  go_loopw [4, 5, 6, 7, 8] (fun t4 t5 t6 _ _ wr => ∃ i line f : Nat, i ≤ (bs s).size ∧ line ≤ i + 1 ∧ f ≤ i ∧ t4 = .int .i64 (line : Int) ∧ t5 = .int .i64 (f : Int) ∧ t6 = .int .i64 (i : Int) ∧ Hid (Lx.wrongL (s.drop i) 0 i line f = R) ∧ Hid (Below w.heap.size w wr)) (fun _ _ t6 _ _ _ => (bs s).size - (intOf t6).toNat)
  case atStart => exact ⟨0, 1, 0, by omega, by omega, by omega, rfl, rfl, rfl, H0, Lib.hid (Below.refl _ _)⟩
  case round =>
    clear H0
    obtain ⟨i, line, f, hi, hln, hf, rfl, rfl, rfl, HS, HB⟩ := hrel
    have j0 : (0 : Int) ≤ (i : Int) := by omega
    have j1 : (0 : Int) ≤ (line : Int) := by omega
    have j2 : (0 : Int) ≤ (f : Int) := by omega
    have hsz := HB.out.size
    rcases Nat.lt_or_ge i (bs s).size with hin | hin
    · have i0 : decide ((i : Int) < ((bs s).size : Int)) = true := by rw [decide_eq_true_eq]; omega
      have i1 : (i : Int) < ((bs s).size : Int) := by omega
      have hil : i < s.length := by rw [← HZ.out]; exact hin
      have hc : s[i] = (bs s)[i]'hin := rfl
      have hby : ((bs s)[i]'hin).toNat < 256 := UInt8.toNat_lt _
      have hsl := slice_from s i (i : Int) rfl (by omega)
      have hne : s.drop i ≠ [] := by rw [Ne, List.drop_eq_nil_iff]; omega
      have hch := dec_char (s.drop i)
      have hcl := charLen_le hne
      rw [List.length_drop] at hcl
      have hdec := fun w hw => decode_any (s.drop i) hne w hw
      obtain ⟨d, hd⟩ : ∃ d, Utf8.decode (bs (s.drop i)) 0 = d := ⟨_, rfl⟩
      simp only [hd] at hch hdec
      have hS := HS.out
      have HDEC := Lib.hid hdec
      obtain ⟨dr, dn⟩ := d
      simp only at hch HDEC
      obtain ⟨Y, hY⟩ : ∃ Y, s.drop i = Y := ⟨_, rfl⟩
      have HY := Lib.hid hY
      by_cases hnl : (bs s)[i]'hin = 10
      · have t1 : ((((bs s)[i]'hin).toNat : Int) == 10) = true := u8_yes (d := 10) hnl
        rcases hch with ⟨h1, h2⟩ | ⟨k, h1, h2, h3⟩
        · exfalso
          have h4 : Lx.charLen (s.drop i) = 1 := by
            rw [List.drop_eq_getElem_cons hil, hc, hnl]
            show Lx.charN _ (10 : UInt8).toNat _ _ _ = 1
            rw [Lx.charN, if_pos (by decide)]
          omega
        · have HN : Hid (Lx.wrongL (s.drop (i + (k + 1))) 0 (i + (k + 1)) (line + 1) (i + 1) = R) := by
            show _ = _
            rw [← hS, Lx.wrong_go hil h1, hc, if_pos hnl, if_pos hnl]
          have hik : i + (k + 1) ≤ (bs s).size := by rw [HZ.out]; omega
          subst h2
          obtain ⟨x1, hx1⟩ : ∃ b, ((dr : Int) == 65533) = b := ⟨_, rfl⟩
          obtain ⟨x2, hx2⟩ : ∃ b, (((k + 1 : Nat) : Int) == 1) = b := ⟨_, rfl⟩
          have hx2' : ((k : Int) + 1 == 1) = x2 := by rw [← hx2]; rfl
          have hxx : (x1 && x2) = false := by
            rw [← hx1, ← hx2, Bool.and_eq_false_iff, beq_eq_false_iff_ne, beq_eq_false_iff_ne]
            rcases Nat.eq_zero_or_pos k with h | h
            · exact .inl (fun e => h3 ⟨by omega, h⟩)
            · exact .inr (by omega)
          have HXX := Lib.hid hxx
          have HT1 := Lib.hid (HT.out.new HB.out)
          clear hcl hdec hd hS hY hne h1 h3 hxx HS hx2 hc hnl
          go_wp2_with fail
          refine (HDEC.out _ HT1.out).mono ?_
          rintro r w1 ⟨rfl, b1⟩
          have HB1 := Lib.hid (below_of_below HB.out b1 HB.out.size)
          cases x1 <;> cases x2 <;> first
            | exact absurd HXX.out (by decide)
            | (go_wp2_with fail
               go_roundw
               case rel => exact ⟨i + (k + 1), (line + 1), (i + 1), hik, by omega, by omega, by go_num, by go_num, by first | rfl | go_num, HN, HB1⟩
               case measure => simp [intOf]; omega)
      · have t1 : ((((bs s)[i]'hin).toNat : Int) == 10) = false := u8_no (d := 10) hnl
        rcases hch with ⟨h1, h2⟩ | ⟨k, h1, h2, h3⟩
        · have HR : Hid (R = some (line, i - f + 1)) := by show _ = _; rw [← hS, Lx.wrong_at hil h1]
          injection h2 with h5 h6
          subst h5 h6
          have HT1 := Lib.hid (HT.out.new HB.out)
          clear hcl hdec hd hS hY hne h1 HS hc hnl
          go_wp2_with fail
          refine (HDEC.out _ HT1.out).mono ?_
          rintro r w1 ⟨rfl, b1⟩
          have HB1 := Lib.hid (below_of_below HB.out b1 HB.out.size)
          go_wp2_with fail
          go_ret2
          refine ⟨?_, HB1.out⟩
          rw [HR.out, two]
          have e : ((i - f + 1 : Nat) : Int) = (i : Int) - (f : Int) + 1 := by omega
          simp only [e]
          rfl
        · have HN : Hid (Lx.wrongL (s.drop (i + (k + 1))) 0 (i + (k + 1)) line f = R) := by
            show _ = _
            rw [← hS, Lx.wrong_go hil h1, hc, if_neg hnl, if_neg hnl]
          have hik : i + (k + 1) ≤ (bs s).size := by rw [HZ.out]; omega
          subst h2
          obtain ⟨x1, hx1⟩ : ∃ b, ((dr : Int) == 65533) = b := ⟨_, rfl⟩
          obtain ⟨x2, hx2⟩ : ∃ b, (((k + 1 : Nat) : Int) == 1) = b := ⟨_, rfl⟩
          have hx2' : ((k : Int) + 1 == 1) = x2 := by rw [← hx2]; rfl
          have hxx : (x1 && x2) = false := by
            rw [← hx1, ← hx2, Bool.and_eq_false_iff, beq_eq_false_iff_ne, beq_eq_false_iff_ne]
            rcases Nat.eq_zero_or_pos k with h | h
            · exact .inl (fun e => h3 ⟨by omega, h⟩)
            · exact .inr (by omega)
          have HXX := Lib.hid hxx
          have HT1 := Lib.hid (HT.out.new HB.out)
          clear hcl hdec hd hS hY hne h1 h3 hxx HS hx2 hc hnl
          go_wp2_with fail
          refine (HDEC.out _ HT1.out).mono ?_
          rintro r w1 ⟨rfl, b1⟩
          have HB1 := Lib.hid (below_of_below HB.out b1 HB.out.size)
          cases x1 <;> cases x2 <;> first
            | exact absurd HXX.out (by decide)
            | (go_wp2_with fail
               go_roundw
               case rel => exact ⟨i + (k + 1), line, f, hik, by omega, by omega, by go_num, by go_num, by first | rfl | go_num, HN, HB1⟩
               case measure => simp [intOf]; omega)
    · have i0 : decide ((i : Int) < ((bs s).size : Int)) = false := by rw [decide_eq_false_iff_not]; omega
      have HR : Hid (R = none) := by show _ = _; rw [← HS.out, Lx.wrong_end (by rw [← HZ.out]; exact hin)]
      clear HS
      go_wp2_with fail
      go_ret2
      refine ⟨?_, HB.out⟩
      rw [HR.out]
      rfl
end Go.Proofs.YtpgnfianffjpnaaGreatDoor
