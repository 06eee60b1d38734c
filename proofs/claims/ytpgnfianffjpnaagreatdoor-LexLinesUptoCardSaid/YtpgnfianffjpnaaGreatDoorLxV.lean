/- lex.cut, directives, walked. -/
import Derived.Test.YtpgnfianffjpnaaGreatDoorLxN
namespace Go.Proofs.YtpgnfianffjpnaaGreatDoor
open Go Go.RowKit

/-- the lines while they are trimmed. -/
def trimmedTo (ls : List (List UInt8)) (k : Nat) : List (List UInt8) := (ls.take k).map Lx.cr ++ ls.drop k
theorem trimmedTo_get {ls : List (List UInt8)} {k : Nat} (hk : k < ls.length) : (trimmedTo ls k)[k]? = some ls[k] := by
  rw [trimmedTo, List.getElem?_append_right (by simp; omega), List.length_map, List.length_take, Nat.min_eq_left (by omega), Nat.sub_self, List.getElem?_drop, Nat.add_zero, List.getElem?_eq_getElem hk]
theorem trimmedTo_set {ls : List (List UInt8)} {k : Nat} (hk : k < ls.length) : (trimmedTo ls k).set k (Lx.cr ls[k]) = trimmedTo ls (k + 1) := by
  rw [trimmedTo, trimmedTo, List.take_add_one, List.getElem?_eq_getElem hk, List.drop_eq_getElem_cons hk, List.set_append_right _ _ (by simp; omega), List.length_map, List.length_take, Nat.min_eq_left (by omega), Nat.sub_self, List.set_cons_zero, List.map_append, List.append_assoc]
  rfl
theorem trimmedTo_low {ls : List (List UInt8)} {k j : Nat} (hk : k ≤ ls.length) (hj : j < k) : (trimmedTo ls k)[j]? = some (Lx.cr (ls[j]'(by omega))) := by
  rw [trimmedTo, List.getElem?_append_left (by simp; omega), List.getElem?_map, List.getElem?_take, if_pos hj, List.getElem?_eq_getElem (by omega)]
  rfl
theorem sc_set (l : List (List UInt8)) (k : Nat) (x : List UInt8) : (sc l).set k (.string (bs x)) = sc (l.set k x) := by rw [sc, sc, List.map_set]
theorem sc_get (l : List (List UInt8)) (k : Nat) : (sc l)[k]? = (l[k]?).map fun s => Value.string (bs s) := by rw [sc, List.getElem?_map]
theorem dropE_last {init : List (List UInt8)} {x : List UInt8} : Lx.dropE (init ++ [x]) = if x = [] then init else init ++ [x] := by
  rw [Lx.dropE, List.getLast?_append]
  by_cases h : x = []
  · simp [h]
  · simp [h]
theorem cr_le (x : List UInt8) : (Lx.cr x).length ≤ x.length := Lx.trimR_le x [13]
set_option maxRecDepth 100000 in
set_option maxHeartbeats 8000000 in
theorem cut_lex (s : List UInt8) (hs : s.length ≤ 2000000) (w : World) (hmx : Maxl w) {L : List (List UInt8)} (H : Hid (Lx.fileL s = L)) :
    Calls Tryz.prog 38 #[.string (bs s)] w fun e w' => ∃ g c, e = .returned (.slice (some ⟨g, 0, none⟩) L.length c) ∧ (∀ j (h : j < L.length), w'.cell? ⟨g, j, none⟩ = some (.string (bs L[j]))) ∧ w.heap.size ≤ g ∧ g < w'.heap.size ∧ Below w.heap.size w w' := by
  obtain ⟨ls, hls⟩ : ∃ ls, Hid (Gl.cutL 10 s = ls) := ⟨_, Lib.hid rfl⟩
  have hne : ls ≠ [] := by rw [← hls.out]; exact Lx.cutL_nn 10 s
  obtain ⟨init, x, hix⟩ : ∃ init x, ls = init ++ [x] := by
    rcases List.eq_nil_or_concat ls with h | ⟨a, b, h⟩
    · exact absurd h hne
    · exact ⟨a, b, by rw [h, List.concat_eq_append]⟩
  have hp : ls.length = init.length + 1 := by rw [hix]; simp
  have hpl : init.length ≤ 2000001 := by have := Gl.cutL_length 10 s; rw [hls.out] at this; omega
  have hcall := split_any s w hs hmx hls
  rw [hp] at hcall
  have HCL := Lib.hid hcall
  have HP := Lib.hid hp
  have HLEN : Hid (∀ y ∈ ls, y.length ≤ 2000000) := Lib.hid fun y hy => by have := Gl.cutL_piece 10 s y (by rw [hls.out]; exact hy); omega
  obtain ⟨p, hpp⟩ : ∃ p, init.length = p := ⟨_, rfl⟩
  rw [hpp] at HCL HP hpl
  have HLAST : Hid (ls[p]? = some x) := by
    show _ = _
    rw [hix, ← hpp]
    simp
  have HIX := Lib.hid hix
  obtain ⟨n, hn⟩ : ∃ n, n = (if x = [] then p else p + 1) := ⟨_, rfl⟩
  have HLL : Hid (L = (ls.take n).map Lx.cr) := by
    show _ = _
    rw [← H.out, Lx.fileL, hls.out, hix, dropE_last, hn, ← hpp]
    by_cases h : x = []
    · rw [if_pos h, if_pos h, List.take_left]
    · rw [if_neg h, if_neg h, List.take_of_length_le (by simp)]
  have HN := Lib.hid hn
  have hnle : n ≤ p + 1 := by rw [hn]; split <;> omega
  have HLLEN : Hid (L.length = n) := by
    show _ = _
    rw [HLL.out, List.length_map, List.length_take, HP.out]; omega
  clear hne hix hp hcall hpp hmx H hn
  go_enter Tryz.func38, Tryz.ntmps38
  go_wp2_with fail
  refine (HCL.out).mono ?_
  rintro e w1 ⟨rfl, hL, b1⟩
  obtain ⟨g, hg⟩ : ∃ g, w.heap.size = g := ⟨_, rfl⟩
  rw [hg] at hL b1
  rw [hg]
  have d0 : w1.cell? ⟨g, p, none⟩ = some (.string (bs x)) := by rw [hL.cell, List.getElem?_toArray, sc_get, HLAST.out]; rfl
  have HB1 := Lib.hid b1
  have HL1 : Hid (Blk w1 g 9 (sc (trimmedTo ls 0)).toArray) := by show Blk _ _ _ _; rw [trimmedTo, List.take_zero, List.drop_zero]; exact hL
  have hgl := hL.lt
  have HG := Lib.hid hg
  clear b1 hL hg
  obtain ⟨S, hS⟩ : ∃ S, Hid (bs x = S) := ⟨_, Lib.hid rfl⟩
  have HSE : Hid (S.toList.isEmpty = decide (x = [])) := by
    show _ = _
    rw [← hS.out, toList_bs, Bool.eq_iff_iff]; simp
  rw [hS.out] at d0
  obtain ⟨b, hb⟩ : ∃ b, S.toList.isEmpty = b := ⟨_, rfl⟩
  have HBX : Hid (b = decide (x = [])) := by show _ = _; rw [← hb]; exact HSE.out
  go_upto_if 14 with fail
  clear hb
  go_cut [3] (fun s3 wx => s3 = .slice (some ⟨g, 0, none⟩) n (p + 1) ∧ wx = w1)
  case first =>
    cases b with
    | true =>
      have HN2 : Hid (n = p) := by
        show _ = _
        have h := HBX.out.symm
        rw [HN.out, if_pos (by simpa using h)]
      go_wp2_with fail
      go_meet
      exact ⟨by rw [HN2.out], rfl⟩
    | false =>
      have HN2 : Hid (n = p + 1) := by
        show _ = _
        have h := HBX.out.symm
        rw [HN.out, if_neg (by simpa using h)]
      go_wp2_with fail
      go_meet
      exact ⟨by rw [HN2.out], rfl⟩
  case rest =>
    obtain ⟨rfl, hwx⟩ := hcut
    rw [hwx]
    clear hwx d0 HSE hS
    go_wp2_with fail
    go_loopw [4, 5, 22] (fun _ _ t22 wr => ∃ k : Nat, k ≤ n ∧ t22 = .int .i64 (k : Int) ∧ Hid (Blk wr g 9 (sc (trimmedTo ls k)).toArray) ∧ Hid (Below g w wr)) (fun _ _ t22 _ => n - (intOf t22).toNat)
    case atStart => exact ⟨0, by omega, rfl, HL1, HB1⟩
    case round =>
      clear HL1 HB1
      obtain ⟨k, hk, rfl, HL, HB⟩ := hrel
      have hgl2 := HL.out.lt
      have hsz := HB.out.size
      have j0 : (0 : Int) ≤ (k : Int) := by omega
      rcases Nat.lt_or_ge k n with hkn | hkn
      · have i0 : decide ((k : Int) < (n : Int)) = true := by rw [decide_eq_true_eq]; omega
        have i1 : (k : Int) < (n : Int) := by omega
        have hkl : k < ls.length := by rw [HP.out]; omega
        have hy := HLEN.out _ (List.getElem_mem hkl)
        have d1 : wr.cell? ⟨g, k, none⟩ = some (.string (bs ls[k])) := by rw [HL.out.cell, List.getElem?_toArray, sc_get, trimmedTo_get hkl]; rfl
        have hset := trimmedTo_set hkl
        obtain ⟨y, hye⟩ : ∃ y, ls[k] = y := ⟨_, rfl⟩
        rw [hye] at d1 hy hset
        obtain ⟨z, hz⟩ : ∃ z, Hid (Lib.trimRightS y [13] = z) := ⟨_, Lib.hid rfl⟩
        have HSET : Hid ((trimmedTo ls k).set k z = trimmedTo ls (k + 1)) := by show _ = _; rw [← hset, ← hz.out]; rfl
        clear hset hye
        go_wp2_with fail
        refine (trimCr_any y _ (by omega) hz).mono ?_
        rintro e w2 ⟨rfl, b2⟩
        have hL2 := HL.out.below b2 hgl2
        have hB2 := below_of_below HB.out b2 (by omega)
        have d2 : ∃ u, w2.cell? ⟨g, k, none⟩ = some u := ⟨_, (b2.cell (p := ⟨g, k, none⟩) hgl2).trans d1⟩
        obtain ⟨u, d2⟩ := d2
        have f2 := hL2.frozen k
        have hL3 : Blk (w2.setCell ⟨g, k, none⟩ (.string (bs z))) g 9 (sc (trimmedTo ls (k + 1))).toArray := by
          have h := hL2.set_ k (.string (bs z))
          rw [List.setIfInBounds_toArray, sc_set, HSET.out] at h
          exact h
        have hB3 := hB2.setCell (p := ⟨g, k, none⟩) (Nat.le_refl _) (.string (bs z))
        have HL3 := Lib.hid hL3
        have HB3 := Lib.hid hB3
        clear hL2 hB2 hL3 hB3 b2 d1
        go_wp2_with fail
        go_roundw
        case rel => exact ⟨k + 1, by omega, by go_num, HL3, HB3⟩
        case measure => simp [intOf]; omega
      · have i0 : decide ((k : Int) < (n : Int)) = false := by rw [decide_eq_false_iff_not]; omega
        obtain rfl : k = n := by omega
        go_wp2_with fail
        go_ret
        refine ⟨g, p + 1, by rw [HLLEN.out]; rfl, fun j hj => ?_, by rw [HG.out]; exact Nat.le_refl _, hgl2, by rw [HG.out]; exact HB.out⟩
        have hj2 : j < k := by rw [← HLLEN.out]; exact hj
        rw [HL.out.cell, List.getElem?_toArray, sc_get, trimmedTo_low (by rw [HP.out]; omega) hj2]
        have hLj : L[j]? = some (Lx.cr (ls[j]'(by rw [HP.out]; omega))) := by
          rw [HLL.out, List.getElem?_map, List.getElem?_take, if_pos hj2, List.getElem?_eq_getElem (by rw [HP.out]; omega)]
          rfl
        rw [List.getElem?_eq_getElem hj] at hLj
        injection hLj with hLj
        rw [hLj]
        rfl
end Go.Proofs.YtpgnfianffjpnaaGreatDoor
