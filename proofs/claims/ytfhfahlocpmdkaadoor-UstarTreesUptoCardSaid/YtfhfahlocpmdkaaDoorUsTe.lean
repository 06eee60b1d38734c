/- strataref01.Check, walked. -/
import Derived.Test.YtfhfahlocpmdkaaDoorUsTd
namespace Go.Proofs.YtfhfahlocpmdkaaDoor
open Go.RowKit

theorem name_bad (s : ByteArray) (w : World) (hs : s.size ≤ 1000000000) (h : Hid (Us.nameBad (bl s) = true)) : Calls Tryd.prog 53 #[.string s] w fun e w' => e = .returned (.int .i64 8) ∧ w = w' := name_hid s w hs h
theorem name_ok (s : ByteArray) (w : World) (hs : s.size ≤ 1000000000) (h : Hid (Us.nameBad (bl s) = false)) : Calls Tryd.prog 53 #[.string s] w fun e w' => e = .returned (.int .i64 0) ∧ w = w' := name_hid s w hs h
theorem ret_i64 {a b : Int} (h : a = b) : Ending.returned (.int .i64 a) = .returned (.int .i64 b) := by rw [h]
set_option maxRecDepth 100000 in
set_option maxHeartbeats 4000000 in
theorem check_any (s : ByteArray) (w : World) (hs : s.size ≤ 100000000) : Calls Tryd.prog 30 #[.string s] w fun e w' => e = .returned (.int .i64 (Us.checkN (bl s) : Nat)) ∧ Below w.heap.size w w' := by
  obtain ⟨R, hR⟩ : ∃ R, R = Us.checkN (bl s) := ⟨_, rfl⟩
  rw [← hR]
  have ie : s.toList.isEmpty = decide (bl s = []) := by rw [toList_bl]; cases bl s <;> rfl
  by_cases hne : bl s = []
  · have HN : Hid (R = 15) := by show _ = _; rw [hR, Us.checkN, if_pos hne]
    rw [decide_eq_true hne] at ie
    clear hR hne
    go_enter Tryd.func30, Tryd.ntmps30
    go_wp2_with fail
    go_ret
    exact ⟨ret_i64 (by rw [HN.out]; rfl), Below.refl _ _⟩
  · rw [decide_eq_false hne] at ie
    rw [Us.checkN, if_neg hne] at hR
    have HCUT := cut_any s w hs
    obtain ⟨p1, p2⟩ := pieces_len (bl s)
    have p3 := Us.pieces_ne (bl s)
    obtain ⟨L, hL⟩ : ∃ L, L = Us.pieces (bl s) := ⟨_, rfl⟩
    rw [← hL] at hR HCUT p1 p2 p3
    obtain ⟨n, hn⟩ : ∃ n, L.length = n := ⟨_, rfl⟩
    rw [bl_length] at p1 p2
    rw [hn] at hR HCUT p1
    have hn0 : 0 < n := by rw [← hn]; exact List.length_pos_iff.2 p3
    have HR := Lib.hid hR
    have HC := Lib.hid HCUT
    have HLEN := Lib.hid hn
    have HP2 := Lib.hid p2
    clear hR HCUT hn p2 p3 hL hne
    go_enter Tryd.func30, Tryd.ntmps30
    go_wp2_with fail
    refine HC.out.mono ?_
    rintro e w1 ⟨⟨v, rfl, hown⟩, b1⟩
    obtain ⟨g, c, rfl, hc, hgb⟩ := own_some hown hn0
    have HCELL : Hid (∀ k (h : k < L.length), w1.cell? ⟨g, k, none⟩ = some (.string (bs L[k]))) := fun k h => own_cell hown k _ (by simp [sc, h])
    have z1 := b1.size
    clear hown
    go_wp2_with fail
    go_loop [4] (fun i => ∃ k : Nat, k ≤ n ∧ i = .int .i64 (k : Int) ∧ Hid (L.any Us.nameBad = (L.drop k).any Us.nameBad)) (fun i => n - (intOf i).toNat)
    case atStart => exact ⟨0, by omega, rfl, rfl⟩
    case round =>
      obtain ⟨k, hk, rfl, hrec⟩ := hrel
      have i1 : (0 : Int) ≤ (k : Int) := by omega
      by_cases hkn : k < n
      · have hkL : k < L.length := by rw [HLEN.out]; exact hkn
        have i2 : (k : Int) < (n : Int) := by omega
        have hck := HCELL.out k hkL
        have hsz : (bs L[k]).size ≤ 1000000000 := by
          have := HP2.out L[k] (List.getElem_mem hkL)
          rw [bs_size]; omega
        have hst : (L.drop k).any Us.nameBad = (Us.nameBad L[k] || (L.drop (k + 1)).any Us.nameBad) := by rw [List.drop_eq_getElem_cons hkL, List.any_cons]
        cases hb : Us.nameBad L[k] with
        | true =>
          have HN : Hid (R = 8) := by show _ = _; rw [HR.out, hrec.out, hst, hb]; rfl
          have HB : Hid (Us.nameBad (bl (bs L[k])) = true) := hb
          have HSZ := Lib.hid hsz
          clear hst hrec hb hsz
          go_wp2_with (go_at_call 53; refine (name_bad _ _ HSZ.out HB).mono ?_; rintro e w2 ⟨rfl, rfl⟩)
          go_ret
          exact ⟨ret_i64 (by rw [HN.out]; rfl), b1⟩
        | false =>
          have HN : Hid (L.any Us.nameBad = (L.drop (k + 1)).any Us.nameBad) := by show _ = _; rw [hrec.out, hst, hb]; rfl
          have HB : Hid (Us.nameBad (bl (bs L[k])) = false) := hb
          have HSZ := Lib.hid hsz
          clear hst hrec hb hsz
          go_wp2_with (go_at_call 53; refine (name_ok _ _ HSZ.out HB).mono ?_; rintro e w2 ⟨rfl, rfl⟩)
          go_round
          case rel => exact ⟨k + 1, by omega, by go_num, HN⟩
          case measure => simp [intOf]; omega
      · obtain rfl : k = n := by omega
        have hany : L.any Us.nameBad = false := by rw [hrec.out, List.drop_of_length_le (by rw [HLEN.out]; exact Nat.le_refl _)]; rfl
        have HR2 : Hid (R = if 32 < k ∨ 255 < s.size then 9 else match Us.split (Us.white (bl s)) with
          | none => 9
          | some _ => 0) := by show _ = _; rw [HR.out, hany, bl_length]; rfl
        have i2 : decide ((k : Int) < (k : Int)) = false := by simp
        clear hrec hany
        by_cases h32 : 32 < k
        · have HN : Hid (R = 9) := by show _ = _; rw [HR2.out, if_pos (.inl h32)]
          have d1 : decide ((32 : Int) < (k : Int)) = true := by simp; omega
          go_wp2_with fail
          go_ret
          exact ⟨ret_i64 (by rw [HN.out]; rfl), b1⟩
        · have d1 : decide ((32 : Int) < (k : Int)) = false := by simp; omega
          by_cases h255 : 255 < s.size
          · have HN : Hid (R = 9) := by show _ = _; rw [HR2.out, if_pos (.inr h255)]
            have d2 : decide ((255 : Int) < (s.size : Int)) = true := by simp; omega
            go_wp2_with fail
            go_ret
            exact ⟨ret_i64 (by rw [HN.out]; rfl), b1⟩
          · have d2 : decide ((255 : Int) < (s.size : Int)) = false := by simp; omega
            have HR3 : Hid (R = match Us.split (Us.white (bl s)) with
              | none => 9
              | some _ => 0) := by show _ = _; rw [HR2.out, if_neg (by omega)]
            have HWS := Lib.hid (white_size s (by omega))
            cases hsp : Us.split (Us.white (bl s)) with
            | none =>
              have HN : Hid (R = 9) := by show _ = _; rw [HR3.out, hsp]
              have HS : Hid (Us.split (bl (bs (Us.white (bl s)))) = none) := hsp
              clear hsp
              go_wp2_with (first | (go_at_call 54; refine (white_any _ _ (by omega)).mono ?_; rintro e w2 ⟨rfl, rfl⟩) | (go_at_call 35; refine (refSplit_h _ _ HWS.out HS).mono ?_; unfold splitR; rintro e w3 ⟨rfl, b3⟩))
              go_ret
              exact ⟨ret_i64 (by rw [HN.out]; rfl), below_of_below b1 b3 b1.size⟩
            | some q =>
              have HN : Hid (R = 0) := by show _ = _; rw [HR3.out, hsp]
              have HS : Hid (Us.split (bl (bs (Us.white (bl s)))) = some (q.1, q.2)) := hsp
              clear hsp
              go_wp2_with (first | (go_at_call 54; refine (white_any _ _ (by omega)).mono ?_; rintro e w2 ⟨rfl, rfl⟩) | (go_at_call 35; refine (refSplit_h _ _ HWS.out HS).mono ?_; unfold splitR; rintro e w3 ⟨rfl, b3⟩))
              go_ret
              exact ⟨ret_i64 (by rw [HN.out]; rfl), below_of_below b1 b3 b1.size⟩
end Go.Proofs.YtfhfahlocpmdkaaDoor
