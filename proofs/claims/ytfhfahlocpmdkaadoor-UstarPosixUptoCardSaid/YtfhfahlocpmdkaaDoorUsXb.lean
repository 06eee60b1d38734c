/- stratalaw05.octal and texted, walked at what is written: true. -/
import Derived.Test.YtfhfahlocpmdkaaDoorUsX
import Derived.Test.YtfhfahlocpmdkaaDoorUsXa
import Derived.Test.YtfhfahlocpmdkaaDoorUsZ
namespace Go.Proofs.YtfhfahlocpmdkaaDoor
open Go.RowKit

/-- octal, of digits that are right. -/
theorem octal_true (s : ByteArray) (d X : Nat) (w : World) (hs : bl s = Us.oct d X ++ [0]) (hX : X < 8 ^ d) (hd : d ≤ 11) :
    Calls Tryd.prog 23 #[.string s, .int .i64 (X : Int)] w fun e w' => e = .returned (.bool true) ∧ w = w' := by
  have hz : s.size = d + 1 := by rw [← bl_length, hs, List.length_append, Us.oct_length]; rfl
  have hX2 : X < 8 ^ 11 := Nat.lt_of_lt_of_le hX (Nat.pow_le_pow_right (by omega) hd)
  have hX3 : X < 8589934592 := hX2
  have hlast : ∀ (h : d < s.size), (s[d]).toNat = 0 := by
    intro h
    have e : s[d] = (bl s)[d]'(by rw [bl_length]; exact h) := rfl
    rw [e]
    simp only [hs]
    rw [List.getElem_append_right (by rw [Us.oct_length]; omega)]
    simp
  have hdig : ∀ k (h : k < s.size), k < d → (s[k]).toNat = 48 + (X / 8 ^ (d - 1 - k)) % 8 := by
    intro k h hk
    have e : s[k] = (bl s)[k]'(by rw [bl_length]; exact h) := rfl
    rw [e]
    simp only [hs]
    rw [List.getElem_append_left (by rw [Us.oct_length]; exact hk), Us.oct_get]
  have h0 : X / 8 ^ d = 0 := Nat.div_eq_of_lt hX
  have HD := Lib.hid hdig
  have HL := Lib.hid hlast
  have H0 := Lib.hid h0
  have hz1 : s.size ≤ d + 1 := by omega
  have hz2 : d + 1 ≤ s.size := by omega
  clear hdig hlast h0 hz hs hX hX2
  go_enter Tryd.func23, Tryd.ntmps23
  go_wp2_with fail
  go_loop [5, 6] (fun v i => ∃ k acc : Nat, k ≤ d ∧ i = .int .i64 (k : Int) ∧ v = .int .i64 (acc : Int) ∧ acc ≤ X ∧ Hid (acc = X / 8 ^ (d - k))) (fun _ i => d - (intOf i).toNat)
  case atStart => exact ⟨0, 0, by omega, rfl, rfl, by omega, by show _ = _; rw [Nat.sub_zero]; exact H0.out.symm⟩
  case round =>
    obtain ⟨k, acc, hk, rfl, rfl, hacc, hrec⟩ := hrel
    by_cases hkd : k < d
    · have hks : k < s.size := by omega
      have hdk := HD.out k hks hkd
      have i1 : (0 : Int) ≤ (k : Int) := by omega
      have i2 : (k : Int) < (s.size : Int) := by omega
      have i3 : decide ((k : Int) + 1 < (s.size : Int)) = true := by simp; omega
      have d1 : decide (((s[k]).toNat : Int) < 48) = false := by simp; omega
      have d2 : decide ((55 : Int) < ((s[k]).toNat : Int)) = false := by simp; omega
      have hb : (s[k]).toNat < 256 := (s[k]).toNat_lt
      have hb48 : (48 : Int) ≤ ((s[k]).toNat : Int) := by omega
      have HN : Hid (acc * 8 + ((s[k]).toNat - 48) = X / 8 ^ (d - (k + 1))) := by
        show _ = _
        rw [hrec.out, hdk, ← Us.oct_step d X k hkd]; omega
      have hle : acc * 8 + ((s[k]).toNat - 48) ≤ X := by rw [HN.out]; exact Nat.div_le_self _ _
      clear hrec hdk
      go_wp2_with fail
      go_round
      case rel => exact ⟨k + 1, acc * 8 + ((s[k]).toNat - 48), by omega, by go_num, by go_num, hle, HN⟩
      case measure => simp [intOf]; omega
    · obtain rfl : k = d := by omega
      have hacc2 : acc = X := by rw [hrec.out, Nat.sub_self, Nat.pow_zero, Nat.div_one]
      subst hacc2
      have hks : k < s.size := by omega
      have hl := HL.out hks
      have i3 : decide ((k : Int) + 1 < (s.size : Int)) = false := by simp; omega
      have e1 : (((s.size : Int) - 1).toNat) = k := by omega
      have i4 : (0 : Int) ≤ (s.size : Int) - 1 := by omega
      have i5 : (s.size : Int) - 1 < (s.size : Int) := by omega
      clear hrec
      go_wp2_with fail
      go_ret
      exact ⟨rfl, rfl⟩
/-- texted, of a field that is filled up. -/
theorem texted_true (s x : ByteArray) (n : Nat) (w : World) (hs : bl s = Us.fill n (bl x)) (hx : x.size ≤ n) (hn : n ≤ 1000) :
    Calls Tryd.prog 24 #[.string s, .string x] w fun e w' => e = .returned (.bool true) ∧ w = w' := by
  have hz : s.size = n := by rw [← bl_length, hs, Us.fill_length]
  have hxl : (bl x).length ≤ n := by rw [bl_length]; exact hx
  have hpre : s.extract 0 x.size = x := by
    rw [← bs_bl (s.extract 0 x.size), bl_extract, List.drop_zero, Nat.sub_zero, hs, ← bl_length x, Us.fill_take_x hxl, bs_bl]
  have hsl := slice_h s x.size (x.size : Int) rfl (by omega)
  rw [hpre] at hsl
  have hzero : ∀ k (h : k < s.size), x.size ≤ k → (s[k]).toNat = 0 := by
    intro k h hk
    have e : s[k] = (bl s)[k]'(by rw [bl_length]; exact h) := rfl
    rw [e]
    simp only [hs]
    rw [Us.fill_get hxl (by rw [bl_length]; exact hk)]
    rfl
  have HZ := Lib.hid hzero
  have hz1 : s.size ≤ n := by omega
  have hz2 : n ≤ s.size := by omega
  have d1 : decide ((s.size : Int) < (x.size : Int)) = false := by simp; omega
  clear hzero hpre hs hz hxl
  go_enter Tryd.func24, Tryd.ntmps24
  go_wp2_with fail
  go_loop [5] (fun i => ∃ k : Nat, x.size ≤ k ∧ k ≤ s.size ∧ i = .int .i64 (k : Int)) (fun i => s.size - (intOf i).toNat)
  case atStart => exact ⟨x.size, by omega, by omega, rfl⟩
  case round =>
    obtain ⟨k, hk, hk2, rfl⟩ := hrel
    by_cases hks : k < s.size
    · have hv := HZ.out k hks hk
      have i1 : (0 : Int) ≤ (k : Int) := by omega
      have i2 : (k : Int) < (s.size : Int) := by omega
      have t1 : (((s[k]).toNat : Int) != 0) = false := by simp [hv]
      clear hv
      go_wp2_with fail
      go_round
      case rel => exact ⟨k + 1, by omega, by omega, by go_num⟩
      case measure => simp [intOf]; omega
    · have i2 : decide ((k : Int) < (s.size : Int)) = false := by simp; omega
      go_wp2_with fail
      go_ret
      exact ⟨rfl, rfl⟩
set_option maxRecDepth 100000 in
theorem pathed_short (a b p : ByteArray) (w : World) (hp : p.size ≤ 100) (ha : bl a = Us.fill 100 (bl p)) (hb : bl b = Us.fill 155 []) :
    Calls Tryd.prog 22 #[.string a, .string b, .string p] w fun e w' => e = .returned (.bool true) ∧ w = w' := by
  have H1 : Hid (∀ w, Calls Tryd.prog 24 #[.string a, .string p] w fun e w' => e = .returned (.bool true) ∧ w = w') := fun w => texted_true a p 100 w ha hp (by omega)
  have H2 : Hid (∀ w, Calls Tryd.prog 24 #[.string b, .string ⟨#[]⟩] w fun e w' => e = .returned (.bool true) ∧ w = w') := fun w => texted_true b ⟨#[]⟩ 155 w hb (by decide) (by omega)
  have d1 : decide ((p.size : Int) ≤ 100) = true := by simp; omega
  clear ha hb
  go_enter Tryd.func22, Tryd.ntmps22
  go_wp2_with fail
  refine (H1.out _).mono ?_
  rintro e w1 ⟨rfl, rfl⟩
  go_wp2_with fail
  refine (H2.out _).mono ?_
  rintro e w1 ⟨rfl, rfl⟩
  go_wp2_with fail
  go_ret
  exact ⟨rfl, rfl⟩
theorem no0 {l : List UInt8} (h : Us.has0 l = false) {k : Nat} (hk : k < l.length) : (l[k]).toNat ≠ 0 := by
  intro h0
  have : Us.has0 l = true := List.any_eq_true.2 ⟨l[k], List.getElem_mem hk, by simp [h0]⟩
  rw [h] at this
  cases this
set_option maxRecDepth 100000 in
set_option maxHeartbeats 2000000 in
theorem pathed_long (a b p : ByteArray) (pre name : List UInt8) (w : World) (hp : 100 < p.size) (hps : p.size ≤ 1000000000) (hsp : Us.split (bl p) = some (pre, name)) (h0 : Us.has0 (bl p) = false) (ha : bl a = Us.fill 100 name) (hb : bl b = Us.fill 155 pre) :
    Calls Tryd.prog 22 #[.string a, .string b, .string p] w fun e w' => e = .returned (.bool true) ∧ w = w' := by
  obtain ⟨l1, l2, l3, l4⟩ := Us.split_long hsp (by rw [bl_length]; exact hp)
  obtain ⟨m1, m2, _⟩ := Us.split_spec hsp
  rw [bl_length] at l2 l4
  obtain ⟨q, hq⟩ : ∃ q, q = pre.length := ⟨_, rfl⟩
  rw [← hq] at l1 l2 l4 m2
  have hbz : b.size = 155 := by rw [← bl_length, hb, Us.fill_length]
  have hpq : ∀ (h : q < p.size), (p[q]).toNat = 47 := by
    intro h
    have e : p[q] = (bl p)[q]'(by rw [bl_length]; exact h) := rfl
    rw [e]
    simp only [l3]
    rw [List.getElem_append_right (by omega)]
    simp [hq]
  have hpre0 : Us.has0 pre = false := by
    rw [l3, Us.has0_append] at h0
    simp only [Bool.or_eq_false_iff] at h0
    exact h0.1
  have hbk : ∀ k (h : k < b.size), k < q → (b[k]).toNat ≠ 0 := by
    intro k h hk
    have e : b[k] = (bl b)[k]'(by rw [bl_length]; exact h) := rfl
    rw [e]
    simp only [hb]
    rw [Us.fill_front (by omega) (by omega)]
    exact no0 hpre0 _
  have hbq : ∀ (h : q < b.size), (b[q]).toNat = 0 := by
    intro h
    have e : b[q] = (bl b)[q]'(by rw [bl_length]; exact h) := rfl
    rw [e]
    simp only [hb]
    rw [Us.fill_get (by omega) (by omega)]
    rfl
  have hmin : ∀ k (h : k < p.size), k < q → p.size - k - 1 ≤ 100 → (p[k]).toNat ≠ 47 := by
    intro k h hk h100
    exact l4 k p[k] hk h100 (by rw [List.getElem?_eq_getElem (by rw [bl_length]; exact h)]; rfl)
  have e1 : bl (p.extract 0 q) = pre := by
    rw [bl_extract, l3, List.drop_zero, Nat.sub_zero, hq, List.take_left]
  have e2 : bl (p.extract (q + 1) p.size) = name := by
    rw [bl_from, l3, hq, List.drop_append]
    simp
  have H1 : Hid (∀ w, Calls Tryd.prog 24 #[.string b, .string (p.extract 0 q)] w fun e w' => e = .returned (.bool true) ∧ w = w') := fun w => texted_true b _ 155 w (by rw [e1]; exact hb) (by rw [← bl_length, e1, ← hq]; exact m2) (by omega)
  have H2 : Hid (∀ w, Calls Tryd.prog 24 #[.string a, .string (p.extract (q + 1) p.size)] w fun e w' => e = .returned (.bool true) ∧ w = w') := fun w => texted_true a _ 100 w (by rw [e2]; exact ha) (by rw [← bl_length, e2]; exact m1) (by omega)
  have HPQ := Lib.hid hpq
  have HBK := Lib.hid hbk
  have HBQ := Lib.hid hbq
  have HMIN := Lib.hid hmin
  have d1 : decide ((p.size : Int) ≤ 100) = false := by simp; omega
  have z1 : b.size ≤ 155 := by omega
  have z2 : 155 ≤ b.size := by omega
  clear hpq hbk hbq hmin hpre0 e1 e2 hbz l3 l4 ha hb h0 hsp hq
  go_enter Tryd.func22, Tryd.ntmps22
  go_wp2_with fail
  go_loop [7] (fun i => ∃ k : Nat, k ≤ q ∧ i = .int .i64 (k : Int)) (fun i => q - (intOf i).toNat)
  case atStart => exact ⟨0, by omega, rfl⟩
  case round =>
    obtain ⟨k, hk, rfl⟩ := hrel
    have i1 : (0 : Int) ≤ (k : Int) := by omega
    by_cases hkq : k < q
    · have hkb : k < b.size := by omega
      have i2 : (k : Int) < (b.size : Int) := by omega
      have hv := HBK.out k hkb hkq
      have t1 : (((b[k]).toNat : Int) != 0) = true := by simp; omega
      clear hv
      go_wp2_with fail
      go_round
      case rel => exact ⟨k + 1, by omega, by go_num⟩
      case measure => simp [intOf]; omega
    · obtain rfl : k = q := by omega
      have hkp : k < p.size := by omega
      have k47 := HPQ.out hkp
      have hsA := slice_h p k (k : Int) rfl (by omega)
      have hsB := slice_l p (k + 1) ((k : Int) + 1) (by omega) (by omega)
      have tq : ((k : Int) == 0) = false := by simp; omega
      have tl : decide ((p.size : Int) ≤ (k : Int) + 1) = false := by simp; omega
      have kp : (k : Int) < (p.size : Int) := by omega
      have t47 : (((p[k]).toNat : Int) != 47) = false := by simp [k47]
      clear k47
      by_cases hkb : k < b.size
      · have i2 : (k : Int) < (b.size : Int) := by omega
        have hv := HBQ.out hkb
        have t1 : (((b[k]).toNat : Int) != 0) = false := by simp [hv]
        clear hv
        go_wp2_with (go_at_call 24; (first | (with_reducible refine (H1.out _).mono ?_) | (with_reducible refine (H2.out _).mono ?_)); rintro e w1 ⟨rfl, rfl⟩)
        go_loop [8] (fun i => ∃ j : Nat, 1 ≤ j ∧ j ≤ k ∧ i = .int .i64 (j : Int)) (fun i => k - (intOf i).toNat)
        case atStart => exact ⟨1, by omega, by omega, rfl⟩
        case round =>
          obtain ⟨j, hj1, hj, rfl⟩ := hrel
          have j0 : (0 : Int) ≤ (j : Int) := by omega
          by_cases hjk : j < k
          · have hjp : j < p.size := by omega
            have j1 : (j : Int) < (p.size : Int) := by omega
            by_cases h47 : (p[j]).toNat = 47
            · have hgt : 100 < p.size - j - 1 := by
                rcases Nat.lt_or_ge 100 (p.size - j - 1) with q | q
                · exact q
                · exact absurd h47 (HMIN.out j hjp hjk q)
              have t5 : (((p[j]).toNat : Int) == 47) = true := by simp [h47]
              have t6 : decide ((p.size : Int) - (j : Int) - 1 ≤ 100) = false := by simp; omega
              clear h47
              go_wp2_with fail
              go_round
              case rel => exact ⟨j + 1, by omega, by omega, by go_num⟩
              case measure => simp [intOf]; omega
            · have t5 : (((p[j]).toNat : Int) == 47) = false := by simp; omega
              clear h47
              go_wp2_with fail
              go_round
              case rel => exact ⟨j + 1, by omega, by omega, by go_num⟩
              case measure => simp [intOf]; omega
          · have j1 : decide ((j : Int) < (k : Int)) = false := by simp; omega
            go_wp2_with fail
            go_ret
            exact ⟨rfl, rfl⟩
      · have i2 : decide ((k : Int) < (b.size : Int)) = false := by simp; omega
        go_wp2_with (go_at_call 24; (first | (with_reducible refine (H1.out _).mono ?_) | (with_reducible refine (H2.out _).mono ?_)); rintro e w1 ⟨rfl, rfl⟩)
        go_loop [8] (fun i => ∃ j : Nat, 1 ≤ j ∧ j ≤ k ∧ i = .int .i64 (j : Int)) (fun i => k - (intOf i).toNat)
        case atStart => exact ⟨1, by omega, by omega, rfl⟩
        case round =>
          obtain ⟨j, hj1, hj, rfl⟩ := hrel
          have j0 : (0 : Int) ≤ (j : Int) := by omega
          by_cases hjk : j < k
          · have hjp : j < p.size := by omega
            have j1 : (j : Int) < (p.size : Int) := by omega
            by_cases h47 : (p[j]).toNat = 47
            · have hgt : 100 < p.size - j - 1 := by
                rcases Nat.lt_or_ge 100 (p.size - j - 1) with q | q
                · exact q
                · exact absurd h47 (HMIN.out j hjp hjk q)
              have t5 : (((p[j]).toNat : Int) == 47) = true := by simp [h47]
              have t6 : decide ((p.size : Int) - (j : Int) - 1 ≤ 100) = false := by simp; omega
              clear h47
              go_wp2_with fail
              go_round
              case rel => exact ⟨j + 1, by omega, by omega, by go_num⟩
              case measure => simp [intOf]; omega
            · have t5 : (((p[j]).toNat : Int) == 47) = false := by simp; omega
              clear h47
              go_wp2_with fail
              go_round
              case rel => exact ⟨j + 1, by omega, by omega, by go_num⟩
              case measure => simp [intOf]; omega
          · have j1 : decide ((j : Int) < (k : Int)) = false := by simp; omega
            go_wp2_with fail
            go_ret
            exact ⟨rfl, rfl⟩
end Go.Proofs.YtfhfahlocpmdkaaDoor
