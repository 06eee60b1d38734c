/- strataref05's leaves, walked: nought, in, Filled, Octal, Sum; strataref01.Split. -/
import Derived.Test.YtfhfahlocpmdkaaDoorUsC
namespace Go.Proofs.YtfhfahlocpmdkaaDoor
open Go.RowKit

theorem nought_any (s : ByteArray) (w : World) (hs : s.size ≤ 1000000000000) : Calls Tryd.prog 34 #[.string s] w fun e w' => e = .returned (.bool (Us.has0 (bl s))) ∧ w = w' := by
  obtain ⟨R, hR⟩ : ∃ R, R = Us.has0 (bl s) := ⟨_, rfl⟩
  rw [← hR]
  have HR := Lib.hid hR
  clear hR
  go_enter Tryd.func34, Tryd.ntmps34
  go_wp2_with fail
  go_loop [3] (fun i => ∃ k : Nat, k ≤ s.size ∧ i = .int .i64 (k : Int) ∧ Hid (R = Us.has0 ((bl s).drop k))) (fun i => s.size - (intOf i).toNat)
  case atStart => exact ⟨0, by omega, rfl, HR⟩
  case round =>
    obtain ⟨k, hk, rfl, hrec⟩ := hrel
    clear HR
    by_cases hks : k < s.size
    · have hb : (s[k]).toNat < 256 := (s[k]).toNat_lt
      have i1 : (0 : Int) ≤ (k : Int) := by omega
      have i2 : (k : Int) < (s.size : Int) := by omega
      have HV : Hid (R = ((s[k]).toNat == 0 || Us.has0 ((bl s).drop (k + 1)))) := by
        show _ = _
        rw [hrec.out, bl_drop_cons s k hks, Us.has0, List.any_cons]; rfl
      by_cases h0 : (s[k]).toNat = 0
      · have HN : Hid (R = true) := by show _ = _; rw [HV.out, h0]; rfl
        have t1 : (((s[k]).toNat : Int) == 0) = true := by simp [h0]
        clear hrec HV h0
        go_wp2_with fail
        go_ret
        exact ⟨by rw [HN.out]; rfl, rfl⟩
      · have HN : Hid (R = Us.has0 ((bl s).drop (k + 1))) := by show _ = _; rw [HV.out, beq_false_of_ne h0]; rfl
        have t1 : (((s[k]).toNat : Int) == 0) = false := by simp; omega
        clear hrec HV h0
        go_wp2_with fail
        go_round
        case rel => exact ⟨k + 1, by omega, by go_num, HN⟩
        case measure => simp [intOf]; omega
    · have HN : Hid (R = false) := by show _ = _; rw [hrec.out, List.drop_of_length_le (by rw [bl_length]; omega)]; rfl
      clear hrec
      go_wp2_with fail
      go_ret
      exact ⟨by rw [HN.out]; rfl, rfl⟩

theorem in_any (x most : Int) (w : World) : Calls Tryd.prog 36 #[.int .i64 x, .int .i64 most] w fun e w' => e = .returned (.bool (Us.in_ x most)) ∧ w = w' := by
  rcases (show x < 0 ∨ (0 ≤ x ∧ most < x) ∨ (0 ≤ x ∧ x ≤ most) by omega) with h | ⟨h, h2⟩ | ⟨h, h2⟩
  · have HN : Hid (Us.in_ x most = false) := by show _ = _; rw [Us.in_, decide_eq_false (by omega)]
    have d1 : decide (0 ≤ x) = false := by simpa using h
    go_enter Tryd.func36, Tryd.ntmps36
    go_wp2_with fail
    go_ret
    exact ⟨by rw [HN.out]; rfl, rfl⟩
  · have HN : Hid (Us.in_ x most = false) := by show _ = _; rw [Us.in_, decide_eq_false (by omega)]
    have d1 : decide (0 ≤ x) = true := by simpa using h
    have d2 : decide (x ≤ most) = false := by simpa using h2
    go_enter Tryd.func36, Tryd.ntmps36
    go_wp2_with fail
    go_ret
    exact ⟨by rw [HN.out]; rfl, rfl⟩
  · have HN : Hid (Us.in_ x most = true) := by show _ = _; rw [Us.in_, decide_eq_true (by omega)]
    have d1 : decide (0 ≤ x) = true := by simpa using h
    have d2 : decide (x ≤ most) = true := by simpa using h2
    go_enter Tryd.func36, Tryd.ntmps36
    go_wp2_with fail
    go_ret
    exact ⟨by rw [HN.out]; rfl, rfl⟩

theorem byteSliceR : ElemT Tryd.prog 42 5 (.int .u8 0) 1 := ⟨Tryd.underlying42, by kernel_rfl, rfl⟩
theorem fill_take {n k : Nat} {s : List UInt8} (hk : k < n) (hs : k < s.length) : (Us.fill n s).take (k + 1) = (Us.fill n s).take k ++ [s[k]] := by
  have hl : k < (Us.fill n s).length := by rw [Us.fill_length]; exact hk
  rw [List.take_succ_eq_append_getElem hl]
  congr 2
  have h1 : (Us.fill n s)[k]? = some s[k] := by rw [Us.fill, List.getElem?_append_left (by rw [List.length_take]; omega), List.getElem?_take_of_lt hk, List.getElem?_eq_getElem hs]
  have h2 := (List.getElem?_eq_getElem hl).symm.trans h1
  injection h2 with h2
theorem fill_take0 {n k : Nat} {s : List UInt8} (hk : k < n) (hs : s.length ≤ k) : (Us.fill n s).take (k + 1) = (Us.fill n s).take k ++ [0] := by
  have hl : k < (Us.fill n s).length := by rw [Us.fill_length]; exact hk
  rw [List.take_succ_eq_append_getElem hl]
  congr 2
  have : (s.take n).length ≤ k := by rw [List.length_take]; omega
  simp [Us.fill, List.getElem_append_right this, Us.zs]
set_option maxRecDepth 100000 in
theorem filled_any (s : ByteArray) (m : Nat) (w : World) (hm : m ≤ 1000) : Calls Tryd.prog 37 #[.string s, .int .i64 (m : Int)] w fun e w' => e = .returned (.string (bs (Us.fill m (bl s)))) ∧ Below w.heap.size w w' := by
  go_enter Tryd.func37, Tryd.ntmps37
  go_wp2_with fail
  go_loopw [5, 6] (fun v i wr => ∃ (k n : Nat) (acc : List UInt8), k ≤ m ∧ n = k ∧ i = .int .i64 (k : Int) ∧ wr.ownsRow w.heap.size 5 1 v n (bc acc) ∧ Below w.heap.size w wr ∧ Hid (acc = (Us.fill m (bl s)).take k)) (fun _ i _ => m - (intOf i).toNat)
  case atStart => exact ⟨0, 0, [], by omega, rfl, rfl, World.ownsRow_nil _ _ _ _, Below.refl _ _, rfl⟩
  case round =>
    obtain ⟨k, n, acc, hk, hnk, rfl, hown, hbel, hacc⟩ := hrel
    have hsz := hbel.size
    by_cases hkm : k < m
    · have i0 : decide ((k : Int) < (m : Int)) = true := by simp; omega
      by_cases hks : k < s.size
      · have i1 : (0 : Int) ≤ (k : Int) := by omega
        have i2 : (k : Int) < (s.size : Int) := by omega
        have i3 : decide ((k : Int) < (s.size : Int)) = true := by simp; omega
        have hb : (s[k]).toNat < 256 := (s[k]).toNat_lt
        have HA : Hid (acc ++ [s[k]] = (Us.fill m (bl s)).take (k + 1)) := by show _ = _; rw [hacc.out, fill_take hkm (by rw [bl_length]; exact hks)]; rfl
        go_wp2_with ((at_builtin; refine wpList_app rfl _ _ _ rfl byteSliceR _ _ _ _ rfl (hown.alloc _) _ _ _ _ rfl rfl (news_alloc _ _ _) (one_of_all rfl) (by omega) (by omega) (hbel.alloc hsz _) (by simp; omega) ?_; intro v1 w1 hown1 hb1 hg1 hat1))
        go_roundw
        case rel => exact ⟨k + 1, n + 1, acc ++ [s[k]], by omega, by omega, by go_num, by rw [bc_append]; exact hown1, hb1, HA⟩
        case measure => simp [intOf]; omega
      · have i3 : decide ((k : Int) < (s.size : Int)) = false := by simp; omega
        have HA : Hid (acc ++ [0] = (Us.fill m (bl s)).take (k + 1)) := by show _ = _; rw [hacc.out, fill_take0 hkm (by rw [bl_length]; omega)]
        go_wp2_with ((at_builtin; refine wpList_app rfl _ _ _ rfl byteSliceR _ _ _ _ rfl (hown.alloc _) _ _ _ _ rfl rfl (news_alloc _ _ _) (one_of_all rfl) (by omega) (by omega) (hbel.alloc hsz _) (by simp; omega) ?_; intro v1 w1 hown1 hb1 hg1 hat1))
        go_roundw
        case rel => exact ⟨k + 1, n + 1, acc ++ [0], by omega, by omega, by go_num, by rw [bc_append]; exact hown1, hb1, HA⟩
        case measure => simp [intOf]; omega
    · have i0 : decide ((k : Int) < (m : Int)) = false := by simp; omega
      have hcv := run_str_own Tryd.underlying42 Tryd.underlying5 hown 9 Tryd.underlying9
      have hfin : acc = Us.fill m (bl s) := by rw [hacc.out, List.take_of_length_le (by rw [Us.fill_length]; omega)]
      have HF := Lib.hid hfin
      clear hfin
      go_wp2_with fail
      go_ret
      exact ⟨by rw [HF.out]; rfl, hbel⟩

theorem new_bytes (w : World) (t : TypeId) (L : List UInt8) : Bytes w (w.alloc (.cells (bc L).toArray t)) w.heap.size t L := ⟨Blk.new _ _ _, (Below.refl _ _).alloc (Nat.le_refl _) _⟩
theorem str_one {P : Program} (w : World) {t e : TypeId} (T : TypeId) (c : UInt8) (ht : P.underlying t = some (.slice e)) (he : P.underlying e = some (.int .u8)) (cap : Nat) :
    ∀ dst, P.underlying dst = some .string → (convert t dst (.slice (some ⟨w.heap.size, 0, none⟩) 1 cap)).run P (w.alloc (.cells #[.int .u8 (c.toNat : Int)] T)) = .ok (.string (bs [c])) (w.alloc (.cells #[.int .u8 (c.toNat : Int)] T)) := by
  intro dst hd
  have hb := new_bytes w T [c]
  have hx := run_convert_bytes_arg (P := P) (w.alloc (.cells #[.int .u8 (c.toNat : Int)] T)) t e ht he w.heap.size 0 1 cap [(c.toNat : Int)] rfl (fun i hi => by
    obtain rfl : i = 0 := by omega
    have := hb.cell 0 (by simp)
    exact this) dst hd
  rw [hx]
  simp [strOfNums, bs]
set_option maxRecDepth 100000 in
theorem octal_any (d x : Nat) (w : World) (hd : d ≤ 100) (hx : x ≤ 9000000000000000000) : Calls Tryd.prog 38 #[.int .i64 (x : Int), .int .i64 (d : Int)] w fun e w' => e = .returned (.string (bs (Us.oct d x))) ∧ Below w.heap.size w w' := by
  obtain ⟨R, hR⟩ : ∃ R, R = Us.oct d x := ⟨_, rfl⟩
  rw [← hR]
  have HR := Lib.hid hR
  clear hR
  go_enter Tryd.func38, Tryd.ntmps38
  go_wp2_with fail
  go_loopw [0, 5, 6] (fun v s i wr => ∃ (k y n : Nat) (acc : List UInt8), k ≤ d ∧ n = d - k ∧ y ≤ 9000000000000000000 ∧ (bs acc).size = k ∧ v = .int .i64 (y : Int) ∧ s = .string (bs acc) ∧ i = .int .i64 (k : Int) ∧ Below w.heap.size w wr ∧ Hid (R = Us.oct n y ++ acc)) (fun _ _ i _ => d - (intOf i).toNat)
  case atStart => exact ⟨0, x, d, [], by omega, by omega, hx, rfl, rfl, rfl, rfl, Below.refl _ _, by show _ = _; rw [List.append_nil]; exact HR.out⟩
  case round =>
    obtain ⟨k, y, n, acc, hk, hn, hy, hsz0, rfl, rfl, rfl, hbel, hrec⟩ := hrel
    have hsz := hbel.size
    clear HR
    by_cases hkd : k < d
    · obtain ⟨m, rfl⟩ : ∃ m, n = m + 1 := ⟨n - 1, by omega⟩
      have i0 : decide ((k : Int) < (d : Int)) = true := by simp; omega
      have HV : Hid (R = Us.oct m (y / 8) ++ ([UInt8.ofNat (48 + y % 8)] ++ acc)) := by
        show _ = _
        rw [hrec.out, Us.oct, List.append_assoc]
      have hcv := str_one (P := Tryd.prog) wr 5 (UInt8.ofNat (48 + y % 8)) Tryd.underlying42 Tryd.underlying5 1 9 Tryd.underlying9
      rw [digit_u8] at hcv
      obtain ⟨o, ho⟩ : ∃ o, bs [UInt8.ofNat (48 + y % 8)] = o := ⟨_, rfl⟩
      have hoz : o.size = 1 := by rw [← ho]; rfl
      rw [ho] at hcv
      have HO := Lib.hid ho
      clear ho
      go_wp2_with fail
      go_roundw
      case rel => exact ⟨k + 1, y / 8, m, UInt8.ofNat (48 + y % 8) :: acc, by omega, by omega, by omega, by rw [bs_size] at hsz0 ⊢; simp; omega, by go_num, by rw [← HO.out, bs_append]; rfl, by go_num, hbel.alloc hsz _, HV⟩
      case measure => simp [intOf]; omega
    · have i0 : decide ((k : Int) < (d : Int)) = false := by simp; omega
      obtain rfl : n = 0 := by omega
      have HN : Hid (R = acc) := by show _ = _; rw [hrec.out, Us.oct, List.nil_append]
      go_wp2_with fail
      go_ret
      exact ⟨by rw [HN.out]; rfl, hbel⟩

theorem refSum_any (s : ByteArray) (w : World) (hs : s.size ≤ 1000000000000) : Calls Tryd.prog 39 #[.string s] w fun e w' => e = .returned (.int .i64 (Us.sumFrom 0 (bl s) : Nat)) ∧ w = w' := by
  obtain ⟨R, hR⟩ : ∃ R, R = Us.sumFrom 0 (bl s) := ⟨_, rfl⟩
  have HR := Lib.hid hR
  have hle : R ≤ 255 * s.size := by rw [hR, ← bl_length]; exact Us.sumFrom_le (bl s) 0
  rw [← hR]
  clear hR
  go_enter Tryd.func39, Tryd.ntmps39
  go_wp2_with fail
  go_loop [3, 4] (fun v i => ∃ k acc : Nat, k ≤ s.size ∧ i = .int .i64 (k : Int) ∧ v = .int .i64 (acc : Int) ∧ acc ≤ R ∧ Hid (R = acc + Us.sumFrom k ((bl s).drop k))) (fun _ i => s.size - (intOf i).toNat)
  case atStart => exact ⟨0, 0, by omega, rfl, rfl, by omega, by show _ = _; rw [Nat.zero_add]; exact HR.out⟩
  case round =>
    obtain ⟨k, acc, hk, rfl, rfl, hacc, hrec⟩ := hrel
    clear HR
    by_cases hks : k < s.size
    · have hb : (s[k]).toNat < 256 := (s[k]).toNat_lt
      have h0 : (0 : Int) ≤ (k : Int) := by omega
      have h1 : (k : Int) < (s.size : Int) := by omega
      have hst : Us.sumFrom k ((bl s).drop k) = (if 148 ≤ k ∧ k < 156 then 32 else (s[k]).toNat) + Us.sumFrom (k + 1) ((bl s).drop (k + 1)) := by
        rw [bl_drop_cons s k hks, Us.sumFrom]
      by_cases h2 : 148 ≤ k ∧ k < 156
      · have HV : Hid (R = (acc + 32) + Us.sumFrom (k + 1) ((bl s).drop (k + 1))) := by
          show _ = _
          rw [hrec.out, hst, if_pos h2, Nat.add_assoc]
        have hle2 : acc + 32 ≤ R := by have := HV.out; omega
        have d1 : decide ((148 : Int) ≤ (k : Int)) = true := by simp; omega
        have d2 : decide ((k : Int) < 156) = true := by simp; omega
        clear h2 hst hrec
        go_wp2_with fail
        go_round
        case rel => exact ⟨k + 1, acc + 32, by omega, by go_num, by go_num, hle2, HV⟩
        case measure => simp [intOf]; omega
      · have HV : Hid (R = (acc + (s[k]).toNat) + Us.sumFrom (k + 1) ((bl s).drop (k + 1))) := by
          show _ = _
          rw [hrec.out, hst, if_neg h2, Nat.add_assoc]
        have hle2 : acc + (s[k]).toNat ≤ R := by have := HV.out; omega
        have hp : k < 148 ∨ (148 ≤ k ∧ 156 ≤ k) := by omega
        clear h2 hst hrec
        rcases hp with h2 | ⟨h2, h3⟩
        · have d1 : decide ((148 : Int) ≤ (k : Int)) = false := by simp; omega
          go_wp2_with fail
          go_round
          case rel => exact ⟨k + 1, acc + (s[k]).toNat, by omega, by go_num, by go_num, hle2, HV⟩
          case measure => simp [intOf]; omega
        · have d1 : decide ((148 : Int) ≤ (k : Int)) = true := by simp; omega
          have d2 : decide ((k : Int) < 156) = false := by simp; omega
          go_wp2_with fail
          go_round
          case rel => exact ⟨k + 1, acc + (s[k]).toNat, by omega, by go_num, by go_num, hle2, HV⟩
          case measure => simp [intOf]; omega
    · have HV : Hid (R = acc) := by
        show _ = _
        rw [hrec.out, List.drop_of_length_le (by rw [bl_length]; omega), Us.sumFrom, Nat.add_zero]
      clear hrec
      go_wp2_with fail
      go_ret
      exact ⟨by rw [HV.out]; rfl, rfl⟩
end Go.Proofs.YtfhfahlocpmdkaaDoor
