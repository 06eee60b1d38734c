/- strataref14.Cut, walked (printed by wip/genlrh.py). -/
import Derived.Test.YtpgnfianffjpnaaGreatDoorLrG
namespace Go.Proofs.YtpgnfianffjpnaaGreatDoor
open Go Go.RowKit
namespace Lx
theorem cr_nil : cr [] = [] := rfl
theorem cr_13 (x : Bs) : cr (x ++ [13]) = cr x := by
  unfold cr Lib.trimRightS
  rw [List.reverse_append, List.reverse_singleton, List.singleton_append, List.dropWhile_cons_of_pos (by rfl)]
theorem cr_no (x : Bs) {c : UInt8} (h : c ≠ 13) : cr (x ++ [c]) = x ++ [c] := by
  unfold cr Lib.trimRightS
  rw [List.reverse_append, List.reverse_singleton, List.singleton_append, List.dropWhile_cons_of_neg (by simpa using h)]
  simp
end Lx
/-- where the lines of the document are. -/
def CutAns (L : List (List UInt8)) (w w' : World) (e : Ending) : Prop := ∃ A c, e = .returned (.slice A L.length c) ∧ w'.ownsRow w.heap.size 9 1 (.slice A L.length c) L.length (sc L)
set_option maxRecDepth 100000 in
set_option maxHeartbeats 8000000 in
theorem cut14_any (s : List UInt8) (hs : s.length ≤ 2000000) (w : World) {L : List (List UInt8)} (H : Hid (Lx.fileL s = L)) :
    Calls Tryz.prog 20 #[.string (bs s)] w fun e w' => CutAns L w w' e ∧ Below w.heap.size w w' := by
  have hz := bs_size s
  have HZ := Lib.hid hz
  have hs2 : (bs s).size ≤ 2000000 := by omega
  have H0 : Hid (L = [] ++ Lx.fileL (s.drop 0)) := by show _ = _; rw [List.drop_zero, H.out]; rfl
  have HF0 : Hid (∀ (x : Nat) b, 0 ≤ x → x < 0 → s[x]? = some b → b ≠ 10) := Lib.hid (fun x b h1 h2 => by omega)
  clear hz H
  go_enter Tryz.func20, Tryz.ntmps20
  go_wp2_with fail
  go_loopw [3, 4, 5, 6] (fun t3 t4 t5 _ wr => ∃ (i f : Nat) (out : List (List UInt8)), f ≤ i ∧ i ≤ (bs s).size + 1 ∧ out.length ≤ i ∧ (i = (bs s).size + 1 → (bs s).size ≤ f ) ∧ Hid (L = out ++ Lx.fileL (s.drop f)) ∧ Hid (∀ (x : Nat) b, f ≤ x → x < i → s[x]? = some b → b ≠ 10) ∧ t4 = .int .i64 (f : Int) ∧ t5 = .int .i64 (i : Int) ∧ wr.ownsRow w.heap.size 9 1 t3 out.length (sc out) ∧ Below w.heap.size w wr) (fun _ _ t5 _ _ => (bs s).size + 1 - (intOf t5).toNat)
  case atStart => exact ⟨0, 0, [], by omega, by omega, by simp, fun h => by omega, H0, HF0, rfl, rfl, World.ownsRow_nil _ _ _ _, Below.refl _ _⟩
  case round =>
    clear H0 HF0
    obtain ⟨i, f, out, hf, hi, hol, hend, HN, HF, rfl, rfl, hown, hB⟩ := hrel
    obtain ⟨AA, cc, rfl⟩ := own_form hown
    have hbs := hB.size
    have j0 : (0 : Int) ≤ (i : Int) := by omega
    have j1 : (0 : Int) ≤ (f : Int) := by omega
    rcases Nat.lt_or_ge i ((bs s).size + 1) with hin | hin
    · have HEND := Lib.hid hend
      clear hend
      have i0 : decide ((i : Int) ≤ ((bs s).size : Int)) = true := by rw [decide_eq_true_eq]; omega
      rcases Nat.lt_or_ge i (bs s).size with hkn | hkn
      · have k0 : decide ((i : Int) < ((bs s).size : Int)) = true := by rw [decide_eq_true_eq]; omega
        have k1 : (i : Int) < ((bs s).size : Int) := by omega
        have hby : ((bs s)[i]'hkn).toNat < 256 := UInt8.toNat_lt _
        have k2 : ((i : Int) == ((bs s).size : Int)) = false := by rw [beq_eq_false_iff_ne]; omega
        by_cases hc : (bs s)[i]'hkn = 10
        · have t2 : ((((bs s)[i]'hkn).toNat : Int) != 10) = false := by rw [hc]; rfl
          have hno : ∀ c ∈ mid (bs s) f i, c ≠ 10 := mid_no (s := bs s) HF.out
          obtain ⟨cur, hcur⟩ : ∃ cur, Lx.cr (mid (bs s) f i) = cur := ⟨_, rfl⟩
          have HN2 : Hid (L = (out ++ [cur]) ++ Lx.fileL (s.drop (i + 1))) := by
            show _ = _
            rw [HN.out, show s.drop f = (bl (bs s)).drop f from rfl, drop_at (bs s) hf hkn, hc, Lx.fileL_cut _ _ hno, hcur, List.append_assoc]
            rfl
          have HF2 : Hid (∀ (x : Nat) b, i + 1 ≤ x → x < i + 1 → s[x]? = some b → b ≠ 10) := Lib.hid (fun x b h1 h2 => by omega)
          have HCUR := Lib.hid hcur
          clear hno hcur HN HF hc
          go_wp2_with fail
          go_loopw [6] (fun t6 wx => ∃ (e : Nat) (z : Int), f ≤ e ∧ e ≤ i ∧ t6 = .int .i64 z ∧ z = (e : Int) ∧ Hid (Lx.cr (mid (bs s) f e) = cur) ∧ wx = wr) (fun t6 _ => (intOf t6).toNat)
          case atStart => exact ⟨i, _, hf, by omega, rfl, rfl, HCUR, by first | rfl | trivial⟩
          case round =>
            clear HCUR
            obtain ⟨e, z, hfe, hei, rfl, hz, HC, rfl⟩ := hrel
            rcases Nat.lt_or_ge f e with hlt | hge
            · cases e with
              | zero => omega
              | succ k =>
                obtain rfl : z = (k : Int) + 1 := by omega
                clear hz
                have hks : k < (bs s).size := by omega
                have m0 : decide ((f : Int) < (k : Int) + 1) = true := by rw [decide_eq_true_eq]; omega
                have m1 : (k : Int) < ((bs s).size : Int) := by omega
                have m2 : (0 : Int) ≤ (k : Int) := by omega
                have hby3 : ((bs s)[k]'hks).toNat < 256 := UInt8.toNat_lt _
                have hC := HC.out
                rw [mid_snoc (bs s) f k (by omega) hks] at hC
                by_cases h13 : (bs s)[k]'hks = 13
                · have t3 : ((((bs s)[k]'hks).toNat : Int) == 13) = true := u8_yes (d := 13) h13
                  have HC2 : Hid (Lx.cr (mid (bs s) f k) = cur) := by show _ = _; rw [← hC, h13, Lx.cr_13]
                  clear hC HC h13
                  go_wp2_with fail
                  go_roundw
                  case rel => exact ⟨k, _, by omega, by omega, rfl, by first | rfl | go_num | omega, HC2, by first | rfl | trivial⟩
                  case measure => simp [intOf]
                · have t3 : ((((bs s)[k]'hks).toNat : Int) == 13) = false := u8_no (d := 13) h13
                  have hCur : mid (bs s) f (k + 1) = cur := by rw [← hC, Lx.cr_no _ h13, mid_snoc (bs s) f k (by omega) hks]
                  have hsl := slice_lit (bs s) f (k + 1) (f : Int) ((k : Int) + 1) rfl (by omega) (by omega) (by omega)
                  rw [ext_bs, show ((bl (bs s)).drop f).take (k + 1 - f) = mid (bs s) f (k + 1) from rfl, hCur] at hsl
                  clear hC HC h13 hCur
                  go_wp2_with (at_builtin; refine wpList_app rfl _ _ _ rfl strK _ _ _ _ rfl (hown.alloc _) _ _ _ _ rfl rfl (news_alloc _ _ _) (one_of_all rfl) (by omega) (by omega) (hB.alloc hbs _) (by simp; omega) ?_; intro v1 w1 hown1 hb1 hg1 hat1)
                  go_roundw
                  case rel => exact ⟨i + 1, i + 1, out ++ [cur], by omega, by omega, by simp only [List.length_append, List.length_cons, List.length_nil]; omega, fun _ => by omega, HN2, HF2, by go_num, by go_num, by rw [sc_append, List.length_append]; exact hown1, hb1⟩
                  case measure => simp [intOf]; omega
            · obtain rfl : e = f := by omega
              obtain rfl : z = (e : Int) := hz
              have m0 : decide ((e : Int) < (e : Int)) = false := by rw [decide_eq_false_iff_not]; omega
              have hCur : mid (bs s) e e = cur := by rw [← HC.out, mid_nil]; rfl
              have hsl := slice_lit (bs s) e e (e : Int) (e : Int) rfl rfl (by omega) (by omega)
              rw [ext_bs, show ((bl (bs s)).drop e).take (e - e) = mid (bs s) e e from rfl, hCur] at hsl
              clear HC hCur
              go_wp2_with (at_builtin; refine wpList_app rfl _ _ _ rfl strK _ _ _ _ rfl (hown.alloc _) _ _ _ _ rfl rfl (news_alloc _ _ _) (one_of_all rfl) (by omega) (by omega) (hB.alloc hbs _) (by simp; omega) ?_; intro v1 w1 hown1 hb1 hg1 hat1)
              go_roundw
              case rel => exact ⟨i + 1, i + 1, out ++ [cur], by omega, by omega, by simp only [List.length_append, List.length_cons, List.length_nil]; omega, fun _ => by omega, HN2, HF2, by go_num, by go_num, by rw [sc_append, List.length_append]; exact hown1, hb1⟩
              case measure => simp [intOf]; omega
        · have t2 : ((((bs s)[i]'hkn).toNat : Int) != 10) = true := by rw [bne, show ((((bs s)[i]'hkn).toNat : Int) == 10) = false from u8_no (d := 10) hc]; rfl
          have e := bs_at s i hkn
          have HF2 : Hid (∀ (x : Nat) b, f ≤ x → x < i + 1 → s[x]? = some b → b ≠ 10) := Lib.hid (fun x b h1 h2 hb => by
            by_cases h : x = i
            · subst h
              rw [e] at hb
              injection hb with hb
              rw [← hb]
              exact hc
            · exact HF.out x b h1 (by omega) hb)
          clear hc HF e
          go_wp2_with fail
          go_roundw
          case rel => exact ⟨i + 1, f, out, by omega, by omega, by omega, fun h => by omega, HN, HF2, rfl, by go_num, hown, hB⟩
          case measure => simp [intOf]; omega
      · have k0 : decide ((i : Int) < ((bs s).size : Int)) = false := by rw [decide_eq_false_iff_not]; omega
        have k2 : ((i : Int) == ((bs s).size : Int)) = true := by rw [beq_iff_eq]; omega
        have HNO : Hid (∀ c ∈ mid (bs s) f i, c ≠ 10) := Lib.hid (mid_no (s := bs s) HF.out)
        have HMID : Hid (s.drop f = mid (bs s) f i) := by
          show _ = _
          rw [mid, show bl (bs s) = s from rfl, List.take_of_length_le]
          rw [List.length_drop, ← HZ.out]; omega
        have HNIL : Hid (s.drop (i + 1) = []) := Lib.hid (List.drop_eq_nil_of_le (by rw [← HZ.out]; omega))
        have HF2 : Hid (∀ (x : Nat) b, i + 1 ≤ x → x < i + 1 → s[x]? = some b → b ≠ 10) := Lib.hid (fun x b h1 h2 => by omega)
        by_cases hfi : f = i
        · have k3 : ((f : Int) == (i : Int)) = true := by rw [beq_iff_eq]; omega
          have HF3 : Hid (∀ (x : Nat) b, f ≤ x → x < i + 1 → s[x]? = some b → b ≠ 10) := Lib.hid (fun x b h1 h2 h3 => by
            have := (List.getElem?_eq_some_iff.1 h3).1
            rw [← HZ.out] at this
            omega)
          have hfs : (bs s).size ≤ f := by omega
          clear HF HNO HMID HNIL HF2 hfi
          go_wp2_with fail
          go_roundw
          case rel => exact ⟨i + 1, f, out, by omega, by omega, by omega, fun _ => hfs, HN, HF3, rfl, by go_num, hown, hB⟩
          case measure => simp [intOf]; omega
        · have k3 : ((f : Int) == (i : Int)) = false := by rw [beq_eq_false_iff_ne]; omega
          obtain ⟨cur, hcur⟩ : ∃ cur, Lx.cr (mid (bs s) f i) = cur := ⟨_, rfl⟩
          have HN2 : Hid (L = (out ++ [cur]) ++ Lx.fileL (s.drop (i + 1))) := by
            show _ = _
            rw [HN.out, HMID.out, HNIL.out, Lx.fileL_nil, List.append_nil, Lx.fileL_one _ HNO.out, hcur]
            intro h
            have := congrArg List.length h
            rw [mid_length (bs s) f i (by omega), List.length_nil] at this
            omega
          have HCUR := Lib.hid hcur
          clear hcur HN HF HNO HMID HNIL hfi
          go_wp2_with fail
          go_loopw [6] (fun t6 wx => ∃ (e : Nat) (z : Int), f ≤ e ∧ e ≤ i ∧ t6 = .int .i64 z ∧ z = (e : Int) ∧ Hid (Lx.cr (mid (bs s) f e) = cur) ∧ wx = wr) (fun t6 _ => (intOf t6).toNat)
          case atStart => exact ⟨i, _, hf, by omega, rfl, rfl, HCUR, by first | rfl | trivial⟩
          case round =>
            clear HCUR
            obtain ⟨e, z, hfe, hei, rfl, hz, HC, rfl⟩ := hrel
            rcases Nat.lt_or_ge f e with hlt | hge
            · cases e with
              | zero => omega
              | succ k =>
                obtain rfl : z = (k : Int) + 1 := by omega
                clear hz
                have hks : k < (bs s).size := by omega
                have m0 : decide ((f : Int) < (k : Int) + 1) = true := by rw [decide_eq_true_eq]; omega
                have m1 : (k : Int) < ((bs s).size : Int) := by omega
                have m2 : (0 : Int) ≤ (k : Int) := by omega
                have hby3 : ((bs s)[k]'hks).toNat < 256 := UInt8.toNat_lt _
                have hC := HC.out
                rw [mid_snoc (bs s) f k (by omega) hks] at hC
                by_cases h13 : (bs s)[k]'hks = 13
                · have t3 : ((((bs s)[k]'hks).toNat : Int) == 13) = true := u8_yes (d := 13) h13
                  have HC2 : Hid (Lx.cr (mid (bs s) f k) = cur) := by show _ = _; rw [← hC, h13, Lx.cr_13]
                  clear hC HC h13
                  go_wp2_with fail
                  go_roundw
                  case rel => exact ⟨k, _, by omega, by omega, rfl, by first | rfl | go_num | omega, HC2, by first | rfl | trivial⟩
                  case measure => simp [intOf]
                · have t3 : ((((bs s)[k]'hks).toNat : Int) == 13) = false := u8_no (d := 13) h13
                  have hCur : mid (bs s) f (k + 1) = cur := by rw [← hC, Lx.cr_no _ h13, mid_snoc (bs s) f k (by omega) hks]
                  have hsl := slice_lit (bs s) f (k + 1) (f : Int) ((k : Int) + 1) rfl (by omega) (by omega) (by omega)
                  rw [ext_bs, show ((bl (bs s)).drop f).take (k + 1 - f) = mid (bs s) f (k + 1) from rfl, hCur] at hsl
                  clear hC HC h13 hCur
                  go_wp2_with (at_builtin; refine wpList_app rfl _ _ _ rfl strK _ _ _ _ rfl (hown.alloc _) _ _ _ _ rfl rfl (news_alloc _ _ _) (one_of_all rfl) (by omega) (by omega) (hB.alloc hbs _) (by simp; omega) ?_; intro v1 w1 hown1 hb1 hg1 hat1)
                  go_roundw
                  case rel => exact ⟨i + 1, i + 1, out ++ [cur], by omega, by omega, by simp only [List.length_append, List.length_cons, List.length_nil]; omega, fun _ => by omega, HN2, HF2, by go_num, by go_num, by rw [sc_append, List.length_append]; exact hown1, hb1⟩
                  case measure => simp [intOf]; omega
            · obtain rfl : e = f := by omega
              obtain rfl : z = (e : Int) := hz
              have m0 : decide ((e : Int) < (e : Int)) = false := by rw [decide_eq_false_iff_not]; omega
              have hCur : mid (bs s) e e = cur := by rw [← HC.out, mid_nil]; rfl
              have hsl := slice_lit (bs s) e e (e : Int) (e : Int) rfl rfl (by omega) (by omega)
              rw [ext_bs, show ((bl (bs s)).drop e).take (e - e) = mid (bs s) e e from rfl, hCur] at hsl
              clear HC hCur
              go_wp2_with (at_builtin; refine wpList_app rfl _ _ _ rfl strK _ _ _ _ rfl (hown.alloc _) _ _ _ _ rfl rfl (news_alloc _ _ _) (one_of_all rfl) (by omega) (by omega) (hB.alloc hbs _) (by simp; omega) ?_; intro v1 w1 hown1 hb1 hg1 hat1)
              go_roundw
              case rel => exact ⟨i + 1, i + 1, out ++ [cur], by omega, by omega, by simp only [List.length_append, List.length_cons, List.length_nil]; omega, fun _ => by omega, HN2, HF2, by go_num, by go_num, by rw [sc_append, List.length_append]; exact hown1, hb1⟩
              case measure => simp [intOf]; omega
    · have i0 : decide ((i : Int) ≤ ((bs s).size : Int)) = false := by rw [decide_eq_false_iff_not]; omega
      have hfs := hend (by omega)
      have HV : Hid (L = out) := by show _ = _; rw [HN.out, List.drop_eq_nil_of_le (by rw [← HZ.out]; exact hfs), Lx.fileL_nil, List.append_nil]
      clear hend HN HF
      go_wp2_with fail
      go_ret
      exact ⟨⟨AA, cc, by rw [HV.out]; rfl, by rw [HV.out]; exact hown⟩, hB⟩
end Go.Proofs.YtpgnfianffjpnaaGreatDoor
