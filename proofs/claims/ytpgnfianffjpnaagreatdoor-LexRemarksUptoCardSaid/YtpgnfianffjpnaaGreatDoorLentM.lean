/- stratakit.markMarks, FullMarks, LentMarks, walked. -/
import Derived.Test.YtpgnfianffjpnaaGreatDoorLxT
namespace Go.Proofs.YtpgnfianffjpnaaGreatDoor
open Go Go.RowKit
theorem markT : StK Tryz.prog 136 3 := ⟨⟨_, Tryz.underlying136⟩, by kernel_rfl⟩
/-- what markMarks answers. -/
def mkM (k i : Int) : Lx.Mk := ⟨-7 - k, -i - 1, 0⟩
def marksM (n : Nat) : List Lx.Mk := (List.range n).map fun i : Nat => mkM 90 (i : Int)
theorem marksM_succ (n : Nat) : marksM (n + 1) = marksM n ++ [mkM 90 (n : Int)] := by simp [marksM, List.range_succ]
theorem marksM_len (n : Nat) : (marksM n).length = n := by simp [marksM]
set_option maxRecDepth 100000 in
set_option maxHeartbeats 400000 in
theorem markMarks_any (k i : Int) (hk : 0 ≤ k) (hk2 : k ≤ 1000000) (hi : -1000000000 ≤ i) (hi2 : i ≤ 1000000000) (w : World) {m : Lx.Mk} (H : Hid (mkM k i = m)) : Calls Tryz.prog 122 #[.int .i64 k, .int .i64 i] w fun e w' => e = .returned (.agg #[.int .i64 m.at_, .int .i64 m.line, .int .i64 m.col]) ∧ Below w.heap.size w w' := by
  have hx1 : IntKind.i64.wrap (-7 - k) = -7 - k := by
    unfold IntKind.wrap
    simp [IntKind.bits, IntKind.signed]
    omega
  have hx2 : IntKind.i64.wrap (-i) = -i := by
    unfold IntKind.wrap
    simp [IntKind.bits, IntKind.signed]
    omega
  have hx3 : IntKind.i64.wrap (-i - 1) = -i - 1 := by
    unfold IntKind.wrap
    simp [IntKind.bits, IntKind.signed]
    omega
  go_enter Tryz.func122, Tryz.ntmps122
  go_wp2_with fail
  have hK := Blk.new w 136 #[.int .i64 (-7 - k), .int .i64 (-i - 1), .int .i64 0]
  refine bodyPost_ret (v := .agg #[.int .i64 (-7 - k), .int .i64 (-i - 1), .int .i64 0]) (results_c0 rfl markT rfl hK rfl) rfl ?_
  exact ⟨by rw [← H.out]; rfl, (Below.refl _ _).alloc (Nat.le_refl _) _⟩
set_option maxRecDepth 100000 in
set_option maxHeartbeats 1000000 in
theorem fullM_any (ms : List Lx.Mk) (At : Option Addr) (ct : Nat) (w : World) (hR : RdRow w (.slice At ms.length ct) ms.length (mkC ms)) (hn : ms.length ≤ 1100000) : Calls Tryz.prog 129 #[.slice At ms.length ct] w fun e w' => (∃ g c, e = .returned (.slice (some ⟨g, 0, none⟩) (ms.length + 16) c) ∧ w'.ownsRow w.heap.size 136 3 (.slice (some ⟨g, 0, none⟩) (ms.length + 16) c) (ms.length + 16) (mkC (ms ++ marksM 16))) ∧ Below w.heap.size w w' := by
  have HR := Lib.hid hR
  clear hR
  go_enter Tryz.func129, Tryz.ntmps129
  go_wp2_with fail
  go_loopw [3, 4] (fun t3 t4 wr => ∃ i : Nat, i ≤ ms.length ∧ t4 = .int .i64 (i : Int) ∧ wr.ownsRow w.heap.size 136 3 t3 i (mkC (ms.take i)) ∧ Below w.heap.size w wr) (fun _ t4 _ => ms.length - (intOf t4).toNat)
  case atStart => exact ⟨0, by omega, rfl, World.ownsRow_nil _ _ _ _, Below.refl _ _⟩
  case round =>
    obtain ⟨i, hi, rfl, hown, hB⟩ := hrel
    obtain ⟨AA, ca, rfl⟩ := ownk_form hown
    have j0 : (0 : Int) ≤ (i : Int) := by omega
    rcases Nat.lt_or_ge i ms.length with hin | hin
    · have i0 : decide ((i : Int) < (ms.length : Int)) = true := by rw [decide_eq_true_eq]; omega
      have i1 : (i : Int) < (ms.length : Int) := by omega
      have hE := HR.out.new hB
      obtain ⟨g, o, c, hvl, c0, c1, c2⟩ := hE.mark i hin
      obtain ⟨hA, hcc⟩ : At = some ⟨g, o, none⟩ ∧ ct = c := by injection hvl with e1 _ e3; exact ⟨e1, e3⟩
      subst hA hcc
      have hT : Hid (mkC (ms.take (i + 1)) = mkC (ms.take i) ++ mkL ms[i]) := Lib.hid (by rw [List.take_add_one, List.getElem?_eq_getElem hin]; exact mkC_snoc _ _)
      obtain ⟨x, hxe⟩ : ∃ x, ms[i] = x := ⟨_, rfl⟩
      rw [hxe] at c0 c1 c2 hT
      have hbs := hB.size
      clear hvl hE hxe
      go_wp2_with (at_builtin; refine wpList_appk rfl _ _ _ rfl markK _ _ _ _ rfl (hown.alloc _) _ _ _ _ rfl rfl (news_at _ _ (by simp) _ _) (by simp [Value.oneCell']) (by omega) (by omega) (hB.alloc hbs _) (by rw [World.size_alloc]; omega) ?_; intro v1 w1 ho1 hb1 hg1 hat1; obtain ⟨B1, q1, rfl⟩ := ownk_form ho1)
      go_roundw
      case rel => exact ⟨i + 1, by omega, by go_num, by rw [hT.out]; exact ho1, hb1⟩
      case measure => simp [intOf]; omega
    · have i0 : decide ((i : Int) < (ms.length : Int)) = false := by rw [decide_eq_false_iff_not]; omega
      obtain rfl : i = ms.length := by omega
      rw [List.take_length] at hown
      have HO : Hid (wr.ownsRow w.heap.size 136 3 (.slice AA ms.length ca) (ms.length + 0) (mkC (ms ++ marksM 0))) := Lib.hid (by rw [show marksM 0 = [] from rfl, List.append_nil]; exact hown)
      clear hown
      go_wp2_with fail
      go_loopw [3, 5] (fun t3 t5 wv => ∃ j : Nat, j ≤ 16 ∧ t5 = .int .i64 (j : Int) ∧ wv.ownsRow w.heap.size 136 3 t3 (ms.length + j) (mkC (ms ++ marksM j)) ∧ Below w.heap.size w wv) (fun _ t5 _ => 16 - (intOf t5).toNat)
      case atStart => exact ⟨0, by omega, rfl, HO.out, hB⟩
      case round =>
        clear HO hB
        obtain ⟨j, hj, rfl, hown, hB⟩ := hrel
        obtain ⟨A2, c2, rfl⟩ := ownk_form hown
        rcases Nat.lt_or_ge j 16 with hjn | hjn
        · have j1 : (j : Int) < 16 := by omega
          obtain ⟨y, hy⟩ : ∃ y, Hid (mkM 90 (j : Int) = y) := ⟨_, Lib.hid rfl⟩
          have hT : Hid (mkC (ms ++ marksM (j + 1)) = mkC (ms ++ marksM j) ++ mkL y) := Lib.hid (by rw [marksM_succ, hy.out, ← List.append_assoc, mkC_snoc])
          go_wp2_with (first | (go_at_call 122; refine (markMarks_any _ _ (by omega) (by omega) (by omega) (by omega) _ hy).mono ?_; rintro e w1 ⟨rfl, hb1⟩; have hownW := own_below hown hb1; have hBW := below_of_below hB hb1 hB.size; have hbs := hBW.size) | (at_builtin; refine wpList_appk rfl _ _ _ rfl markK _ _ _ _ rfl (hownW.alloc _) _ _ _ _ rfl rfl (news_at _ _ (by simp) _ _) (by simp [Value.oneCell']) (by omega) (by omega) (hBW.alloc hbs _) (by rw [World.size_alloc]; omega) ?_; intro v1 w2 ho1 hb2 hg1 hat1; obtain ⟨B1, q1, rfl⟩ := ownk_form ho1))
          go_roundw
          case rel => exact ⟨j + 1, by omega, by go_num, by rw [hT.out]; exact ho1, hb2⟩
          case measure => simp [intOf]; omega
        · obtain rfl : j = 16 := by omega
          obtain ⟨g, cap, hv, _⟩ := hown.form (by omega)
          rw [hv] at hown
          rw [hv]
          clear hv
          go_wp2_with fail
          go_ret
          exact ⟨⟨g, cap, rfl, hown⟩, hB⟩
theorem own_two {w : World} {base : Nat} {e : TypeId} {k : Nat} {v : Value} {n : Nat} {xs : List Value} (h : w.ownsRow base e k v n xs) : (v = .slice none 0 0 ∧ n = 0) ∨ ∃ b c, v = .slice (some ⟨b, 0, none⟩) n c ∧ n ≤ c := by
  rcases h.2 with ⟨h1, h2⟩ | ⟨g, cap, cur, h1, _, _, h2, _⟩
  · exact .inl ⟨h1, h2⟩
  · exact .inr ⟨g, cap, h1, h2⟩
set_option maxRecDepth 100000 in
theorem lentM_any (ms : List Lx.Mk) (At : Option Addr) (ct : Nat) (w : World) (hR : RdRow w (.slice At ms.length ct) ms.length (mkC ms)) (hn : ms.length ≤ 1100000) : Calls Tryz.prog 72 #[.slice At ms.length ct] w fun e w' => (∃ g c, e = .returned (.slice (some ⟨g, 0, none⟩) ms.length c) ∧ ms.length + 16 ≤ c ∧ w'.ownsRow w.heap.size 136 3 (.slice (some ⟨g, 0, none⟩) (ms.length + 16) c) (ms.length + 16) (mkC (ms ++ marksM 16))) ∧ Below w.heap.size w w' := by
  have HR := Lib.hid hR
  clear hR
  go_enter Tryz.func72, Tryz.ntmps72
  go_wp2_with fail
  refine (fullM_any ms At ct _ HR.out hn).mono ?_
  rintro e w1 ⟨⟨g, c, rfl, ho⟩, b1⟩
  have hc : ms.length + 16 ≤ c := by
    rcases own_two ho with ⟨h, _⟩ | ⟨b, c', h, hc⟩
    · cases h
    · simp only [Value.slice.injEq] at h
      omega
  have HO := Lib.hid ho
  have i1 : (0 : Int) ≤ (ms.length : Int) := by omega
  have i2 : (ms.length : Int) ≤ (c : Int) := by omega
  have i3 : ms.length ≤ c := by omega
  clear ho
  go_wp2_with fail
  go_ret
  exact ⟨⟨g, c, rfl, hc, HO.out⟩, b1⟩
end Go.Proofs.YtpgnfianffjpnaaGreatDoor
