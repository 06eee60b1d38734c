/- stratakit: references lent and kept, walked. (Printed by wip/gengw.py.) -/
import Derived.Test.YtnlkmljdcmfogaaGreatDoorCkM0
import Derived.Test.YtnlkmljdcmfogaaGreatDoorCkLt0
namespace Go.Proofs.YtnlkmljdcmfogaaGreatDoor
open Go Go.RowKit
theorem refTl : StK Tryz.prog 77 3 := ⟨⟨_, Tryz.underlying77⟩, by kernel_rfl⟩
theorem refKl : ElemK Tryz.prog 78 77 (.agg #[.int .i64 0, .int .i64 0, .string ⟨#[]⟩]) 3 32 := ⟨Tryz.underlying78, by kernel_rfl, rfl, by decide⟩
/-- what markRefs answers. -/
def mkR (k i : Int) : Gw.Rf := ⟨-7 - k, -i - 1, []⟩
def marksR (n : Nat) : List Gw.Rf := (List.range n).map fun i : Nat => mkR 90 (i : Int)
theorem marksR_succ (n : Nat) : marksR (n + 1) = marksR n ++ [mkR 90 (n : Int)] := by simp [marksR, List.range_succ]
theorem marksR_len (n : Nat) : (marksR n).length = n := by simp [marksR]
set_option maxRecDepth 100000 in
set_option maxHeartbeats 400000 in
theorem markRefs_any (k i : Int) (hk : 0 ≤ k) (hk2 : k ≤ 1000000) (hi : -1000000000 ≤ i) (hi2 : i ≤ 1000000000) (w : World) {m : Gw.Rf} (H : Hid (mkR k i = m)) : Calls Tryz.prog 137 #[.int .i64 k, .int .i64 i] w fun e w' => e = .returned (.agg #[.int .i64 m.kind, .int .i64 m.stage, .string (bs m.name)]) ∧ Below w.heap.size w w' := by
  have hx1 : IntKind.i64.wrap (-7 - k) = -7 - k := by
    unfold IntKind.wrap
    simp [IntKind.bits, IntKind.signed]
    omega
  have hx2 : IntKind.i64.wrap (-i) = -i := by
    unfold IntKind.wrap
    simp [IntKind.bits, IntKind.signed]
    omega
  have hx3 : IntKind.i64.wrap (-i - 1) = -i - 1 := by
    unfold IntKind.wrap
    simp [IntKind.bits, IntKind.signed]
    omega
  go_enter Tryz.func137, Tryz.ntmps137
  go_wp2_with fail
  have hK := Blk.new w 77 #[.int .i64 (-7 - k), .int .i64 (-i - 1), .string ⟨#[]⟩]
  refine bodyPost_ret (v := .agg #[.int .i64 (-7 - k), .int .i64 (-i - 1), .string ⟨#[]⟩]) (results_c0 rfl refTl rfl hK rfl) rfl ?_
  exact ⟨by rw [← H.out]; rfl, (Below.refl _ _).alloc (Nat.le_refl _) _⟩
set_option maxRecDepth 100000 in
set_option maxHeartbeats 1000000 in
theorem fullR_any (ms : List Gw.Rf) (At : Option Addr) (ct : Nat) (w : World) (hR : SlA w (.slice At ms.length ct) ms.length (rfC ms)) (hn : ms.length ≤ 1100000) : Calls Tryz.prog 248 #[.slice At ms.length ct] w fun e w' => (∃ g c, e = .returned (.slice (some ⟨g, 0, none⟩) (ms.length + 16) c) ∧ w'.ownsRow w.heap.size 77 3 (.slice (some ⟨g, 0, none⟩) (ms.length + 16) c) (ms.length + 16) (rfC (ms ++ marksR 16))) ∧ Below w.heap.size w w' := by
  have HR := Lib.hid hR
  clear hR
  go_enter Tryz.func248, Tryz.ntmps248
  go_wp2_with fail
  go_loopw [3, 4] (fun t3 t4 wr => ∃ i : Nat, i ≤ ms.length ∧ t4 = .int .i64 (i : Int) ∧ wr.ownsRow w.heap.size 77 3 t3 i (rfC (ms.take i)) ∧ Below w.heap.size w wr) (fun _ t4 _ => ms.length - (intOf t4).toNat)
  case atStart => exact ⟨0, by omega, rfl, World.ownsRow_nil _ _ _ _, Below.refl _ _⟩
  case round =>
    obtain ⟨i, hi, rfl, hown, hB⟩ := hrel
    obtain ⟨AA, ca, rfl⟩ := ownk_form hown
    have j0 : (0 : Int) ≤ (i : Int) := by omega
    rcases Nat.lt_or_ge i ms.length with hin | hin
    · have i0 : decide ((i : Int) < (ms.length : Int)) = true := by rw [decide_eq_true_eq]; omega
      have i1 : (i : Int) < (ms.length : Int) := by omega
      have hE := HR.out.new hB
      obtain ⟨g, o, c, hvl, c0, c1, c2⟩ := rf_at hE hin
      obtain ⟨hA, hcc⟩ : At = some ⟨g, o, none⟩ ∧ ct = c := by injection hvl with e1 _ e3; exact ⟨e1, e3⟩
      subst hA hcc
      have hT : Hid (rfC (ms.take (i + 1)) = rfC (ms.take i) ++ rfL ms[i]) := Lib.hid (by rw [List.take_add_one, List.getElem?_eq_getElem hin]; exact rfC_snoc _ _)
      obtain ⟨x, hxe⟩ : ∃ x, ms[i] = x := ⟨_, rfl⟩
      rw [hxe] at c0 c1 c2 hT
      have hbs := hB.size
      clear hvl hE hxe
      go_wp2_with (at_builtin; refine wpList_appk rfl _ _ _ rfl refKl _ _ _ _ rfl (hown.alloc _) _ _ _ _ rfl rfl (news_at _ _ (by simp) _ _) (by simp [Value.oneCell']) (by omega) (by omega) (hB.alloc hbs _) (by rw [World.size_alloc]; omega) ?_; intro v1 w1 ho1 hb1 hg1 hat1; obtain ⟨B1, q1, rfl⟩ := ownk_form ho1)
      go_roundw
      case rel => exact ⟨i + 1, by omega, by go_num, by rw [hT.out]; exact ho1, hb1⟩
      case measure => simp [intOf]; omega
    · have i0 : decide ((i : Int) < (ms.length : Int)) = false := by rw [decide_eq_false_iff_not]; omega
      obtain rfl : i = ms.length := by omega
      rw [List.take_length] at hown
      have HO : Hid (wr.ownsRow w.heap.size 77 3 (.slice AA ms.length ca) (ms.length + 0) (rfC (ms ++ marksR 0))) := Lib.hid (by rw [show marksR 0 = [] from rfl, List.append_nil]; exact hown)
      clear hown
      go_wp2_with fail
      go_loopw [3, 5] (fun t3 t5 wv => ∃ j : Nat, j ≤ 16 ∧ t5 = .int .i64 (j : Int) ∧ wv.ownsRow w.heap.size 77 3 t3 (ms.length + j) (rfC (ms ++ marksR j)) ∧ Below w.heap.size w wv) (fun _ t5 _ => 16 - (intOf t5).toNat)
      case atStart => exact ⟨0, by omega, rfl, HO.out, hB⟩
      case round =>
        clear HO hB
        obtain ⟨j, hj, rfl, hown, hB⟩ := hrel
        obtain ⟨A2, c2, rfl⟩ := ownk_form hown
        rcases Nat.lt_or_ge j 16 with hjn | hjn
        · have j1 : (j : Int) < 16 := by omega
          obtain ⟨y, hy⟩ : ∃ y, Hid (mkR 90 (j : Int) = y) := ⟨_, Lib.hid rfl⟩
          have hT : Hid (rfC (ms ++ marksR (j + 1)) = rfC (ms ++ marksR j) ++ rfL y) := Lib.hid (by rw [marksR_succ, hy.out, ← List.append_assoc, rfC_snoc])
          go_wp2_with (first | (go_at_call 137; refine (markRefs_any _ _ (by omega) (by omega) (by omega) (by omega) _ hy).mono ?_; rintro e w1 ⟨rfl, hb1⟩; have hownW := own_below hown hb1; have hBW := below_of_below hB hb1 hB.size; have hbs := hBW.size) | (at_builtin; refine wpList_appk rfl _ _ _ rfl refKl _ _ _ _ rfl (hownW.alloc _) _ _ _ _ rfl rfl (news_at _ _ (by simp) _ _) (by simp [Value.oneCell']) (by omega) (by omega) (hBW.alloc hbs _) (by rw [World.size_alloc]; omega) ?_; intro v1 w2 ho1 hb2 hg1 hat1; obtain ⟨B1, q1, rfl⟩ := ownk_form ho1))
          go_roundw
          case rel => exact ⟨j + 1, by omega, by go_num, by rw [hT.out]; exact ho1, hb2⟩
          case measure => simp [intOf]; omega
        · obtain rfl : j = 16 := by omega
          obtain ⟨g, cap, hv, _⟩ := hown.form (by omega)
          rw [hv] at hown
          rw [hv]
          clear hv
          go_wp2_with fail
          go_ret
          exact ⟨⟨g, cap, rfl, hown⟩, hB⟩
set_option maxRecDepth 100000 in
theorem lentR_any (ms : List Gw.Rf) (At : Option Addr) (ct : Nat) (w : World) (hR : SlA w (.slice At ms.length ct) ms.length (rfC ms)) (hn : ms.length ≤ 1100000) : Calls Tryz.prog 196 #[.slice At ms.length ct] w fun e w' => (∃ g c, e = .returned (.slice (some ⟨g, 0, none⟩) ms.length c) ∧ ms.length + 16 ≤ c ∧ w'.ownsRow w.heap.size 77 3 (.slice (some ⟨g, 0, none⟩) (ms.length + 16) c) (ms.length + 16) (rfC (ms ++ marksR 16))) ∧ Below w.heap.size w w' := by
  have HR := Lib.hid hR
  clear hR
  go_enter Tryz.func196, Tryz.ntmps196
  go_wp2_with fail
  refine (fullR_any ms At ct _ HR.out hn).mono ?_
  rintro e w1 ⟨⟨g, c, rfl, ho⟩, b1⟩
  have hc : ms.length + 16 ≤ c := by
    rcases own_two18 ho with ⟨h, _⟩ | ⟨b, c', h, hc⟩
    · cases h
    · simp only [Value.slice.injEq] at h
      omega
  have HO := Lib.hid ho
  have i1 : (0 : Int) ≤ (ms.length : Int) := by omega
  have i2 : (ms.length : Int) ≤ (c : Int) := by omega
  have i3 : ms.length ≤ c := by omega
  clear ho
  go_wp2_with fail
  go_ret
  exact ⟨⟨g, c, rfl, hc, HO.out⟩, b1⟩
theorem marksR_at (n i : Nat) (h : i < n) : (marksR n)[i]? = some (mkR 90 (i : Int)) := by simp [marksR, h]
theorem lentR_at (es : List Gw.Rf) (i : Nat) (h : i < (es ++ marksR 16).length) : (es ++ marksR 16)[i] = if h2 : i < es.length then es[i] else mkR 90 ((i : Int) - (es.length : Int)) := by
  split
  · rename_i h2
    rw [List.getElem_append_left h2]
  · rename_i h2
    rw [List.getElem_append_right (by omega)]
    have h3 : i - es.length < (marksR 16).length := by rw [List.length_append] at h; omega
    have e := marksR_at 16 (i - es.length) (by rw [marksR_len] at h3; exact h3)
    rw [List.getElem?_eq_getElem h3] at e
    rw [Option.some.inj e]
    congr 1
    omega
set_option maxRecDepth 100000 in
set_option maxHeartbeats 1000000 in
theorem equalIn_rf (z : Gw.Rf) (w : World) : (Op.equalIn 10000 77 (.agg #[.int .i64 z.kind, .int .i64 z.stage, .string (bs z.name)]) (.agg #[.int .i64 z.kind, .int .i64 z.stage, .string (bs z.name)])).run Tryz.prog w = .ok true w := by
  rw [run_equalIn_struct w 9999 _ _ _ (by kernel_rfl) (by kernel_rfl)]
  simp only [Program.fieldsOf, Tryz.underlying77]
  simp [go_sem, bs_list]
theorem neq_rf (z : Gw.Rf) (w : World) : (binOp .neq 77 (.agg #[.int .i64 z.kind, .int .i64 z.stage, .string (bs z.name)]) (.agg #[.int .i64 z.kind, .int .i64 z.stage, .string (bs z.name)])).run Tryz.prog w = .ok (.bool false) w := by
  rw [run_neq_struct, equalIn_rf]; rfl
set_option maxRecDepth 100000 in
set_option maxHeartbeats 1000000 in
theorem keptFullR_any (es E : List Gw.Rf) (hE : E = es ++ marksR 16) (A1 At : Option Addr) (c1 ct : Nat) (w : World) (hR1 : SlA w (.slice A1 E.length c1) E.length (rfC E)) (hR2 : SlA w (.slice At es.length ct) es.length (rfC es)) (hn : es.length ≤ 1100000) : Calls Tryz.prog 255 #[.slice A1 E.length c1, .slice At es.length ct] w fun e w' => e = .returned (.bool true) ∧ Below w.heap.size w w' := by
  have hl : E.length = es.length + 16 := by rw [hE, List.length_append, marksR_len]
  have HE : Hid (∀ i (h : i < E.length), E[i] = if h2 : i < es.length then es[i] else mkR 90 ((i : Int) - (es.length : Int))) := Lib.hid (by subst hE; exact lentR_at es)
  have HR1 := Lib.hid hR1
  have HR2 := Lib.hid hR2
  have t0 : ((E.length : Int) != (es.length : Int) + 16) = false := by rw [hl]; simp
  have hl1 : E.length ≤ es.length + 16 := by omega
  have hl2 : es.length + 16 ≤ E.length := by omega
  clear hR1 hR2 hE hl
  go_enter Tryz.func255, Tryz.ntmps255
  go_wp2_with fail
  go_loopw [5, 6] (fun t5 _ wr => ∃ i : Nat, i ≤ E.length ∧ t5 = .int .i64 (i : Int) ∧ Below w.heap.size w wr) (fun t5 _ _ => E.length - (intOf t5).toNat)
  case atStart => exact ⟨0, by omega, rfl, Below.refl _ _⟩
  case round =>
    obtain ⟨i, hi, rfl, hB⟩ := hrel
    have j0 : (0 : Int) ≤ (i : Int) := by omega
    rcases Nat.lt_or_ge i E.length with hin | hin
    · have i0 : decide ((i : Int) < (E.length : Int)) = true := by rw [decide_eq_true_eq]; omega
      have i1 : (i : Int) < (E.length : Int) := by omega
      have hw : IntKind.i64.wrap ((i : Int) - (es.length : Int)) = (i : Int) - (es.length : Int) := by
        unfold IntKind.wrap
        simp [IntKind.bits, IntKind.signed]
        omega
      obtain ⟨y, hy⟩ : ∃ y, Hid (mkR 90 ((i : Int) - (es.length : Int)) = y) := ⟨_, Lib.hid rfl⟩
      have hEi := HE.out i hin
      obtain ⟨z, hz⟩ : ∃ z, Hid (E[i] = z) := ⟨_, Lib.hid rfl⟩
      have xn := neq_rf z
      have HOUT : Hid (∀ w2, Below w.heap.size w w2 → ∃ g o, A1 = some ⟨g, o, none⟩ ∧ w2.cell? ⟨g, o + i * 3, none⟩ = some (.int .i64 z.kind) ∧ w2.cell? ⟨g, o + i * 3 + 1, none⟩ = some (.int .i64 z.stage) ∧ w2.cell? ⟨g, o + i * 3 + 2, none⟩ = some (.string (bs z.name))) := Lib.hid fun w2 hb2 => by
        obtain ⟨g, o, c, hvl, c0, c1', c2⟩ := rf_at (HR1.out.new hb2) hin
        rw [hz.out] at c0 c1' c2
        injection hvl with e1 _ _
        exact ⟨g, o, e1, c0, c1', c2⟩
      by_cases hlt : i < es.length
      · rw [dif_pos hlt, hz.out] at hEi
        have k0 : decide ((i : Int) < (es.length : Int)) = true := by rw [decide_eq_true_eq]; omega
        have k1 : (i : Int) < (es.length : Int) := by omega
        have HIN : Hid (∀ w2, Below w.heap.size w w2 → ∃ g o, At = some ⟨g, o, none⟩ ∧ w2.cell? ⟨g, o + i * 3, none⟩ = some (.int .i64 z.kind) ∧ w2.cell? ⟨g, o + i * 3 + 1, none⟩ = some (.int .i64 z.stage) ∧ w2.cell? ⟨g, o + i * 3 + 2, none⟩ = some (.string (bs z.name))) := Lib.hid fun w2 hb2 => by
          obtain ⟨g, o, c, hvl, c0, c1', c2⟩ := rf_at (HR2.out.new hb2) hlt
          rw [← hEi] at c0 c1' c2
          injection hvl with e1 _ _
          exact ⟨g, o, e1, c0, c1', c2⟩
        obtain ⟨g2, o2, hA2, _⟩ := HIN.out wr hB
        subst hA2
        obtain ⟨g1, o1, hA1, _⟩ := HOUT.out wr hB
        subst hA1
        have HIN1 : Hid (∀ w2, Below w.heap.size w w2 → w2.cell? ⟨g2, o2 + i * 3, none⟩ = some (.int .i64 z.kind) ∧ w2.cell? ⟨g2, o2 + i * 3 + 1, none⟩ = some (.int .i64 z.stage) ∧ w2.cell? ⟨g2, o2 + i * 3 + 2, none⟩ = some (.string (bs z.name))) := Lib.hid fun w2 hb2 => by
          obtain ⟨g', o', e, h⟩ := HIN.out w2 hb2
          injection e with e
          injection e with e3 e4
          subst e3 e4
          exact h
        have HOUT1 : Hid (∀ w2, Below w.heap.size w w2 → w2.cell? ⟨g1, o1 + i * 3, none⟩ = some (.int .i64 z.kind) ∧ w2.cell? ⟨g1, o1 + i * 3 + 1, none⟩ = some (.int .i64 z.stage) ∧ w2.cell? ⟨g1, o1 + i * 3 + 2, none⟩ = some (.string (bs z.name))) := Lib.hid fun w2 hb2 => by
          obtain ⟨g', o', e, h⟩ := HOUT.out w2 hb2
          injection e with e
          injection e with e3 e4
          subst e3 e4
          exact h
        clear hEi
        go_upto_region 9 with (first | (go_at_call 137; refine (markRefs_any _ _ (by omega) (by omega) (by omega) (by omega) _ hy).mono ?_; rintro e w1 ⟨rfl, hb1⟩; have hbw1 := below_of_below hB hb1 hB.size) | (refine wpList_store_st rfl _ _ _ rfl refTl w1.heap.size #[.int .i64 y.kind, .int .i64 y.stage, .string (bs y.name)] _ rfl rfl (Blk.new _ _ _) rfl rfl rfl ?_; intro w3 hB3 hg3 hz3; have hbw3 := (hbw1.alloc hbw1.size _).grown hg3 (hbw1.alloc hbw1.size _).size (fun k e => by cases e; exact hbw1.size); obtain ⟨d0, d1, d2⟩ := HIN1.out w3 hbw3) | (refine wpList_store_st rfl _ _ _ rfl refTl w1.heap.size #[.int .i64 z.kind, .int .i64 z.stage, .string (bs z.name)] _ rfl rfl hB3 rfl rfl rfl ?_; intro w4 hB4 hg4 hz4; have hbw4 := hbw3.grown hg4 hbw3.size (fun k e => by cases e; exact hbw1.size)))
        obtain ⟨e0, e1, e2⟩ := HOUT1.out w4 hbw4
        have f0 : w4.cell? ⟨w1.heap.size, 0, none⟩ = some (.int .i64 z.kind) := hB4.cell 0
        have f1 : w4.cell? ⟨w1.heap.size, 1, none⟩ = some (.int .i64 z.stage) := hB4.cell 1
        have f2 : w4.cell? ⟨w1.heap.size, 2, none⟩ = some (.string (bs z.name)) := hB4.cell 2
        try simp only [Act.put]
        go_cut [37] (fun s37 wx => s37 = .bool false ∧ Below w.heap.size w wx)
        case first =>
          go_quiet (fail)
          go_wp2_with fail
          go_meet
          exact ⟨rfl, by first | exact hbw4 | exact below_drewN hbw4 _⟩
        case rest =>
          obtain ⟨rfl, hbx⟩ := hcut
          clear e0 e1 e2 f0 f1 f2 xn
          go_wp2_with fail
          go_roundw
          case rel => exact ⟨i + 1, by omega, by go_num, hbx⟩
          case measure => simp [intOf]; omega
      · rw [dif_neg hlt, hz.out, hy.out] at hEi
        subst hEi
        have k0 : decide ((i : Int) < (es.length : Int)) = false := by rw [decide_eq_false_iff_not]; omega
        have k1 : ¬ (i < es.length) := hlt
        obtain ⟨g1, o1, hA1, _⟩ := HOUT.out wr hB
        subst hA1
        have HOUT1 : Hid (∀ w2, Below w.heap.size w w2 → w2.cell? ⟨g1, o1 + i * 3, none⟩ = some (.int .i64 z.kind) ∧ w2.cell? ⟨g1, o1 + i * 3 + 1, none⟩ = some (.int .i64 z.stage) ∧ w2.cell? ⟨g1, o1 + i * 3 + 2, none⟩ = some (.string (bs z.name))) := Lib.hid fun w2 hb2 => by
          obtain ⟨g', o', e, h⟩ := HOUT.out w2 hb2
          injection e with e
          injection e with e3 e4
          subst e3 e4
          exact h
        go_upto_region 9 with (first | (go_at_call 137; refine (markRefs_any _ _ (by omega) (by omega) (by omega) (by omega) _ hy).mono ?_; rintro e w1 ⟨rfl, hb1⟩; have hbw1 := below_of_below hB hb1 hB.size) | (refine wpList_store_st rfl _ _ _ rfl refTl w1.heap.size #[.int .i64 z.kind, .int .i64 z.stage, .string (bs z.name)] _ rfl rfl (Blk.new _ _ _) rfl rfl rfl ?_; intro w3 hB3 hg3 hz3; have hbw3 := (hbw1.alloc hbw1.size _).grown hg3 (hbw1.alloc hbw1.size _).size (fun k e => by cases e; exact hbw1.size)))
        obtain ⟨e0, e1, e2⟩ := HOUT1.out w3 hbw3
        have f0 : w3.cell? ⟨w1.heap.size, 0, none⟩ = some (.int .i64 z.kind) := hB3.cell 0
        have f1 : w3.cell? ⟨w1.heap.size, 1, none⟩ = some (.int .i64 z.stage) := hB3.cell 1
        have f2 : w3.cell? ⟨w1.heap.size, 2, none⟩ = some (.string (bs z.name)) := hB3.cell 2
        try simp only [Act.put]
        go_cut [37] (fun s37 wx => s37 = .bool false ∧ Below w.heap.size w wx)
        case first =>
          go_quiet (fail)
          go_wp2_with fail
          go_meet
          exact ⟨rfl, by first | exact hbw3 | exact below_drewN hbw3 _⟩
        case rest =>
          obtain ⟨rfl, hbx⟩ := hcut
          clear e0 e1 e2 f0 f1 f2 xn
          go_wp2_with fail
          go_roundw
          case rel => exact ⟨i + 1, by omega, by go_num, hbx⟩
          case measure => simp [intOf]; omega
    · have i0 : decide ((i : Int) < (E.length : Int)) = false := by rw [decide_eq_false_iff_not]; omega
      go_wp2_with fail
      go_ret
      exact ⟨rfl, hB⟩
set_option maxRecDepth 100000 in
theorem keptR_any (es : List Gw.Rf) (g c : Nat) (At : Option Addr) (ct : Nat) (w : World) (ho : SlA w (.slice (some ⟨g, 0, none⟩) (es.length + 16) c) (es.length + 16) (rfC (es ++ marksR 16))) (hc : es.length + 16 ≤ c) (hR2 : SlA w (.slice At es.length ct) es.length (rfC es)) (hn : es.length ≤ 1100000) :
    Calls Tryz.prog 208 #[.slice (some ⟨g, 0, none⟩) es.length c, .slice At es.length ct] w fun e w' => e = .returned (.bool true) ∧ Below w.heap.size w w' := by
  obtain ⟨E, hE⟩ : ∃ E, E = es ++ marksR 16 := ⟨_, rfl⟩
  have hl : E.length = es.length + 16 := by rw [hE, List.length_append, marksR_len]
  have HR1 : Hid (SlA w (.slice (some ⟨g, 0, none⟩) E.length c) E.length (rfC E)) := Lib.hid (by rw [← hE, ← hl] at ho; exact ho)
  have HR2 := Lib.hid hR2
  have HE := Lib.hid hE
  have t0 : ((es.length : Int) != (es.length : Int)) = false := by simp
  have i1 : (0 : Int) ≤ (es.length : Int) + 16 := by omega
  have i2 : (es.length : Int) + 16 ≤ (c : Int) := by omega
  clear hR2 hE ho
  go_enter Tryz.func208, Tryz.ntmps208
  go_wp2_with fail
  have hk := keptFullR_any es E HE.out (some ⟨g, 0, none⟩) At c ct w HR1.out HR2.out hn
  rw [hl] at hk
  refine hk.mono ?_
  rintro e w1 ⟨rfl, b1⟩
  go_wp2_with fail
  go_ret
  exact ⟨rfl, b1⟩
end Go.Proofs.YtnlkmljdcmfogaaGreatDoor
