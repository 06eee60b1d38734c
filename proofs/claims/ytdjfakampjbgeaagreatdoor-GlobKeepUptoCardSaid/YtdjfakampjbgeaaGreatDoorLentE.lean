/- stratakit.FullEntries, LentEntries, KeptFullEntries, KeptEntries, walked. -/
import Derived.Test.YtdjfakampjbgeaaGreatDoorApartE
namespace Go.Proofs.YtdjfakampjbgeaaGreatDoor
open Go Go.RowKit

/-- the marks behind. -/
def marksE (n : Nat) : List En := (List.range n).map fun i : Nat => mkE 90 (i : Int)
theorem marksE_succ (n : Nat) : marksE (n + 1) = marksE n ++ [mkE 90 (n : Int)] := by simp [marksE, List.range_succ]
theorem marksE_len (n : Nat) : (marksE n).length = n := by simp [marksE]
theorem marksE_at (n i : Nat) (h : i < n) : (marksE n)[i]? = some (mkE 90 (i : Int)) := by simp [marksE, h]
theorem lent_at (es : List En) (i : Nat) (h : i < (es ++ marksE 16).length) : (es ++ marksE 16)[i] = if h2 : i < es.length then es[i] else mkE 90 ((i : Int) - (es.length : Int)) := by
  split
  · rename_i h2
    rw [List.getElem_append_left h2]
  · rename_i h2
    rw [List.getElem_append_right (by omega)]
    have h3 : i - es.length < (marksE 16).length := by rw [List.length_append] at h; omega
    have e := marksE_at 16 (i - es.length) (by rw [marksE_len] at h3; exact h3)
    rw [List.getElem?_eq_getElem h3] at e
    rw [Option.some.inj e]
    congr 1
    omega
set_option maxRecDepth 100000 in
set_option maxHeartbeats 4000000 in
theorem full_any (es : List En) (At : Option Addr) (ct : Nat) (w : World) {S : Nat → Prop} (hR : RE w S (.slice At es.length ct) es) (hn : es.length ≤ 1100000) : Calls Tryz.prog 30 #[.slice At es.length ct] w fun e w' => (∃ g c, e = .returned (.slice (some ⟨g, 0, none⟩) (es.length + 16) c) ∧ w'.ownsRow w.heap.size 38 5 (.slice (some ⟨g, 0, none⟩) (es.length + 16) c) (es.length + 16) (enCs (es ++ marksE 16))) ∧ Below w.heap.size w w' := by
  have HR := Lib.hid hR
  clear hR
  go_enter Tryz.func30, Tryz.ntmps30
  go_wp2_with fail
  go_loopw [3, 4] (fun t3 t4 wr => ∃ i : Nat, i ≤ es.length ∧ t4 = .int .i64 (i : Int) ∧ wr.ownsRow w.heap.size 38 5 t3 i (enCs (es.take i)) ∧ Below w.heap.size w wr) (fun _ t4 _ => es.length - (intOf t4).toNat)
  case atStart => exact ⟨0, by omega, rfl, World.ownsRow_nil _ _ _ _, Below.refl _ _⟩
  case round =>
    obtain ⟨i, hi, rfl, hown, hB⟩ := hrel
    obtain ⟨AA, ca, rfl⟩ := ownk_form hown
    have j0 : (0 : Int) ≤ (i : Int) := by omega
    rcases Nat.lt_or_ge i es.length with hin | hin
    · have i0 : decide ((i : Int) < (es.length : Int)) = true := by rw [decide_eq_true_eq]; omega
      have i1 : (i : Int) < (es.length : Int) := by omega
      have hE := HR.out.below hB
      obtain ⟨g, o, c, hvl, c0, c1, c2, c3, c4, _⟩ := hE.at_ hin
      obtain ⟨hA, hcc⟩ : At = some ⟨g, o, none⟩ ∧ ct = c := by injection hvl with e1 _ e3; exact ⟨e1, e3⟩
      subst hA hcc
      have hT : Hid (enCs (es.take (i + 1)) = enCs (es.take i) ++ enL es[i]) := Lib.hid (by rw [List.take_add_one, List.getElem?_eq_getElem hin]; exact enCs_snoc _ _)
      obtain ⟨x, hxe⟩ : ∃ x, es[i] = x := ⟨_, rfl⟩
      rw [hxe] at c0 c1 c2 c3 c4 hT
      have hbs := hB.size
      clear hvl hE hxe
      go_wp2_with (at_builtin; refine wpList_appk rfl _ _ _ rfl entryK _ _ _ _ rfl (hown.alloc _) _ _ _ _ rfl rfl (news_at _ _ (by simp) _ _) (by simp [Value.oneCell']) (by omega) (by omega) (hB.alloc hbs _) (by rw [World.size_alloc]; omega) ?_; intro v1 w1 ho1 hb1 hg1 hat1; obtain ⟨B1, q1, rfl⟩ := ownk_form ho1)
      go_roundw
      case rel => exact ⟨i + 1, by omega, by go_num, by rw [hT.out]; exact ho1, hb1⟩
      case measure => simp [intOf]; omega
    · have i0 : decide ((i : Int) < (es.length : Int)) = false := by rw [decide_eq_false_iff_not]; omega
      obtain rfl : i = es.length := by omega
      rw [List.take_length] at hown
      have HO : Hid (wr.ownsRow w.heap.size 38 5 (.slice AA es.length ca) (es.length + 0) (enCs (es ++ marksE 0))) := Lib.hid (by rw [show marksE 0 = [] from rfl, List.append_nil]; exact hown)
      clear hown
      go_wp2_with fail
      go_loopw [3, 5] (fun t3 t5 wv => ∃ j : Nat, j ≤ 16 ∧ t5 = .int .i64 (j : Int) ∧ wv.ownsRow w.heap.size 38 5 t3 (es.length + j) (enCs (es ++ marksE j)) ∧ Below w.heap.size w wv) (fun _ t5 _ => 16 - (intOf t5).toNat)
      case atStart => exact ⟨0, by omega, rfl, HO.out, hB⟩
      case round =>
        clear HO hB
        obtain ⟨j, hj, rfl, hown, hB⟩ := hrel
        obtain ⟨A2, c2, rfl⟩ := ownk_form hown
        rcases Nat.lt_or_ge j 16 with hjn | hjn
        · have j1 : (j : Int) < 16 := by omega
          obtain ⟨y, hy⟩ : ∃ y, Hid (mkE 90 (j : Int) = y) := ⟨_, Lib.hid rfl⟩
          have hT : Hid (enCs (es ++ marksE (j + 1)) = enCs (es ++ marksE j) ++ enL y) := Lib.hid (by rw [marksE_succ, hy.out, ← List.append_assoc, enCs_snoc])
          go_wp2_with (first | (go_at_call 33; refine (markEn_hid _ _ (by omega) (by omega) _ hy).mono ?_; rintro e w1 ⟨rfl, hb1⟩; have hownW := own_below hown hb1; have hBW := below_of_below hB hb1 hB.size; have hbs := hBW.size) | (at_builtin; refine wpList_appk rfl _ _ _ rfl entryK _ _ _ _ rfl (hownW.alloc _) _ _ _ _ rfl rfl (news_at _ _ (by simp) _ _) (by simp [Value.oneCell']) (by omega) (by omega) (hBW.alloc hbs _) (by rw [World.size_alloc]; omega) ?_; intro v1 w2 ho1 hb2 hg1 hat1; obtain ⟨B1, q1, rfl⟩ := ownk_form ho1))
          go_roundw
          case rel => exact ⟨j + 1, by omega, by go_num, by rw [hT.out]; exact ho1, hb2⟩
          case measure => simp [intOf]; omega
        · obtain rfl : j = 16 := by omega
          obtain ⟨g, cap, hv, _⟩ := hown.form (by omega)
          rw [hv] at hown
          rw [hv]
          clear hv
          go_wp2_with fail
          go_ret
          exact ⟨⟨g, cap, rfl, hown⟩, hB⟩
set_option maxRecDepth 100000 in
theorem lent_any (es : List En) (At : Option Addr) (ct : Nat) (w : World) {S : Nat → Prop} (hR : RE w S (.slice At es.length ct) es) (hn : es.length ≤ 1100000) : Calls Tryz.prog 10 #[.slice At es.length ct] w fun e w' => (∃ g c, e = .returned (.slice (some ⟨g, 0, none⟩) es.length c) ∧ es.length + 16 ≤ c ∧ w'.ownsRow w.heap.size 38 5 (.slice (some ⟨g, 0, none⟩) (es.length + 16) c) (es.length + 16) (enCs (es ++ marksE 16))) ∧ Below w.heap.size w w' := by
  have HR := Lib.hid hR
  clear hR
  go_enter Tryz.func10, Tryz.ntmps10
  go_wp2_with fail
  refine (full_any es At ct _ HR.out hn).mono ?_
  rintro e w1 ⟨⟨g, c, rfl, ho⟩, b1⟩
  have hc : es.length + 16 ≤ c := by
    rcases Ak.own_two ho with ⟨h, _⟩ | ⟨b, c', h, _, _, hc⟩
    · cases h
    · simp only [Value.slice.injEq] at h
      omega
  have HO := Lib.hid ho
  have i1 : (0 : Int) ≤ (es.length : Int) := by omega
  have i2 : (es.length : Int) ≤ (c : Int) := by omega
  have i3 : es.length ≤ c := by omega
  clear ho
  go_wp2_with fail
  go_ret
  exact ⟨⟨g, c, rfl, hc, HO.out⟩, b1⟩
set_option maxRecDepth 100000 in
set_option maxHeartbeats 4000000 in
theorem keptFull_any (es E : List En) (hE : E = es ++ marksE 16) (A1 At : Option Addr) (c1 ct : Nat) (w : World) {S1 S2 : Nat → Prop} (hR1 : RE w S1 (.slice A1 E.length c1) E) (hR2 : RE w S2 (.slice At es.length ct) es) (hn : es.length ≤ 1100000) : Calls Tryz.prog 32 #[.slice A1 E.length c1, .slice At es.length ct] w fun e w' => e = .returned (.bool true) ∧ Below w.heap.size w w' := by
  have hl : E.length = es.length + 16 := by rw [hE, List.length_append, marksE_len]
  have HE : Hid (∀ i (h : i < E.length), E[i] = if h2 : i < es.length then es[i] else mkE 90 ((i : Int) - (es.length : Int))) := Lib.hid (by subst hE; exact lent_at es)
  have HR1 := Lib.hid hR1
  have HR2 := Lib.hid hR2
  have t0 : ((E.length : Int) != (es.length : Int) + 16) = false := by rw [hl]; simp
  have hl1 : E.length ≤ es.length + 16 := by omega
  have hl2 : es.length + 16 ≤ E.length := by omega
  clear hR1 hR2 hE hl
  go_enter Tryz.func32, Tryz.ntmps32
  go_wp2_with fail
  go_loopw [5, 6] (fun t5 _ wr => ∃ i : Nat, i ≤ E.length ∧ t5 = .int .i64 (i : Int) ∧ Below w.heap.size w wr) (fun t5 _ _ => E.length - (intOf t5).toNat)
  case atStart => exact ⟨0, by omega, rfl, Below.refl _ _⟩
  case round =>
    obtain ⟨i, hi, rfl, hB⟩ := hrel
    have j0 : (0 : Int) ≤ (i : Int) := by omega
    rcases Nat.lt_or_ge i E.length with hin | hin
    · have i0 : decide ((i : Int) < (E.length : Int)) = true := by rw [decide_eq_true_eq]; omega
      have i1 : (i : Int) < (E.length : Int) := by omega
      have hw : IntKind.i64.wrap ((i : Int) - (es.length : Int)) = (i : Int) - (es.length : Int) := by
        unfold IntKind.wrap
        simp [IntKind.bits, IntKind.signed]
        omega
      obtain ⟨y, hy⟩ : ∃ y, Hid (mkE 90 ((i : Int) - (es.length : Int)) = y) := ⟨_, Lib.hid rfl⟩
      have hEi := HE.out i hin
      obtain ⟨z, hz⟩ : ∃ z, Hid (E[i] = z) := ⟨_, Lib.hid rfl⟩
      have xn : ∀ wz, (binOp .neq 38 (.agg (enC z)) (.agg (enC z))).run Tryz.prog wz = .ok (.bool false) wz := fun wz => by rw [run_neq_en, enEq_iff]; simp
      unfold enC at xn
      have HOUT : Hid (∀ w2, Below w.heap.size w w2 → ∃ g o, A1 = some ⟨g, o, none⟩ ∧ w2.cell? ⟨g, o + i * 5, none⟩ = some (.string (bs z.path)) ∧ w2.cell? ⟨g, o + i * 5 + 1, none⟩ = some (.int .i64 z.kind) ∧
          w2.cell? ⟨g, o + i * 5 + 2, none⟩ = some (.int .i64 z.mode) ∧ w2.cell? ⟨g, o + i * 5 + 3, none⟩ = some (.string (bs z.data)) ∧ w2.cell? ⟨g, o + i * 5 + 4, none⟩ = some (.string (bs z.link))) := Lib.hid fun w2 hb2 => by
        obtain ⟨g, o, c, hvl, c0, c1', c2, c3, c4, _⟩ := (HR1.out.below hb2).at_ hin
        rw [hz.out] at c0 c1' c2 c3 c4
        injection hvl with e1 _ _
        exact ⟨g, o, e1, c0, c1', c2, c3, c4⟩
      by_cases hlt : i < es.length
      · rw [dif_pos hlt, hz.out] at hEi
        have k0 : decide ((i : Int) < (es.length : Int)) = true := by rw [decide_eq_true_eq]; omega
        have k1 : (i : Int) < (es.length : Int) := by omega
        have HIN : Hid (∀ w2, Below w.heap.size w w2 → ∃ g o, At = some ⟨g, o, none⟩ ∧ w2.cell? ⟨g, o + i * 5, none⟩ = some (.string (bs z.path)) ∧ w2.cell? ⟨g, o + i * 5 + 1, none⟩ = some (.int .i64 z.kind) ∧
            w2.cell? ⟨g, o + i * 5 + 2, none⟩ = some (.int .i64 z.mode) ∧ w2.cell? ⟨g, o + i * 5 + 3, none⟩ = some (.string (bs z.data)) ∧ w2.cell? ⟨g, o + i * 5 + 4, none⟩ = some (.string (bs z.link))) := Lib.hid fun w2 hb2 => by
          obtain ⟨g, o, c, hvl, c0, c1', c2, c3, c4, _⟩ := (HR2.out.below hb2).at_ hlt
          rw [← hEi] at c0 c1' c2 c3 c4
          injection hvl with e1 _ _
          exact ⟨g, o, e1, c0, c1', c2, c3, c4⟩
        obtain ⟨g2, o2, hA2, _⟩ := HIN.out wr hB
        subst hA2
        obtain ⟨g1, o1, hA1, _⟩ := HOUT.out wr hB
        subst hA1
        have HIN1 : Hid (∀ w2, Below w.heap.size w w2 → w2.cell? ⟨g2, o2 + i * 5, none⟩ = some (.string (bs z.path)) ∧ w2.cell? ⟨g2, o2 + i * 5 + 1, none⟩ = some (.int .i64 z.kind) ∧
            w2.cell? ⟨g2, o2 + i * 5 + 2, none⟩ = some (.int .i64 z.mode) ∧ w2.cell? ⟨g2, o2 + i * 5 + 3, none⟩ = some (.string (bs z.data)) ∧ w2.cell? ⟨g2, o2 + i * 5 + 4, none⟩ = some (.string (bs z.link))) := Lib.hid fun w2 hb2 => by
          obtain ⟨g', o', e, h⟩ := HIN.out w2 hb2
          injection e with e
          injection e with e3 e4
          subst e3 e4
          exact h
        have HOUT1 : Hid (∀ w2, Below w.heap.size w w2 → w2.cell? ⟨g1, o1 + i * 5, none⟩ = some (.string (bs z.path)) ∧ w2.cell? ⟨g1, o1 + i * 5 + 1, none⟩ = some (.int .i64 z.kind) ∧
            w2.cell? ⟨g1, o1 + i * 5 + 2, none⟩ = some (.int .i64 z.mode) ∧ w2.cell? ⟨g1, o1 + i * 5 + 3, none⟩ = some (.string (bs z.data)) ∧ w2.cell? ⟨g1, o1 + i * 5 + 4, none⟩ = some (.string (bs z.link))) := Lib.hid fun w2 hb2 => by
          obtain ⟨g', o', e, h⟩ := HOUT.out w2 hb2
          injection e with e
          injection e with e3 e4
          subst e3 e4
          exact h
        clear hEi
        go_upto_region 9 with (first | (go_at_call 33; refine (markEn_hid _ _ (by omega) (by omega) _ hy).mono ?_; rintro e w1 ⟨rfl, hb1⟩; have hbw1 := below_of_below hB hb1 hB.size) | (refine wpList_store_en rfl _ _ rfl w1.heap.size y rfl rfl _ (Blk.new _ _ _) rfl ?_; intro w3 hB3 hb3 hz3; have hbw3 := below_of_below hbw1 (((Below.refl _ _).alloc (Nat.le_refl _) _).trans hb3) hbw1.size; obtain ⟨d0, d1, d2, d3, d4⟩ := HIN1.out w3 hbw3) | (refine wpList_store_en rfl _ _ rfl w1.heap.size z rfl rfl _ hB3 rfl ?_; intro w4 hB4 hb4 hz4; have hbw4 := hbw3.trans (hb4.mono hbw1.size)))
        obtain ⟨e0, e1, e2, e3, e4⟩ := HOUT1.out w4 hbw4
        have f0 : w4.cell? ⟨w1.heap.size, 0, none⟩ = some (.string (bs z.path)) := hB4.cell 0
        have f1 : w4.cell? ⟨w1.heap.size, 1, none⟩ = some (.int .i64 z.kind) := hB4.cell 1
        have f2 : w4.cell? ⟨w1.heap.size, 2, none⟩ = some (.int .i64 z.mode) := hB4.cell 2
        have f3 : w4.cell? ⟨w1.heap.size, 3, none⟩ = some (.string (bs z.data)) := hB4.cell 3
        have f4 : w4.cell? ⟨w1.heap.size, 4, none⟩ = some (.string (bs z.link)) := hB4.cell 4
        try simp only [Act.put]
        go_cut [37] (fun s37 wx => s37 = .bool false ∧ Below w.heap.size w wx)
        case first =>
          go_quiet (fail)
          go_wp2_with fail
          go_meet
          exact ⟨rfl, by first | exact hbw4 | exact below_drewN hbw4 _⟩
        case rest =>
          obtain ⟨rfl, hbx⟩ := hcut
          clear e0 e1 e2 e3 e4 f0 f1 f2 f3 f4 xn
          go_wp2_with fail
          go_roundw
          case rel => exact ⟨i + 1, by omega, by go_num, hbx⟩
          case measure => simp [intOf]; omega
      · rw [dif_neg hlt, hz.out, hy.out] at hEi
        subst hEi
        have k0 : decide ((i : Int) < (es.length : Int)) = false := by rw [decide_eq_false_iff_not]; omega
        have k1 : ¬ (i < es.length) := hlt
        obtain ⟨g1, o1, hA1, _⟩ := HOUT.out wr hB
        subst hA1
        have HOUT1 : Hid (∀ w2, Below w.heap.size w w2 → w2.cell? ⟨g1, o1 + i * 5, none⟩ = some (.string (bs z.path)) ∧ w2.cell? ⟨g1, o1 + i * 5 + 1, none⟩ = some (.int .i64 z.kind) ∧
            w2.cell? ⟨g1, o1 + i * 5 + 2, none⟩ = some (.int .i64 z.mode) ∧ w2.cell? ⟨g1, o1 + i * 5 + 3, none⟩ = some (.string (bs z.data)) ∧ w2.cell? ⟨g1, o1 + i * 5 + 4, none⟩ = some (.string (bs z.link))) := Lib.hid fun w2 hb2 => by
          obtain ⟨g', o', e, h⟩ := HOUT.out w2 hb2
          injection e with e
          injection e with e3 e4
          subst e3 e4
          exact h
        go_upto_region 9 with (first | (go_at_call 33; refine (markEn_hid _ _ (by omega) (by omega) _ hy).mono ?_; rintro e w1 ⟨rfl, hb1⟩; have hbw1 := below_of_below hB hb1 hB.size) | (refine wpList_store_en rfl _ _ rfl w1.heap.size z rfl rfl _ (Blk.new _ _ _) rfl ?_; intro w3 hB3 hb3 hz3; have hbw3 := below_of_below hbw1 (((Below.refl _ _).alloc (Nat.le_refl _) _).trans hb3) hbw1.size))
        obtain ⟨e0, e1, e2, e3, e4⟩ := HOUT1.out w3 hbw3
        have f0 : w3.cell? ⟨w1.heap.size, 0, none⟩ = some (.string (bs z.path)) := hB3.cell 0
        have f1 : w3.cell? ⟨w1.heap.size, 1, none⟩ = some (.int .i64 z.kind) := hB3.cell 1
        have f2 : w3.cell? ⟨w1.heap.size, 2, none⟩ = some (.int .i64 z.mode) := hB3.cell 2
        have f3 : w3.cell? ⟨w1.heap.size, 3, none⟩ = some (.string (bs z.data)) := hB3.cell 3
        have f4 : w3.cell? ⟨w1.heap.size, 4, none⟩ = some (.string (bs z.link)) := hB3.cell 4
        try simp only [Act.put]
        go_cut [37] (fun s37 wx => s37 = .bool false ∧ Below w.heap.size w wx)
        case first =>
          go_quiet (fail)
          go_wp2_with fail
          go_meet
          exact ⟨rfl, by first | exact hbw3 | exact below_drewN hbw3 _⟩
        case rest =>
          obtain ⟨rfl, hbx⟩ := hcut
          clear e0 e1 e2 e3 e4 f0 f1 f2 f3 f4 xn
          go_wp2_with fail
          go_roundw
          case rel => exact ⟨i + 1, by omega, by go_num, hbx⟩
          case measure => simp [intOf]; omega
    · have i0 : decide ((i : Int) < (E.length : Int)) = false := by rw [decide_eq_false_iff_not]; omega
      go_wp2_with fail
      go_ret
      exact ⟨rfl, hB⟩
set_option maxRecDepth 100000 in
theorem kept_any (es : List En) (g c : Nat) (At : Option Addr) (ct : Nat) (w : World) {base : Nat} {S2 : Nat → Prop} (ho : w.ownsRow base 38 5 (.slice (some ⟨g, 0, none⟩) (es.length + 16) c) (es.length + 16) (enCs (es ++ marksE 16))) (hc : es.length + 16 ≤ c) (hR2 : RE w S2 (.slice At es.length ct) es) (hn : es.length ≤ 1100000) :
    Calls Tryz.prog 13 #[.slice (some ⟨g, 0, none⟩) es.length c, .slice At es.length ct] w fun e w' => e = .returned (.bool true) ∧ Below w.heap.size w w' := by
  obtain ⟨E, hE⟩ : ∃ E, E = es ++ marksE 16 := ⟨_, rfl⟩
  have hl : E.length = es.length + 16 := by rw [hE, List.length_append, marksE_len]
  have HR1 : Hid (RE w (fun _ => True) (.slice (some ⟨g, 0, none⟩) E.length c) E) := Lib.hid (by rw [← hE, ← hl] at ho; exact RC.own ho fun _ _ => trivial)
  have HR2 := Lib.hid hR2
  have HE := Lib.hid hE
  have t0 : ((es.length : Int) != (es.length : Int)) = false := by simp
  have i1 : (0 : Int) ≤ (es.length : Int) + 16 := by omega
  have i2 : (es.length : Int) + 16 ≤ (c : Int) := by omega
  clear hR2 hE ho
  go_enter Tryz.func13, Tryz.ntmps13
  go_wp2_with fail
  have hk := keptFull_any es E HE.out (some ⟨g, 0, none⟩) At c ct w HR1.out HR2.out hn
  rw [hl] at hk
  refine hk.mono ?_
  rintro e w1 ⟨rfl, b1⟩
  go_wp2_with fail
  go_ret
  exact ⟨rfl, b1⟩
end Go.Proofs.YtdjfakampjbgeaaGreatDoor
