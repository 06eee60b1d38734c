/- stratakit.KeptFullMarks, KeptMarks, walked (printed by wip/genkeptm.py). -/
import Derived.Test.YtpgnfianffjpnaaGreatDoorLentM
import Derived.Laws.StructEq
import Derived.BigQuiet
namespace Go.Proofs.YtpgnfianffjpnaaGreatDoor
open Go Go.RowKit
theorem marksM_at (n i : Nat) (h : i < n) : (marksM n)[i]? = some (mkM 90 (i : Int)) := by simp [marksM, h]
theorem lentM_at (es : List Lx.Mk) (i : Nat) (h : i < (es ++ marksM 16).length) : (es ++ marksM 16)[i] = if h2 : i < es.length then es[i] else mkM 90 ((i : Int) - (es.length : Int)) := by
  split
  · rename_i h2
    rw [List.getElem_append_left h2]
  · rename_i h2
    rw [List.getElem_append_right (by omega)]
    have h3 : i - es.length < (marksM 16).length := by rw [List.length_append] at h; omega
    have e := marksM_at 16 (i - es.length) (by rw [marksM_len] at h3; exact h3)
    rw [List.getElem?_eq_getElem h3] at e
    rw [Option.some.inj e]
    congr 1
    omega
set_option maxRecDepth 100000 in
set_option maxHeartbeats 1000000 in
theorem equalIn_mk (z : Lx.Mk) (w : World) : (Op.equalIn 10000 136 (.agg #[.int .i64 z.at_, .int .i64 z.line, .int .i64 z.col]) (.agg #[.int .i64 z.at_, .int .i64 z.line, .int .i64 z.col])).run Tryz.prog w = .ok true w := by
  rw [run_equalIn_struct w 9999 _ _ _ (by kernel_rfl) (by kernel_rfl)]
  simp only [Program.fieldsOf, Tryz.underlying136]
  simp [go_sem]
theorem neq_mk (z : Lx.Mk) (w : World) : (binOp .neq 136 (.agg #[.int .i64 z.at_, .int .i64 z.line, .int .i64 z.col]) (.agg #[.int .i64 z.at_, .int .i64 z.line, .int .i64 z.col])).run Tryz.prog w = .ok (.bool false) w := by
  rw [run_neq_struct, equalIn_mk]; rfl
set_option maxRecDepth 100000 in
set_option maxHeartbeats 1000000 in
theorem keptFullM_any (es E : List Lx.Mk) (hE : E = es ++ marksM 16) (A1 At : Option Addr) (c1 ct : Nat) (w : World) (hR1 : RdRow w (.slice A1 E.length c1) E.length (mkC E)) (hR2 : RdRow w (.slice At es.length ct) es.length (mkC es)) (hn : es.length ≤ 1100000) : Calls Tryz.prog 131 #[.slice A1 E.length c1, .slice At es.length ct] w fun e w' => e = .returned (.bool true) ∧ Below w.heap.size w w' := by
  have hl : E.length = es.length + 16 := by rw [hE, List.length_append, marksM_len]
  have HE : Hid (∀ i (h : i < E.length), E[i] = if h2 : i < es.length then es[i] else mkM 90 ((i : Int) - (es.length : Int))) := Lib.hid (by subst hE; exact lentM_at es)
  have HR1 := Lib.hid hR1
  have HR2 := Lib.hid hR2
  have t0 : ((E.length : Int) != (es.length : Int) + 16) = false := by rw [hl]; simp
  have hl1 : E.length ≤ es.length + 16 := by omega
  have hl2 : es.length + 16 ≤ E.length := by omega
  clear hR1 hR2 hE hl
  go_enter Tryz.func131, Tryz.ntmps131
  go_wp2_with fail
  go_loopw [5, 6] (fun t5 _ wr => ∃ i : Nat, i ≤ E.length ∧ t5 = .int .i64 (i : Int) ∧ Below w.heap.size w wr) (fun t5 _ _ => E.length - (intOf t5).toNat)
  case atStart => exact ⟨0, by omega, rfl, Below.refl _ _⟩
  case round =>
    obtain ⟨i, hi, rfl, hB⟩ := hrel
    have j0 : (0 : Int) ≤ (i : Int) := by omega
    rcases Nat.lt_or_ge i E.length with hin | hin
    · have i0 : decide ((i : Int) < (E.length : Int)) = true := by rw [decide_eq_true_eq]; omega
      have i1 : (i : Int) < (E.length : Int) := by omega
      have hw : IntKind.i64.wrap ((i : Int) - (es.length : Int)) = (i : Int) - (es.length : Int) := by
        unfold IntKind.wrap
        simp [IntKind.bits, IntKind.signed]
        omega
      obtain ⟨y, hy⟩ : ∃ y, Hid (mkM 90 ((i : Int) - (es.length : Int)) = y) := ⟨_, Lib.hid rfl⟩
      have hEi := HE.out i hin
      obtain ⟨z, hz⟩ : ∃ z, Hid (E[i] = z) := ⟨_, Lib.hid rfl⟩
      have xn := neq_mk z
      have HOUT : Hid (∀ w2, Below w.heap.size w w2 → ∃ g o, A1 = some ⟨g, o, none⟩ ∧ w2.cell? ⟨g, o + i * 3, none⟩ = some (.int .i64 z.at_) ∧ w2.cell? ⟨g, o + i * 3 + 1, none⟩ = some (.int .i64 z.line) ∧ w2.cell? ⟨g, o + i * 3 + 2, none⟩ = some (.int .i64 z.col)) := Lib.hid fun w2 hb2 => by
        obtain ⟨g, o, c, hvl, c0, c1', c2⟩ := (HR1.out.new hb2).mark i hin
        rw [hz.out] at c0 c1' c2
        injection hvl with e1 _ _
        exact ⟨g, o, e1, c0, c1', c2⟩
      by_cases hlt : i < es.length
      · rw [dif_pos hlt, hz.out] at hEi
        have k0 : decide ((i : Int) < (es.length : Int)) = true := by rw [decide_eq_true_eq]; omega
        have k1 : (i : Int) < (es.length : Int) := by omega
        have HIN : Hid (∀ w2, Below w.heap.size w w2 → ∃ g o, At = some ⟨g, o, none⟩ ∧ w2.cell? ⟨g, o + i * 3, none⟩ = some (.int .i64 z.at_) ∧ w2.cell? ⟨g, o + i * 3 + 1, none⟩ = some (.int .i64 z.line) ∧ w2.cell? ⟨g, o + i * 3 + 2, none⟩ = some (.int .i64 z.col)) := Lib.hid fun w2 hb2 => by
          obtain ⟨g, o, c, hvl, c0, c1', c2⟩ := (HR2.out.new hb2).mark i hlt
          rw [← hEi] at c0 c1' c2
          injection hvl with e1 _ _
          exact ⟨g, o, e1, c0, c1', c2⟩
        obtain ⟨g2, o2, hA2, _⟩ := HIN.out wr hB
        subst hA2
        obtain ⟨g1, o1, hA1, _⟩ := HOUT.out wr hB
        subst hA1
        have HIN1 : Hid (∀ w2, Below w.heap.size w w2 → w2.cell? ⟨g2, o2 + i * 3, none⟩ = some (.int .i64 z.at_) ∧ w2.cell? ⟨g2, o2 + i * 3 + 1, none⟩ = some (.int .i64 z.line) ∧ w2.cell? ⟨g2, o2 + i * 3 + 2, none⟩ = some (.int .i64 z.col)) := Lib.hid fun w2 hb2 => by
          obtain ⟨g', o', e, h⟩ := HIN.out w2 hb2
          injection e with e
          injection e with e3 e4
          subst e3 e4
          exact h
        have HOUT1 : Hid (∀ w2, Below w.heap.size w w2 → w2.cell? ⟨g1, o1 + i * 3, none⟩ = some (.int .i64 z.at_) ∧ w2.cell? ⟨g1, o1 + i * 3 + 1, none⟩ = some (.int .i64 z.line) ∧ w2.cell? ⟨g1, o1 + i * 3 + 2, none⟩ = some (.int .i64 z.col)) := Lib.hid fun w2 hb2 => by
          obtain ⟨g', o', e, h⟩ := HOUT.out w2 hb2
          injection e with e
          injection e with e3 e4
          subst e3 e4
          exact h
        clear hEi
        go_upto_region 9 with (first | (go_at_call 122; refine (markMarks_any _ _ (by omega) (by omega) (by omega) (by omega) _ hy).mono ?_; rintro e w1 ⟨rfl, hb1⟩; have hbw1 := below_of_below hB hb1 hB.size) | (refine wpList_store_st rfl _ _ _ rfl markT w1.heap.size #[.int .i64 y.at_, .int .i64 y.line, .int .i64 y.col] _ rfl rfl (Blk.new _ _ _) rfl rfl rfl ?_; intro w3 hB3 hg3 hz3; have hbw3 := (hbw1.alloc hbw1.size _).grown hg3 (hbw1.alloc hbw1.size _).size (fun k e => by cases e; exact hbw1.size); obtain ⟨d0, d1, d2⟩ := HIN1.out w3 hbw3) | (refine wpList_store_st rfl _ _ _ rfl markT w1.heap.size #[.int .i64 z.at_, .int .i64 z.line, .int .i64 z.col] _ rfl rfl hB3 rfl rfl rfl ?_; intro w4 hB4 hg4 hz4; have hbw4 := hbw3.grown hg4 hbw3.size (fun k e => by cases e; exact hbw1.size)))
        obtain ⟨e0, e1, e2⟩ := HOUT1.out w4 hbw4
        have f0 : w4.cell? ⟨w1.heap.size, 0, none⟩ = some (.int .i64 z.at_) := hB4.cell 0
        have f1 : w4.cell? ⟨w1.heap.size, 1, none⟩ = some (.int .i64 z.line) := hB4.cell 1
        have f2 : w4.cell? ⟨w1.heap.size, 2, none⟩ = some (.int .i64 z.col) := hB4.cell 2
        try simp only [Act.put]
        go_cut [37] (fun s37 wx => s37 = .bool false ∧ Below w.heap.size w wx)
        case first =>
          go_quiet (fail)
          go_wp2_with fail
          go_meet
          exact ⟨rfl, by first | exact hbw4 | exact below_drewN hbw4 _⟩
        case rest =>
          obtain ⟨rfl, hbx⟩ := hcut
          clear e0 e1 e2 f0 f1 f2 xn
          go_wp2_with fail
          go_roundw
          case rel => exact ⟨i + 1, by omega, by go_num, hbx⟩
          case measure => simp [intOf]; omega
      · rw [dif_neg hlt, hz.out, hy.out] at hEi
        subst hEi
        have k0 : decide ((i : Int) < (es.length : Int)) = false := by rw [decide_eq_false_iff_not]; omega
        have k1 : ¬ (i < es.length) := hlt
        obtain ⟨g1, o1, hA1, _⟩ := HOUT.out wr hB
        subst hA1
        have HOUT1 : Hid (∀ w2, Below w.heap.size w w2 → w2.cell? ⟨g1, o1 + i * 3, none⟩ = some (.int .i64 z.at_) ∧ w2.cell? ⟨g1, o1 + i * 3 + 1, none⟩ = some (.int .i64 z.line) ∧ w2.cell? ⟨g1, o1 + i * 3 + 2, none⟩ = some (.int .i64 z.col)) := Lib.hid fun w2 hb2 => by
          obtain ⟨g', o', e, h⟩ := HOUT.out w2 hb2
          injection e with e
          injection e with e3 e4
          subst e3 e4
          exact h
        go_upto_region 9 with (first | (go_at_call 122; refine (markMarks_any _ _ (by omega) (by omega) (by omega) (by omega) _ hy).mono ?_; rintro e w1 ⟨rfl, hb1⟩; have hbw1 := below_of_below hB hb1 hB.size) | (refine wpList_store_st rfl _ _ _ rfl markT w1.heap.size #[.int .i64 z.at_, .int .i64 z.line, .int .i64 z.col] _ rfl rfl (Blk.new _ _ _) rfl rfl rfl ?_; intro w3 hB3 hg3 hz3; have hbw3 := (hbw1.alloc hbw1.size _).grown hg3 (hbw1.alloc hbw1.size _).size (fun k e => by cases e; exact hbw1.size)))
        obtain ⟨e0, e1, e2⟩ := HOUT1.out w3 hbw3
        have f0 : w3.cell? ⟨w1.heap.size, 0, none⟩ = some (.int .i64 z.at_) := hB3.cell 0
        have f1 : w3.cell? ⟨w1.heap.size, 1, none⟩ = some (.int .i64 z.line) := hB3.cell 1
        have f2 : w3.cell? ⟨w1.heap.size, 2, none⟩ = some (.int .i64 z.col) := hB3.cell 2
        try simp only [Act.put]
        go_cut [37] (fun s37 wx => s37 = .bool false ∧ Below w.heap.size w wx)
        case first =>
          go_quiet (fail)
          go_wp2_with fail
          go_meet
          exact ⟨rfl, by first | exact hbw3 | exact below_drewN hbw3 _⟩
        case rest =>
          obtain ⟨rfl, hbx⟩ := hcut
          clear e0 e1 e2 f0 f1 f2 xn
          go_wp2_with fail
          go_roundw
          case rel => exact ⟨i + 1, by omega, by go_num, hbx⟩
          case measure => simp [intOf]; omega
    · have i0 : decide ((i : Int) < (E.length : Int)) = false := by rw [decide_eq_false_iff_not]; omega
      go_wp2_with fail
      go_ret
      exact ⟨rfl, hB⟩
set_option maxRecDepth 100000 in
theorem keptM_any (es : List Lx.Mk) (g c : Nat) (At : Option Addr) (ct : Nat) (w : World) {base : Nat} (ho : w.ownsRow base 136 3 (.slice (some ⟨g, 0, none⟩) (es.length + 16) c) (es.length + 16) (mkC (es ++ marksM 16))) (hc : es.length + 16 ≤ c) (hR2 : RdRow w (.slice At es.length ct) es.length (mkC es)) (hn : es.length ≤ 1100000) :
    Calls Tryz.prog 74 #[.slice (some ⟨g, 0, none⟩) es.length c, .slice At es.length ct] w fun e w' => e = .returned (.bool true) ∧ Below w.heap.size w w' := by
  obtain ⟨E, hE⟩ : ∃ E, E = es ++ marksM 16 := ⟨_, rfl⟩
  have hl : E.length = es.length + 16 := by rw [hE, List.length_append, marksM_len]
  have HR1 : Hid (RdRow w (.slice (some ⟨g, 0, none⟩) E.length c) E.length (mkC E)) := Lib.hid (by rw [← hE, ← hl] at ho; exact RdRow.own ho)
  have HR2 := Lib.hid hR2
  have HE := Lib.hid hE
  have t0 : ((es.length : Int) != (es.length : Int)) = false := by simp
  have i1 : (0 : Int) ≤ (es.length : Int) + 16 := by omega
  have i2 : (es.length : Int) + 16 ≤ (c : Int) := by omega
  clear hR2 hE ho
  go_enter Tryz.func74, Tryz.ntmps74
  go_wp2_with fail
  have hk := keptFullM_any es E HE.out (some ⟨g, 0, none⟩) At c ct w HR1.out HR2.out hn
  rw [hl] at hk
  refine hk.mono ?_
  rintro e w1 ⟨rfl, b1⟩
  go_wp2_with fail
  go_ret
  exact ⟨rfl, b1⟩
end Go.Proofs.YtpgnfianffjpnaaGreatDoor
