/- stratakit.markDocs, FullDocs, LentDocs, walked (printed by wip/genlentd.py). -/
import Derived.Test.YtpgnfianffjpnaaGreatDoorLentM
import Derived.Test.YtpgnfianffjpnaaGreatDoorLxO
namespace Go.Proofs.YtpgnfianffjpnaaGreatDoor
open Go Go.RowKit
theorem dcC_get : ∀ (l : List Lx.Dc) (j : Nat) (hj : j < l.length), (dcC l)[j * 4]? = some (.string (bs l[j].name)) ∧ (dcC l)[j * 4 + 1]? = some (.bool l[j].raw) ∧ (dcC l)[j * 4 + 2]? = some (.int .i64 l[j].line) ∧ (dcC l)[j * 4 + 3]? = some (.string (bs l[j].text))
  | a :: l, 0, _ => ⟨rfl, rfl, rfl, rfl⟩
  | a :: l, j + 1, hj => by
    have := dcC_get l j (by simpa using hj)
    rw [show (j + 1) * 4 = j * 4 + 4 by omega, show dcC (a :: l) = dcL a ++ dcC l from rfl]
    exact this
theorem RdRow.doc {w : World} {v : Value} {l : List Lx.Dc} (h : RdRow w v l.length (dcC l)) (j : Nat) (hj : j < l.length) : ∃ b o c, v = .slice (some ⟨b, o, none⟩) l.length c ∧ w.cell? ⟨b, o + j * 4, none⟩ = some (.string (bs l[j].name)) ∧ w.cell? ⟨b, o + j * 4 + 1, none⟩ = some (.bool l[j].raw) ∧ w.cell? ⟨b, o + j * 4 + 2, none⟩ = some (.int .i64 l[j].line) ∧ w.cell? ⟨b, o + j * 4 + 3, none⟩ = some (.string (bs l[j].text)) := by
  obtain ⟨A, c, rfl, hc⟩ := h
  obtain ⟨h0, h1, h2, h3⟩ := dcC_get l j hj
  obtain ⟨b, o, rfl, d0⟩ := hc _ _ h0
  obtain ⟨b', o', e, d1⟩ := hc _ _ h1
  injection e with e; injection e with e1 e2
  subst e1 e2
  obtain ⟨b', o', e, d2⟩ := hc _ _ h2
  injection e with e; injection e with e1 e2
  subst e1 e2
  obtain ⟨b', o', e, d3⟩ := hc _ _ h3
  injection e with e; injection e with e1 e2
  subst e1 e2
  exact ⟨b, o, c, rfl, d0, by rw [Nat.add_assoc]; exact d1, by rw [Nat.add_assoc]; exact d2, by rw [Nat.add_assoc]; exact d3⟩
/-- the mark of a place. -/
def markS (k i : Int) : ByteArray := strOfNums [35, k % 256, k / 256 % 256, i % 256, i / 256 % 256]
theorem cells_nums (w : World) (e : TypeId) (xs : List Int) : ∀ i, i < xs.length → (w.alloc (.cells (xs.map (Value.int .u8)).toArray e)).cell? ⟨w.heap.size, 0 + i, none⟩ = some (.int .u8 (xs.getD i 0)) := by
  intro i hi
  have := news_alloc w (xs.map (Value.int .u8)) e i (.int .u8 (xs.getD i 0)) (by simp [List.getD, hi])
  rwa [Addr.add_lit] at this
set_option maxRecDepth 100000 in
theorem markText_any (k i : Int) (w : World) :
    Calls Tryz.prog 154 #[.int .i64 k, .int .i64 i] w fun e w' => e = .returned (.string (markS k i)) ∧ Below w.heap.size w w' := by
  have hcv := run_convert_bytes_arg (P := Tryz.prog) (w.alloc (.cells #[.int .u8 35, .int .u8 (k % 256), .int .u8 (k / 256 % 256), .int .u8 (i % 256), .int .u8 (i / 256 % 256)] 5)) 181 5 Tryz.underlying181 Tryz.underlying5 w.heap.size 0 5 5 [35, k % 256, k / 256 % 256, i % 256, i / 256 % 256] rfl (cells_nums w _ [35, k % 256, k / 256 % 256, i % 256, i / 256 % 256]) 9 Tryz.underlying9
  go_enter Tryz.func154, Tryz.ntmps154
  go_wp2_with fail
  go_ret
  exact ⟨rfl, (Below.refl _ _).alloc (Nat.le_refl _) _⟩

/-- what markDocs answers. -/
def mkD (k i : Int) : Lx.Dc := ⟨bl (markS k i), false, -7, []⟩
def marksD (n : Nat) : List Lx.Dc := (List.range n).map fun i : Nat => mkD 90 (i : Int)
theorem marksD_succ (n : Nat) : marksD (n + 1) = marksD n ++ [mkD 90 (n : Int)] := by simp [marksD, List.range_succ]
theorem marksD_len (n : Nat) : (marksD n).length = n := by simp [marksD]
set_option maxRecDepth 100000 in
set_option maxHeartbeats 400000 in
theorem markDocs_any (k i : Int) (w : World) {m : Lx.Dc} (H : Hid (mkD k i = m)) : Calls Tryz.prog 123 #[.int .i64 k, .int .i64 i] w fun e w' => e = .returned (.agg #[.string (bs m.name), .bool m.raw, .int .i64 m.line, .string (bs m.text)]) ∧ Below w.heap.size w w' := by
  have hmt := fun w2 => markText_any k i w2
  obtain ⟨S, hS⟩ : ∃ S, markS k i = S := ⟨_, rfl⟩
  have HM : Hid (m = ⟨bl S, false, -7, []⟩) := by show _ = _; rw [← H.out, mkD, hS]
  rw [hS] at hmt
  clear hS H
  go_enter Tryz.func123, Tryz.ntmps123
  go_upto_region 1 with fail
  have hK0 := Blk.new w 83 #[.string ⟨#[]⟩, .bool false, .int .i64 0, .string ⟨#[]⟩]
  have hB0 := (Below.refl w.heap.size w).alloc (Nat.le_refl _) (.cells #[.string ⟨#[]⟩, .bool false, .int .i64 0, .string ⟨#[]⟩] 83)
  obtain ⟨w0, hw0⟩ : ∃ w0, w.alloc (.cells #[.string ⟨#[]⟩, .bool false, .int .i64 0, .string ⟨#[]⟩] 83) = w0 := ⟨_, rfl⟩
  rw [hw0] at hK0 hB0
  rw [hw0]
  clear hw0
  have hlt := hK0.lt
  go_wp2_with (first | (go_at_call 154; refine (hmt _).mono ?_; rintro e w1 ⟨rfl, hb1⟩; have hg1 := hK0.below hb1 hlt) | (refine wpList_store_st rfl _ _ _ rfl docT w.heap.size _ _ rfl rfl hg1 rfl rfl rfl ?_; intro w2 hB2 hg2 hz2))
  have hB1 : Below w.heap.size w w1 := below_of_below hB0 hb1 hB0.size
  have hBf := hB1.grown hg2 hB1.size (fun k e => by cases e; exact Nat.le_refl _)
  refine bodyPost_ret (v := .agg #[.string S, .bool false, .int .i64 (-7), .string ⟨#[]⟩]) (results_c0 rfl docT rfl hB2 rfl) rfl ?_
  exact ⟨by rw [HM.out]; rfl, hBf⟩
set_option maxRecDepth 100000 in
set_option maxHeartbeats 1000000 in
theorem fullD_any (ms : List Lx.Dc) (At : Option Addr) (ct : Nat) (w : World) (hR : RdRow w (.slice At ms.length ct) ms.length (dcC ms)) (hn : ms.length ≤ 1100000) : Calls Tryz.prog 130 #[.slice At ms.length ct] w fun e w' => (∃ g c, e = .returned (.slice (some ⟨g, 0, none⟩) (ms.length + 16) c) ∧ w'.ownsRow w.heap.size 83 4 (.slice (some ⟨g, 0, none⟩) (ms.length + 16) c) (ms.length + 16) (dcC (ms ++ marksD 16))) ∧ Below w.heap.size w w' := by
  have HR := Lib.hid hR
  clear hR
  go_enter Tryz.func130, Tryz.ntmps130
  go_wp2_with fail
  go_loopw [3, 4] (fun t3 t4 wr => ∃ i : Nat, i ≤ ms.length ∧ t4 = .int .i64 (i : Int) ∧ wr.ownsRow w.heap.size 83 4 t3 i (dcC (ms.take i)) ∧ Below w.heap.size w wr) (fun _ t4 _ => ms.length - (intOf t4).toNat)
  case atStart => exact ⟨0, by omega, rfl, World.ownsRow_nil _ _ _ _, Below.refl _ _⟩
  case round =>
    obtain ⟨i, hi, rfl, hown, hB⟩ := hrel
    obtain ⟨AA, ca, rfl⟩ := ownk_form hown
    have j0 : (0 : Int) ≤ (i : Int) := by omega
    rcases Nat.lt_or_ge i ms.length with hin | hin
    · have i0 : decide ((i : Int) < (ms.length : Int)) = true := by rw [decide_eq_true_eq]; omega
      have i1 : (i : Int) < (ms.length : Int) := by omega
      have hE := HR.out.new hB
      obtain ⟨g, o, c, hvl, c0, c1, c2, c3⟩ := hE.doc i hin
      obtain ⟨hA, hcc⟩ : At = some ⟨g, o, none⟩ ∧ ct = c := by injection hvl with e1 _ e3; exact ⟨e1, e3⟩
      subst hA hcc
      have hT : Hid (dcC (ms.take (i + 1)) = dcC (ms.take i) ++ dcL ms[i]) := Lib.hid (by rw [List.take_add_one, List.getElem?_eq_getElem hin]; exact dcC_snoc _ _)
      obtain ⟨x, hxe⟩ : ∃ x, ms[i] = x := ⟨_, rfl⟩
      rw [hxe] at c0 c1 c2 c3 hT
      have hbs := hB.size
      clear hvl hE hxe
      go_wp2_with (at_builtin; refine wpList_appk rfl _ _ _ rfl docK _ _ _ _ rfl (hown.alloc _) _ _ _ _ rfl rfl (news_at _ _ (by simp) _ _) (by simp [Value.oneCell']) (by omega) (by omega) (hB.alloc hbs _) (by rw [World.size_alloc]; omega) ?_; intro v1 w1 ho1 hb1 hg1 hat1; obtain ⟨B1, q1, rfl⟩ := ownk_form ho1)
      go_roundw
      case rel => exact ⟨i + 1, by omega, by go_num, by rw [hT.out]; exact ho1, hb1⟩
      case measure => simp [intOf]; omega
    · have i0 : decide ((i : Int) < (ms.length : Int)) = false := by rw [decide_eq_false_iff_not]; omega
      obtain rfl : i = ms.length := by omega
      rw [List.take_length] at hown
      have HO : Hid (wr.ownsRow w.heap.size 83 4 (.slice AA ms.length ca) (ms.length + 0) (dcC (ms ++ marksD 0))) := Lib.hid (by rw [show marksD 0 = [] from rfl, List.append_nil]; exact hown)
      clear hown
      go_wp2_with fail
      go_loopw [3, 5] (fun t3 t5 wv => ∃ j : Nat, j ≤ 16 ∧ t5 = .int .i64 (j : Int) ∧ wv.ownsRow w.heap.size 83 4 t3 (ms.length + j) (dcC (ms ++ marksD j)) ∧ Below w.heap.size w wv) (fun _ t5 _ => 16 - (intOf t5).toNat)
      case atStart => exact ⟨0, by omega, rfl, HO.out, hB⟩
      case round =>
        clear HO hB
        obtain ⟨j, hj, rfl, hown, hB⟩ := hrel
        obtain ⟨A2, c2, rfl⟩ := ownk_form hown
        rcases Nat.lt_or_ge j 16 with hjn | hjn
        · have j1 : (j : Int) < 16 := by omega
          obtain ⟨y, hy⟩ : ∃ y, Hid (mkD 90 (j : Int) = y) := ⟨_, Lib.hid rfl⟩
          have hT : Hid (dcC (ms ++ marksD (j + 1)) = dcC (ms ++ marksD j) ++ dcL y) := Lib.hid (by rw [marksD_succ, hy.out, ← List.append_assoc, dcC_snoc])
          go_wp2_with (first | (go_at_call 123; refine (markDocs_any _ _ _ hy).mono ?_; rintro e w1 ⟨rfl, hb1⟩; have hownW := own_below hown hb1; have hBW := below_of_below hB hb1 hB.size; have hbs := hBW.size) | (at_builtin; refine wpList_appk rfl _ _ _ rfl docK _ _ _ _ rfl (hownW.alloc _) _ _ _ _ rfl rfl (news_at _ _ (by simp) _ _) (by simp [Value.oneCell']) (by omega) (by omega) (hBW.alloc hbs _) (by rw [World.size_alloc]; omega) ?_; intro v1 w2 ho1 hb2 hg1 hat1; obtain ⟨B1, q1, rfl⟩ := ownk_form ho1))
          go_roundw
          case rel => exact ⟨j + 1, by omega, by go_num, by rw [hT.out]; exact ho1, hb2⟩
          case measure => simp [intOf]; omega
        · obtain rfl : j = 16 := by omega
          obtain ⟨g, cap, hv, _⟩ := hown.form (by omega)
          rw [hv] at hown
          rw [hv]
          clear hv
          go_wp2_with fail
          go_ret
          exact ⟨⟨g, cap, rfl, hown⟩, hB⟩
set_option maxRecDepth 100000 in
theorem lentD_any (ms : List Lx.Dc) (At : Option Addr) (ct : Nat) (w : World) (hR : RdRow w (.slice At ms.length ct) ms.length (dcC ms)) (hn : ms.length ≤ 1100000) : Calls Tryz.prog 73 #[.slice At ms.length ct] w fun e w' => (∃ g c, e = .returned (.slice (some ⟨g, 0, none⟩) ms.length c) ∧ ms.length + 16 ≤ c ∧ w'.ownsRow w.heap.size 83 4 (.slice (some ⟨g, 0, none⟩) (ms.length + 16) c) (ms.length + 16) (dcC (ms ++ marksD 16))) ∧ Below w.heap.size w w' := by
  have HR := Lib.hid hR
  clear hR
  go_enter Tryz.func73, Tryz.ntmps73
  go_wp2_with fail
  refine (fullD_any ms At ct _ HR.out hn).mono ?_
  rintro e w1 ⟨⟨g, c, rfl, ho⟩, b1⟩
  have hc : ms.length + 16 ≤ c := by
    rcases own_two ho with ⟨h, _⟩ | ⟨b, c', h, hc⟩
    · cases h
    · simp only [Value.slice.injEq] at h
      omega
  have HO := Lib.hid ho
  have i1 : (0 : Int) ≤ (ms.length : Int) := by omega
  have i2 : (ms.length : Int) ≤ (c : Int) := by omega
  have i3 : ms.length ≤ c := by omega
  clear ho
  go_wp2_with fail
  go_ret
  exact ⟨⟨g, c, rfl, hc, HO.out⟩, b1⟩
end Go.Proofs.YtpgnfianffjpnaaGreatDoor
