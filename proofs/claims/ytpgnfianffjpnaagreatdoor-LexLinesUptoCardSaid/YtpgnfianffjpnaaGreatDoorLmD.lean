/- stratakit.ApartMarks and ApartDocs, walked. -/
import Derived.Test.YtpgnfianffjpnaaGreatDoorLxT
import Derived.Test.YtpgnfianffjpnaaGreatDoorLxO
import Derived.Laws.StructEq
import Derived.BigQuiet
import Derived.Test.YtpgnfianffjpnaaGreatDoorOwnK
import Derived.Deep.MidRow
import Derived.Laws.OwnMore
import Derived.Deep.RegionHeld3
import Derived.Deep.RegionLaw
import Derived.Deep.RegionWith
namespace Go.Proofs.YtpgnfianffjpnaaGreatDoor
open Go Go.RowKit
theorem markT : StK Tryz.prog 136 3 := ⟨⟨_, Tryz.underlying136⟩, by kernel_rfl⟩
/-- what markMarks answers. -/
def mkM (k i : Int) : Lx.Mk := ⟨-7 - k, -i - 1, 0⟩
def marksM (n : Nat) : List Lx.Mk := (List.range n).map fun i : Nat => mkM 90 (i : Int)
theorem marksM_succ (n : Nat) : marksM (n + 1) = marksM n ++ [mkM 90 (n : Int)] := by simp [marksM, List.range_succ]
theorem marksM_len (n : Nat) : (marksM n).length = n := by simp [marksM]
set_option maxRecDepth 100000 in
set_option maxHeartbeats 400000 in
theorem markMarks_any (k i : Int) (hk : 0 ≤ k) (hk2 : k ≤ 1000000) (hi : -1000000000 ≤ i) (hi2 : i ≤ 1000000000) (w : World) {m : Lx.Mk} (H : Hid (mkM k i = m)) : Calls Tryz.prog 122 #[.int .i64 k, .int .i64 i] w fun e w' => e = .returned (.agg #[.int .i64 m.at_, .int .i64 m.line, .int .i64 m.col]) ∧ Below w.heap.size w w' := by
  have hx1 : IntKind.i64.wrap (-7 - k) = -7 - k := by
    unfold IntKind.wrap
    simp [IntKind.bits, IntKind.signed]
    omega
  have hx2 : IntKind.i64.wrap (-i) = -i := by
    unfold IntKind.wrap
    simp [IntKind.bits, IntKind.signed]
    omega
  have hx3 : IntKind.i64.wrap (-i - 1) = -i - 1 := by
    unfold IntKind.wrap
    simp [IntKind.bits, IntKind.signed]
    omega
  go_enter Tryz.func122, Tryz.ntmps122
  go_wp2_with fail
  have hK := Blk.new w 136 #[.int .i64 (-7 - k), .int .i64 (-i - 1), .int .i64 0]
  refine bodyPost_ret (v := .agg #[.int .i64 (-7 - k), .int .i64 (-i - 1), .int .i64 0]) (results_c0 rfl markT rfl hK rfl) rfl ?_
  exact ⟨by rw [← H.out]; rfl, (Below.refl _ _).alloc (Nat.le_refl _) _⟩
set_option maxRecDepth 100000 in
set_option maxHeartbeats 1000000 in
theorem fullM_any (ms : List Lx.Mk) (At : Option Addr) (ct : Nat) (w : World) (hR : RdRow w (.slice At ms.length ct) ms.length (mkC ms)) (hn : ms.length ≤ 1100000) : Calls Tryz.prog 129 #[.slice At ms.length ct] w fun e w' => (∃ g c, e = .returned (.slice (some ⟨g, 0, none⟩) (ms.length + 16) c) ∧ w'.ownsRow w.heap.size 136 3 (.slice (some ⟨g, 0, none⟩) (ms.length + 16) c) (ms.length + 16) (mkC (ms ++ marksM 16))) ∧ Below w.heap.size w w' := by
  have HR := Lib.hid hR
  clear hR
  go_enter Tryz.func129, Tryz.ntmps129
  go_wp2_with fail
  go_loopw [3, 4] (fun t3 t4 wr => ∃ i : Nat, i ≤ ms.length ∧ t4 = .int .i64 (i : Int) ∧ wr.ownsRow w.heap.size 136 3 t3 i (mkC (ms.take i)) ∧ Below w.heap.size w wr) (fun _ t4 _ => ms.length - (intOf t4).toNat)
  case atStart => exact ⟨0, by omega, rfl, World.ownsRow_nil _ _ _ _, Below.refl _ _⟩
  case round =>
    obtain ⟨i, hi, rfl, hown, hB⟩ := hrel
    obtain ⟨AA, ca, rfl⟩ := ownk_form hown
    have j0 : (0 : Int) ≤ (i : Int) := by omega
    rcases Nat.lt_or_ge i ms.length with hin | hin
    · have i0 : decide ((i : Int) < (ms.length : Int)) = true := by rw [decide_eq_true_eq]; omega
      have i1 : (i : Int) < (ms.length : Int) := by omega
      have hE := HR.out.new hB
      obtain ⟨g, o, c, hvl, c0, c1, c2⟩ := hE.mark i hin
      obtain ⟨hA, hcc⟩ : At = some ⟨g, o, none⟩ ∧ ct = c := by injection hvl with e1 _ e3; exact ⟨e1, e3⟩
      subst hA hcc
      have hT : Hid (mkC (ms.take (i + 1)) = mkC (ms.take i) ++ mkL ms[i]) := Lib.hid (by rw [List.take_add_one, List.getElem?_eq_getElem hin]; exact mkC_snoc _ _)
      obtain ⟨x, hxe⟩ : ∃ x, ms[i] = x := ⟨_, rfl⟩
      rw [hxe] at c0 c1 c2 hT
      have hbs := hB.size
      clear hvl hE hxe
      go_wp2_with (at_builtin; refine wpList_appk rfl _ _ _ rfl markK _ _ _ _ rfl (hown.alloc _) _ _ _ _ rfl rfl (news_at _ _ (by simp) _ _) (by simp [Value.oneCell']) (by omega) (by omega) (hB.alloc hbs _) (by rw [World.size_alloc]; omega) ?_; intro v1 w1 ho1 hb1 hg1 hat1; obtain ⟨B1, q1, rfl⟩ := ownk_form ho1)
      go_roundw
      case rel => exact ⟨i + 1, by omega, by go_num, by rw [hT.out]; exact ho1, hb1⟩
      case measure => simp [intOf]; omega
    · have i0 : decide ((i : Int) < (ms.length : Int)) = false := by rw [decide_eq_false_iff_not]; omega
      obtain rfl : i = ms.length := by omega
      rw [List.take_length] at hown
      have HO : Hid (wr.ownsRow w.heap.size 136 3 (.slice AA ms.length ca) (ms.length + 0) (mkC (ms ++ marksM 0))) := Lib.hid (by rw [show marksM 0 = [] from rfl, List.append_nil]; exact hown)
      clear hown
      go_wp2_with fail
      go_loopw [3, 5] (fun t3 t5 wv => ∃ j : Nat, j ≤ 16 ∧ t5 = .int .i64 (j : Int) ∧ wv.ownsRow w.heap.size 136 3 t3 (ms.length + j) (mkC (ms ++ marksM j)) ∧ Below w.heap.size w wv) (fun _ t5 _ => 16 - (intOf t5).toNat)
      case atStart => exact ⟨0, by omega, rfl, HO.out, hB⟩
      case round =>
        clear HO hB
        obtain ⟨j, hj, rfl, hown, hB⟩ := hrel
        obtain ⟨A2, c2, rfl⟩ := ownk_form hown
        rcases Nat.lt_or_ge j 16 with hjn | hjn
        · have j1 : (j : Int) < 16 := by omega
          obtain ⟨y, hy⟩ : ∃ y, Hid (mkM 90 (j : Int) = y) := ⟨_, Lib.hid rfl⟩
          have hT : Hid (mkC (ms ++ marksM (j + 1)) = mkC (ms ++ marksM j) ++ mkL y) := Lib.hid (by rw [marksM_succ, hy.out, ← List.append_assoc, mkC_snoc])
          go_wp2_with (first | (go_at_call 122; refine (markMarks_any _ _ (by omega) (by omega) (by omega) (by omega) _ hy).mono ?_; rintro e w1 ⟨rfl, hb1⟩; have hownW := own_below hown hb1; have hBW := below_of_below hB hb1 hB.size; have hbs := hBW.size) | (at_builtin; refine wpList_appk rfl _ _ _ rfl markK _ _ _ _ rfl (hownW.alloc _) _ _ _ _ rfl rfl (news_at _ _ (by simp) _ _) (by simp [Value.oneCell']) (by omega) (by omega) (hBW.alloc hbs _) (by rw [World.size_alloc]; omega) ?_; intro v1 w2 ho1 hb2 hg1 hat1; obtain ⟨B1, q1, rfl⟩ := ownk_form ho1))
          go_roundw
          case rel => exact ⟨j + 1, by omega, by go_num, by rw [hT.out]; exact ho1, hb2⟩
          case measure => simp [intOf]; omega
        · obtain rfl : j = 16 := by omega
          obtain ⟨g, cap, hv, _⟩ := hown.form (by omega)
          rw [hv] at hown
          rw [hv]
          clear hv
          go_wp2_with fail
          go_ret
          exact ⟨⟨g, cap, rfl, hown⟩, hB⟩
theorem own_two {w : World} {base : Nat} {e : TypeId} {k : Nat} {v : Value} {n : Nat} {xs : List Value} (h : w.ownsRow base e k v n xs) : (v = .slice none 0 0 ∧ n = 0) ∨ ∃ b c, v = .slice (some ⟨b, 0, none⟩) n c ∧ n ≤ c := by
  rcases h.2 with ⟨h1, h2⟩ | ⟨g, cap, cur, h1, _, _, h2, _⟩
  · exact .inl ⟨h1, h2⟩
  · exact .inr ⟨g, cap, h1, h2⟩
set_option maxRecDepth 100000 in
theorem lentM_any (ms : List Lx.Mk) (At : Option Addr) (ct : Nat) (w : World) (hR : RdRow w (.slice At ms.length ct) ms.length (mkC ms)) (hn : ms.length ≤ 1100000) : Calls Tryz.prog 72 #[.slice At ms.length ct] w fun e w' => (∃ g c, e = .returned (.slice (some ⟨g, 0, none⟩) ms.length c) ∧ ms.length + 16 ≤ c ∧ w'.ownsRow w.heap.size 136 3 (.slice (some ⟨g, 0, none⟩) (ms.length + 16) c) (ms.length + 16) (mkC (ms ++ marksM 16))) ∧ Below w.heap.size w w' := by
  have HR := Lib.hid hR
  clear hR
  go_enter Tryz.func72, Tryz.ntmps72
  go_wp2_with fail
  refine (fullM_any ms At ct _ HR.out hn).mono ?_
  rintro e w1 ⟨⟨g, c, rfl, ho⟩, b1⟩
  have hc : ms.length + 16 ≤ c := by
    rcases own_two ho with ⟨h, _⟩ | ⟨b, c', h, hc⟩
    · cases h
    · simp only [Value.slice.injEq] at h
      omega
  have HO := Lib.hid ho
  have i1 : (0 : Int) ≤ (ms.length : Int) := by omega
  have i2 : (ms.length : Int) ≤ (c : Int) := by omega
  have i3 : ms.length ≤ c := by omega
  clear ho
  go_wp2_with fail
  go_ret
  exact ⟨⟨g, c, rfl, hc, HO.out⟩, b1⟩
end Go.Proofs.YtpgnfianffjpnaaGreatDoor
namespace Go.Proofs.YtpgnfianffjpnaaGreatDoor
open Go Go.RowKit
theorem dcC_get : ∀ (l : List Lx.Dc) (j : Nat) (hj : j < l.length), (dcC l)[j * 4]? = some (.string (bs l[j].name)) ∧ (dcC l)[j * 4 + 1]? = some (.bool l[j].raw) ∧ (dcC l)[j * 4 + 2]? = some (.int .i64 l[j].line) ∧ (dcC l)[j * 4 + 3]? = some (.string (bs l[j].text))
  | a :: l, 0, _ => ⟨rfl, rfl, rfl, rfl⟩
  | a :: l, j + 1, hj => by
    have := dcC_get l j (by simpa using hj)
    rw [show (j + 1) * 4 = j * 4 + 4 by omega, show dcC (a :: l) = dcL a ++ dcC l from rfl]
    exact this
theorem RdRow.doc {w : World} {v : Value} {l : List Lx.Dc} (h : RdRow w v l.length (dcC l)) (j : Nat) (hj : j < l.length) : ∃ b o c, v = .slice (some ⟨b, o, none⟩) l.length c ∧ w.cell? ⟨b, o + j * 4, none⟩ = some (.string (bs l[j].name)) ∧ w.cell? ⟨b, o + j * 4 + 1, none⟩ = some (.bool l[j].raw) ∧ w.cell? ⟨b, o + j * 4 + 2, none⟩ = some (.int .i64 l[j].line) ∧ w.cell? ⟨b, o + j * 4 + 3, none⟩ = some (.string (bs l[j].text)) := by
  obtain ⟨A, c, rfl, hc⟩ := h
  obtain ⟨h0, h1, h2, h3⟩ := dcC_get l j hj
  obtain ⟨b, o, rfl, d0⟩ := hc _ _ h0
  obtain ⟨b', o', e, d1⟩ := hc _ _ h1
  injection e with e; injection e with e1 e2
  subst e1 e2
  obtain ⟨b', o', e, d2⟩ := hc _ _ h2
  injection e with e; injection e with e1 e2
  subst e1 e2
  obtain ⟨b', o', e, d3⟩ := hc _ _ h3
  injection e with e; injection e with e1 e2
  subst e1 e2
  exact ⟨b, o, c, rfl, d0, by rw [Nat.add_assoc]; exact d1, by rw [Nat.add_assoc]; exact d2, by rw [Nat.add_assoc]; exact d3⟩
/-- the mark of a place. -/
def markS (k i : Int) : ByteArray := strOfNums [35, k % 256, k / 256 % 256, i % 256, i / 256 % 256]
theorem cells_nums (w : World) (e : TypeId) (xs : List Int) : ∀ i, i < xs.length → (w.alloc (.cells (xs.map (Value.int .u8)).toArray e)).cell? ⟨w.heap.size, 0 + i, none⟩ = some (.int .u8 (xs.getD i 0)) := by
  intro i hi
  have := news_alloc w (xs.map (Value.int .u8)) e i (.int .u8 (xs.getD i 0)) (by simp [List.getD, hi])
  rwa [Addr.add_lit] at this
set_option maxRecDepth 100000 in
theorem markText_any (k i : Int) (w : World) :
    Calls Tryz.prog 154 #[.int .i64 k, .int .i64 i] w fun e w' => e = .returned (.string (markS k i)) ∧ Below w.heap.size w w' := by
  have hcv := run_convert_bytes_arg (P := Tryz.prog) (w.alloc (.cells #[.int .u8 35, .int .u8 (k % 256), .int .u8 (k / 256 % 256), .int .u8 (i % 256), .int .u8 (i / 256 % 256)] 5)) 181 5 Tryz.underlying181 Tryz.underlying5 w.heap.size 0 5 5 [35, k % 256, k / 256 % 256, i % 256, i / 256 % 256] rfl (cells_nums w _ [35, k % 256, k / 256 % 256, i % 256, i / 256 % 256]) 9 Tryz.underlying9
  go_enter Tryz.func154, Tryz.ntmps154
  go_wp2_with fail
  go_ret
  exact ⟨rfl, (Below.refl _ _).alloc (Nat.le_refl _) _⟩

/-- what markDocs answers. -/
def mkD (k i : Int) : Lx.Dc := ⟨bl (markS k i), false, -7, []⟩
def marksD (n : Nat) : List Lx.Dc := (List.range n).map fun i : Nat => mkD 90 (i : Int)
theorem marksD_succ (n : Nat) : marksD (n + 1) = marksD n ++ [mkD 90 (n : Int)] := by simp [marksD, List.range_succ]
theorem marksD_len (n : Nat) : (marksD n).length = n := by simp [marksD]
set_option maxRecDepth 100000 in
set_option maxHeartbeats 400000 in
theorem markDocs_any (k i : Int) (w : World) {m : Lx.Dc} (H : Hid (mkD k i = m)) : Calls Tryz.prog 123 #[.int .i64 k, .int .i64 i] w fun e w' => e = .returned (.agg #[.string (bs m.name), .bool m.raw, .int .i64 m.line, .string (bs m.text)]) ∧ Below w.heap.size w w' := by
  have hmt := fun w2 => markText_any k i w2
  obtain ⟨S, hS⟩ : ∃ S, markS k i = S := ⟨_, rfl⟩
  have HM : Hid (m = ⟨bl S, false, -7, []⟩) := by show _ = _; rw [← H.out, mkD, hS]
  rw [hS] at hmt
  clear hS H
  go_enter Tryz.func123, Tryz.ntmps123
  go_upto_region 1 with fail
  have hK0 := Blk.new w 83 #[.string ⟨#[]⟩, .bool false, .int .i64 0, .string ⟨#[]⟩]
  have hB0 := (Below.refl w.heap.size w).alloc (Nat.le_refl _) (.cells #[.string ⟨#[]⟩, .bool false, .int .i64 0, .string ⟨#[]⟩] 83)
  obtain ⟨w0, hw0⟩ : ∃ w0, w.alloc (.cells #[.string ⟨#[]⟩, .bool false, .int .i64 0, .string ⟨#[]⟩] 83) = w0 := ⟨_, rfl⟩
  rw [hw0] at hK0 hB0
  rw [hw0]
  clear hw0
  have hlt := hK0.lt
  go_wp2_with (first | (go_at_call 154; refine (hmt _).mono ?_; rintro e w1 ⟨rfl, hb1⟩; have hg1 := hK0.below hb1 hlt) | (refine wpList_store_st rfl _ _ _ rfl docT w.heap.size _ _ rfl rfl hg1 rfl rfl rfl ?_; intro w2 hB2 hg2 hz2))
  have hB1 : Below w.heap.size w w1 := below_of_below hB0 hb1 hB0.size
  have hBf := hB1.grown hg2 hB1.size (fun k e => by cases e; exact Nat.le_refl _)
  refine bodyPost_ret (v := .agg #[.string S, .bool false, .int .i64 (-7), .string ⟨#[]⟩]) (results_c0 rfl docT rfl hB2 rfl) rfl ?_
  exact ⟨by rw [HM.out]; rfl, hBf⟩
set_option maxRecDepth 100000 in
set_option maxHeartbeats 1000000 in
theorem fullD_any (ms : List Lx.Dc) (At : Option Addr) (ct : Nat) (w : World) (hR : RdRow w (.slice At ms.length ct) ms.length (dcC ms)) (hn : ms.length ≤ 1100000) : Calls Tryz.prog 130 #[.slice At ms.length ct] w fun e w' => (∃ g c, e = .returned (.slice (some ⟨g, 0, none⟩) (ms.length + 16) c) ∧ w'.ownsRow w.heap.size 83 4 (.slice (some ⟨g, 0, none⟩) (ms.length + 16) c) (ms.length + 16) (dcC (ms ++ marksD 16))) ∧ Below w.heap.size w w' := by
  have HR := Lib.hid hR
  clear hR
  go_enter Tryz.func130, Tryz.ntmps130
  go_wp2_with fail
  go_loopw [3, 4] (fun t3 t4 wr => ∃ i : Nat, i ≤ ms.length ∧ t4 = .int .i64 (i : Int) ∧ wr.ownsRow w.heap.size 83 4 t3 i (dcC (ms.take i)) ∧ Below w.heap.size w wr) (fun _ t4 _ => ms.length - (intOf t4).toNat)
  case atStart => exact ⟨0, by omega, rfl, World.ownsRow_nil _ _ _ _, Below.refl _ _⟩
  case round =>
    obtain ⟨i, hi, rfl, hown, hB⟩ := hrel
    obtain ⟨AA, ca, rfl⟩ := ownk_form hown
    have j0 : (0 : Int) ≤ (i : Int) := by omega
    rcases Nat.lt_or_ge i ms.length with hin | hin
    · have i0 : decide ((i : Int) < (ms.length : Int)) = true := by rw [decide_eq_true_eq]; omega
      have i1 : (i : Int) < (ms.length : Int) := by omega
      have hE := HR.out.new hB
      obtain ⟨g, o, c, hvl, c0, c1, c2, c3⟩ := hE.doc i hin
      obtain ⟨hA, hcc⟩ : At = some ⟨g, o, none⟩ ∧ ct = c := by injection hvl with e1 _ e3; exact ⟨e1, e3⟩
      subst hA hcc
      have hT : Hid (dcC (ms.take (i + 1)) = dcC (ms.take i) ++ dcL ms[i]) := Lib.hid (by rw [List.take_add_one, List.getElem?_eq_getElem hin]; exact dcC_snoc _ _)
      obtain ⟨x, hxe⟩ : ∃ x, ms[i] = x := ⟨_, rfl⟩
      rw [hxe] at c0 c1 c2 c3 hT
      have hbs := hB.size
      clear hvl hE hxe
      go_wp2_with (at_builtin; refine wpList_appk rfl _ _ _ rfl docK _ _ _ _ rfl (hown.alloc _) _ _ _ _ rfl rfl (news_at _ _ (by simp) _ _) (by simp [Value.oneCell']) (by omega) (by omega) (hB.alloc hbs _) (by rw [World.size_alloc]; omega) ?_; intro v1 w1 ho1 hb1 hg1 hat1; obtain ⟨B1, q1, rfl⟩ := ownk_form ho1)
      go_roundw
      case rel => exact ⟨i + 1, by omega, by go_num, by rw [hT.out]; exact ho1, hb1⟩
      case measure => simp [intOf]; omega
    · have i0 : decide ((i : Int) < (ms.length : Int)) = false := by rw [decide_eq_false_iff_not]; omega
      obtain rfl : i = ms.length := by omega
      rw [List.take_length] at hown
      have HO : Hid (wr.ownsRow w.heap.size 83 4 (.slice AA ms.length ca) (ms.length + 0) (dcC (ms ++ marksD 0))) := Lib.hid (by rw [show marksD 0 = [] from rfl, List.append_nil]; exact hown)
      clear hown
      go_wp2_with fail
      go_loopw [3, 5] (fun t3 t5 wv => ∃ j : Nat, j ≤ 16 ∧ t5 = .int .i64 (j : Int) ∧ wv.ownsRow w.heap.size 83 4 t3 (ms.length + j) (dcC (ms ++ marksD j)) ∧ Below w.heap.size w wv) (fun _ t5 _ => 16 - (intOf t5).toNat)
      case atStart => exact ⟨0, by omega, rfl, HO.out, hB⟩
      case round =>
        clear HO hB
        obtain ⟨j, hj, rfl, hown, hB⟩ := hrel
        obtain ⟨A2, c2, rfl⟩ := ownk_form hown
        rcases Nat.lt_or_ge j 16 with hjn | hjn
        · have j1 : (j : Int) < 16 := by omega
          obtain ⟨y, hy⟩ : ∃ y, Hid (mkD 90 (j : Int) = y) := ⟨_, Lib.hid rfl⟩
          have hT : Hid (dcC (ms ++ marksD (j + 1)) = dcC (ms ++ marksD j) ++ dcL y) := Lib.hid (by rw [marksD_succ, hy.out, ← List.append_assoc, dcC_snoc])
          go_wp2_with (first | (go_at_call 123; refine (markDocs_any _ _ _ hy).mono ?_; rintro e w1 ⟨rfl, hb1⟩; have hownW := own_below hown hb1; have hBW := below_of_below hB hb1 hB.size; have hbs := hBW.size) | (at_builtin; refine wpList_appk rfl _ _ _ rfl docK _ _ _ _ rfl (hownW.alloc _) _ _ _ _ rfl rfl (news_at _ _ (by simp) _ _) (by simp [Value.oneCell']) (by omega) (by omega) (hBW.alloc hbs _) (by rw [World.size_alloc]; omega) ?_; intro v1 w2 ho1 hb2 hg1 hat1; obtain ⟨B1, q1, rfl⟩ := ownk_form ho1))
          go_roundw
          case rel => exact ⟨j + 1, by omega, by go_num, by rw [hT.out]; exact ho1, hb2⟩
          case measure => simp [intOf]; omega
        · obtain rfl : j = 16 := by omega
          obtain ⟨g, cap, hv, _⟩ := hown.form (by omega)
          rw [hv] at hown
          rw [hv]
          clear hv
          go_wp2_with fail
          go_ret
          exact ⟨⟨g, cap, rfl, hown⟩, hB⟩
set_option maxRecDepth 100000 in
theorem lentD_any (ms : List Lx.Dc) (At : Option Addr) (ct : Nat) (w : World) (hR : RdRow w (.slice At ms.length ct) ms.length (dcC ms)) (hn : ms.length ≤ 1100000) : Calls Tryz.prog 73 #[.slice At ms.length ct] w fun e w' => (∃ g c, e = .returned (.slice (some ⟨g, 0, none⟩) ms.length c) ∧ ms.length + 16 ≤ c ∧ w'.ownsRow w.heap.size 83 4 (.slice (some ⟨g, 0, none⟩) (ms.length + 16) c) (ms.length + 16) (dcC (ms ++ marksD 16))) ∧ Below w.heap.size w w' := by
  have HR := Lib.hid hR
  clear hR
  go_enter Tryz.func73, Tryz.ntmps73
  go_wp2_with fail
  refine (fullD_any ms At ct _ HR.out hn).mono ?_
  rintro e w1 ⟨⟨g, c, rfl, ho⟩, b1⟩
  have hc : ms.length + 16 ≤ c := by
    rcases own_two ho with ⟨h, _⟩ | ⟨b, c', h, hc⟩
    · cases h
    · simp only [Value.slice.injEq] at h
      omega
  have HO := Lib.hid ho
  have i1 : (0 : Int) ≤ (ms.length : Int) := by omega
  have i2 : (ms.length : Int) ≤ (c : Int) := by omega
  have i3 : ms.length ≤ c := by omega
  clear ho
  go_wp2_with fail
  go_ret
  exact ⟨⟨g, c, rfl, hc, HO.out⟩, b1⟩
end Go.Proofs.YtpgnfianffjpnaaGreatDoor
namespace Go.Proofs.YtpgnfianffjpnaaGreatDoor
open Go Go.RowKit
theorem marksM_at (n i : Nat) (h : i < n) : (marksM n)[i]? = some (mkM 90 (i : Int)) := by simp [marksM, h]
theorem lentM_at (es : List Lx.Mk) (i : Nat) (h : i < (es ++ marksM 16).length) : (es ++ marksM 16)[i] = if h2 : i < es.length then es[i] else mkM 90 ((i : Int) - (es.length : Int)) := by
  split
  · rename_i h2
    rw [List.getElem_append_left h2]
  · rename_i h2
    rw [List.getElem_append_right (by omega)]
    have h3 : i - es.length < (marksM 16).length := by rw [List.length_append] at h; omega
    have e := marksM_at 16 (i - es.length) (by rw [marksM_len] at h3; exact h3)
    rw [List.getElem?_eq_getElem h3] at e
    rw [Option.some.inj e]
    congr 1
    omega
set_option maxRecDepth 100000 in
set_option maxHeartbeats 1000000 in
theorem equalIn_mk (z : Lx.Mk) (w : World) : (Op.equalIn 10000 136 (.agg #[.int .i64 z.at_, .int .i64 z.line, .int .i64 z.col]) (.agg #[.int .i64 z.at_, .int .i64 z.line, .int .i64 z.col])).run Tryz.prog w = .ok true w := by
  rw [run_equalIn_struct w 9999 _ _ _ (by kernel_rfl) (by kernel_rfl)]
  simp only [Program.fieldsOf, Tryz.underlying136]
  simp [go_sem]
theorem neq_mk (z : Lx.Mk) (w : World) : (binOp .neq 136 (.agg #[.int .i64 z.at_, .int .i64 z.line, .int .i64 z.col]) (.agg #[.int .i64 z.at_, .int .i64 z.line, .int .i64 z.col])).run Tryz.prog w = .ok (.bool false) w := by
  rw [run_neq_struct, equalIn_mk]; rfl
set_option maxRecDepth 100000 in
set_option maxHeartbeats 1000000 in
theorem keptFullM_any (es E : List Lx.Mk) (hE : E = es ++ marksM 16) (A1 At : Option Addr) (c1 ct : Nat) (w : World) (hR1 : RdRow w (.slice A1 E.length c1) E.length (mkC E)) (hR2 : RdRow w (.slice At es.length ct) es.length (mkC es)) (hn : es.length ≤ 1100000) : Calls Tryz.prog 131 #[.slice A1 E.length c1, .slice At es.length ct] w fun e w' => e = .returned (.bool true) ∧ Below w.heap.size w w' := by
  have hl : E.length = es.length + 16 := by rw [hE, List.length_append, marksM_len]
  have HE : Hid (∀ i (h : i < E.length), E[i] = if h2 : i < es.length then es[i] else mkM 90 ((i : Int) - (es.length : Int))) := Lib.hid (by subst hE; exact lentM_at es)
  have HR1 := Lib.hid hR1
  have HR2 := Lib.hid hR2
  have t0 : ((E.length : Int) != (es.length : Int) + 16) = false := by rw [hl]; simp
  have hl1 : E.length ≤ es.length + 16 := by omega
  have hl2 : es.length + 16 ≤ E.length := by omega
  clear hR1 hR2 hE hl
  go_enter Tryz.func131, Tryz.ntmps131
  go_wp2_with fail
  go_loopw [5, 6] (fun t5 _ wr => ∃ i : Nat, i ≤ E.length ∧ t5 = .int .i64 (i : Int) ∧ Below w.heap.size w wr) (fun t5 _ _ => E.length - (intOf t5).toNat)
  case atStart => exact ⟨0, by omega, rfl, Below.refl _ _⟩
  case round =>
    obtain ⟨i, hi, rfl, hB⟩ := hrel
    have j0 : (0 : Int) ≤ (i : Int) := by omega
    rcases Nat.lt_or_ge i E.length with hin | hin
    · have i0 : decide ((i : Int) < (E.length : Int)) = true := by rw [decide_eq_true_eq]; omega
      have i1 : (i : Int) < (E.length : Int) := by omega
      have hw : IntKind.i64.wrap ((i : Int) - (es.length : Int)) = (i : Int) - (es.length : Int) := by
        unfold IntKind.wrap
        simp [IntKind.bits, IntKind.signed]
        omega
      obtain ⟨y, hy⟩ : ∃ y, Hid (mkM 90 ((i : Int) - (es.length : Int)) = y) := ⟨_, Lib.hid rfl⟩
      have hEi := HE.out i hin
      obtain ⟨z, hz⟩ : ∃ z, Hid (E[i] = z) := ⟨_, Lib.hid rfl⟩
      have xn := neq_mk z
      have HOUT : Hid (∀ w2, Below w.heap.size w w2 → ∃ g o, A1 = some ⟨g, o, none⟩ ∧ w2.cell? ⟨g, o + i * 3, none⟩ = some (.int .i64 z.at_) ∧ w2.cell? ⟨g, o + i * 3 + 1, none⟩ = some (.int .i64 z.line) ∧ w2.cell? ⟨g, o + i * 3 + 2, none⟩ = some (.int .i64 z.col)) := Lib.hid fun w2 hb2 => by
        obtain ⟨g, o, c, hvl, c0, c1', c2⟩ := (HR1.out.new hb2).mark i hin
        rw [hz.out] at c0 c1' c2
        injection hvl with e1 _ _
        exact ⟨g, o, e1, c0, c1', c2⟩
      by_cases hlt : i < es.length
      · rw [dif_pos hlt, hz.out] at hEi
        have k0 : decide ((i : Int) < (es.length : Int)) = true := by rw [decide_eq_true_eq]; omega
        have k1 : (i : Int) < (es.length : Int) := by omega
        have HIN : Hid (∀ w2, Below w.heap.size w w2 → ∃ g o, At = some ⟨g, o, none⟩ ∧ w2.cell? ⟨g, o + i * 3, none⟩ = some (.int .i64 z.at_) ∧ w2.cell? ⟨g, o + i * 3 + 1, none⟩ = some (.int .i64 z.line) ∧ w2.cell? ⟨g, o + i * 3 + 2, none⟩ = some (.int .i64 z.col)) := Lib.hid fun w2 hb2 => by
          obtain ⟨g, o, c, hvl, c0, c1', c2⟩ := (HR2.out.new hb2).mark i hlt
          rw [← hEi] at c0 c1' c2
          injection hvl with e1 _ _
          exact ⟨g, o, e1, c0, c1', c2⟩
        obtain ⟨g2, o2, hA2, _⟩ := HIN.out wr hB
        subst hA2
        obtain ⟨g1, o1, hA1, _⟩ := HOUT.out wr hB
        subst hA1
        have HIN1 : Hid (∀ w2, Below w.heap.size w w2 → w2.cell? ⟨g2, o2 + i * 3, none⟩ = some (.int .i64 z.at_) ∧ w2.cell? ⟨g2, o2 + i * 3 + 1, none⟩ = some (.int .i64 z.line) ∧ w2.cell? ⟨g2, o2 + i * 3 + 2, none⟩ = some (.int .i64 z.col)) := Lib.hid fun w2 hb2 => by
          obtain ⟨g', o', e, h⟩ := HIN.out w2 hb2
          injection e with e
          injection e with e3 e4
          subst e3 e4
          exact h
        have HOUT1 : Hid (∀ w2, Below w.heap.size w w2 → w2.cell? ⟨g1, o1 + i * 3, none⟩ = some (.int .i64 z.at_) ∧ w2.cell? ⟨g1, o1 + i * 3 + 1, none⟩ = some (.int .i64 z.line) ∧ w2.cell? ⟨g1, o1 + i * 3 + 2, none⟩ = some (.int .i64 z.col)) := Lib.hid fun w2 hb2 => by
          obtain ⟨g', o', e, h⟩ := HOUT.out w2 hb2
          injection e with e
          injection e with e3 e4
          subst e3 e4
          exact h
        clear hEi
        go_upto_region 9 with (first | (go_at_call 122; refine (markMarks_any _ _ (by omega) (by omega) (by omega) (by omega) _ hy).mono ?_; rintro e w1 ⟨rfl, hb1⟩; have hbw1 := below_of_below hB hb1 hB.size) | (refine wpList_store_st rfl _ _ _ rfl markT w1.heap.size #[.int .i64 y.at_, .int .i64 y.line, .int .i64 y.col] _ rfl rfl (Blk.new _ _ _) rfl rfl rfl ?_; intro w3 hB3 hg3 hz3; have hbw3 := (hbw1.alloc hbw1.size _).grown hg3 (hbw1.alloc hbw1.size _).size (fun k e => by cases e; exact hbw1.size); obtain ⟨d0, d1, d2⟩ := HIN1.out w3 hbw3) | (refine wpList_store_st rfl _ _ _ rfl markT w1.heap.size #[.int .i64 z.at_, .int .i64 z.line, .int .i64 z.col] _ rfl rfl hB3 rfl rfl rfl ?_; intro w4 hB4 hg4 hz4; have hbw4 := hbw3.grown hg4 hbw3.size (fun k e => by cases e; exact hbw1.size)))
        obtain ⟨e0, e1, e2⟩ := HOUT1.out w4 hbw4
        have f0 : w4.cell? ⟨w1.heap.size, 0, none⟩ = some (.int .i64 z.at_) := hB4.cell 0
        have f1 : w4.cell? ⟨w1.heap.size, 1, none⟩ = some (.int .i64 z.line) := hB4.cell 1
        have f2 : w4.cell? ⟨w1.heap.size, 2, none⟩ = some (.int .i64 z.col) := hB4.cell 2
        try simp only [Act.put]
        go_cut [37] (fun s37 wx => s37 = .bool false ∧ Below w.heap.size w wx)
        case first =>
          go_quiet (fail)
          go_wp2_with fail
          go_meet
          exact ⟨rfl, by first | exact hbw4 | exact below_drewN hbw4 _⟩
        case rest =>
          obtain ⟨rfl, hbx⟩ := hcut
          clear e0 e1 e2 f0 f1 f2 xn
          go_wp2_with fail
          go_roundw
          case rel => exact ⟨i + 1, by omega, by go_num, hbx⟩
          case measure => simp [intOf]; omega
      · rw [dif_neg hlt, hz.out, hy.out] at hEi
        subst hEi
        have k0 : decide ((i : Int) < (es.length : Int)) = false := by rw [decide_eq_false_iff_not]; omega
        have k1 : ¬ (i < es.length) := hlt
        obtain ⟨g1, o1, hA1, _⟩ := HOUT.out wr hB
        subst hA1
        have HOUT1 : Hid (∀ w2, Below w.heap.size w w2 → w2.cell? ⟨g1, o1 + i * 3, none⟩ = some (.int .i64 z.at_) ∧ w2.cell? ⟨g1, o1 + i * 3 + 1, none⟩ = some (.int .i64 z.line) ∧ w2.cell? ⟨g1, o1 + i * 3 + 2, none⟩ = some (.int .i64 z.col)) := Lib.hid fun w2 hb2 => by
          obtain ⟨g', o', e, h⟩ := HOUT.out w2 hb2
          injection e with e
          injection e with e3 e4
          subst e3 e4
          exact h
        go_upto_region 9 with (first | (go_at_call 122; refine (markMarks_any _ _ (by omega) (by omega) (by omega) (by omega) _ hy).mono ?_; rintro e w1 ⟨rfl, hb1⟩; have hbw1 := below_of_below hB hb1 hB.size) | (refine wpList_store_st rfl _ _ _ rfl markT w1.heap.size #[.int .i64 z.at_, .int .i64 z.line, .int .i64 z.col] _ rfl rfl (Blk.new _ _ _) rfl rfl rfl ?_; intro w3 hB3 hg3 hz3; have hbw3 := (hbw1.alloc hbw1.size _).grown hg3 (hbw1.alloc hbw1.size _).size (fun k e => by cases e; exact hbw1.size)))
        obtain ⟨e0, e1, e2⟩ := HOUT1.out w3 hbw3
        have f0 : w3.cell? ⟨w1.heap.size, 0, none⟩ = some (.int .i64 z.at_) := hB3.cell 0
        have f1 : w3.cell? ⟨w1.heap.size, 1, none⟩ = some (.int .i64 z.line) := hB3.cell 1
        have f2 : w3.cell? ⟨w1.heap.size, 2, none⟩ = some (.int .i64 z.col) := hB3.cell 2
        try simp only [Act.put]
        go_cut [37] (fun s37 wx => s37 = .bool false ∧ Below w.heap.size w wx)
        case first =>
          go_quiet (fail)
          go_wp2_with fail
          go_meet
          exact ⟨rfl, by first | exact hbw3 | exact below_drewN hbw3 _⟩
        case rest =>
          obtain ⟨rfl, hbx⟩ := hcut
          clear e0 e1 e2 f0 f1 f2 xn
          go_wp2_with fail
          go_roundw
          case rel => exact ⟨i + 1, by omega, by go_num, hbx⟩
          case measure => simp [intOf]; omega
    · have i0 : decide ((i : Int) < (E.length : Int)) = false := by rw [decide_eq_false_iff_not]; omega
      go_wp2_with fail
      go_ret
      exact ⟨rfl, hB⟩
set_option maxRecDepth 100000 in
theorem keptM_any (es : List Lx.Mk) (g c : Nat) (At : Option Addr) (ct : Nat) (w : World) {base : Nat} (ho : w.ownsRow base 136 3 (.slice (some ⟨g, 0, none⟩) (es.length + 16) c) (es.length + 16) (mkC (es ++ marksM 16))) (hc : es.length + 16 ≤ c) (hR2 : RdRow w (.slice At es.length ct) es.length (mkC es)) (hn : es.length ≤ 1100000) :
    Calls Tryz.prog 74 #[.slice (some ⟨g, 0, none⟩) es.length c, .slice At es.length ct] w fun e w' => e = .returned (.bool true) ∧ Below w.heap.size w w' := by
  obtain ⟨E, hE⟩ : ∃ E, E = es ++ marksM 16 := ⟨_, rfl⟩
  have hl : E.length = es.length + 16 := by rw [hE, List.length_append, marksM_len]
  have HR1 : Hid (RdRow w (.slice (some ⟨g, 0, none⟩) E.length c) E.length (mkC E)) := Lib.hid (by rw [← hE, ← hl] at ho; exact RdRow.own ho)
  have HR2 := Lib.hid hR2
  have HE := Lib.hid hE
  have t0 : ((es.length : Int) != (es.length : Int)) = false := by simp
  have i1 : (0 : Int) ≤ (es.length : Int) + 16 := by omega
  have i2 : (es.length : Int) + 16 ≤ (c : Int) := by omega
  clear hR2 hE ho
  go_enter Tryz.func74, Tryz.ntmps74
  go_wp2_with fail
  have hk := keptFullM_any es E HE.out (some ⟨g, 0, none⟩) At c ct w HR1.out HR2.out hn
  rw [hl] at hk
  refine hk.mono ?_
  rintro e w1 ⟨rfl, b1⟩
  go_wp2_with fail
  go_ret
  exact ⟨rfl, b1⟩
end Go.Proofs.YtpgnfianffjpnaaGreatDoor
namespace Go.Proofs.YtpgnfianffjpnaaGreatDoor
open Go Go.RowKit
theorem marksD_at (n i : Nat) (h : i < n) : (marksD n)[i]? = some (mkD 90 (i : Int)) := by simp [marksD, h]
theorem lentD_at (es : List Lx.Dc) (i : Nat) (h : i < (es ++ marksD 16).length) : (es ++ marksD 16)[i] = if h2 : i < es.length then es[i] else mkD 90 ((i : Int) - (es.length : Int)) := by
  split
  · rename_i h2
    rw [List.getElem_append_left h2]
  · rename_i h2
    rw [List.getElem_append_right (by omega)]
    have h3 : i - es.length < (marksD 16).length := by rw [List.length_append] at h; omega
    have e := marksD_at 16 (i - es.length) (by rw [marksD_len] at h3; exact h3)
    rw [List.getElem?_eq_getElem h3] at e
    rw [Option.some.inj e]
    congr 1
    omega
set_option maxRecDepth 100000 in
set_option maxHeartbeats 1000000 in
theorem equalIn_dc (z : Lx.Dc) (w : World) : (Op.equalIn 10000 83 (.agg #[.string (bs z.name), .bool z.raw, .int .i64 z.line, .string (bs z.text)]) (.agg #[.string (bs z.name), .bool z.raw, .int .i64 z.line, .string (bs z.text)])).run Tryz.prog w = .ok true w := by
  rw [run_equalIn_struct w 9999 _ _ _ (by kernel_rfl) (by kernel_rfl)]
  simp only [Program.fieldsOf, Tryz.underlying83]
  simp [go_sem, toList_bs]
theorem neq_dc (z : Lx.Dc) (w : World) : (binOp .neq 83 (.agg #[.string (bs z.name), .bool z.raw, .int .i64 z.line, .string (bs z.text)]) (.agg #[.string (bs z.name), .bool z.raw, .int .i64 z.line, .string (bs z.text)])).run Tryz.prog w = .ok (.bool false) w := by
  rw [run_neq_struct, equalIn_dc]; rfl
set_option maxRecDepth 100000 in
set_option maxHeartbeats 1000000 in
theorem keptFullD_any (es E : List Lx.Dc) (hE : E = es ++ marksD 16) (A1 At : Option Addr) (c1 ct : Nat) (w : World) (hR1 : RdRow w (.slice A1 E.length c1) E.length (dcC E)) (hR2 : RdRow w (.slice At es.length ct) es.length (dcC es)) (hn : es.length ≤ 1100000) : Calls Tryz.prog 132 #[.slice A1 E.length c1, .slice At es.length ct] w fun e w' => e = .returned (.bool true) ∧ Below w.heap.size w w' := by
  have hl : E.length = es.length + 16 := by rw [hE, List.length_append, marksD_len]
  have HE : Hid (∀ i (h : i < E.length), E[i] = if h2 : i < es.length then es[i] else mkD 90 ((i : Int) - (es.length : Int))) := Lib.hid (by subst hE; exact lentD_at es)
  have HR1 := Lib.hid hR1
  have HR2 := Lib.hid hR2
  have t0 : ((E.length : Int) != (es.length : Int) + 16) = false := by rw [hl]; simp
  have hl1 : E.length ≤ es.length + 16 := by omega
  have hl2 : es.length + 16 ≤ E.length := by omega
  clear hR1 hR2 hE hl
  go_enter Tryz.func132, Tryz.ntmps132
  go_wp2_with fail
  go_loopw [5, 6] (fun t5 _ wr => ∃ i : Nat, i ≤ E.length ∧ t5 = .int .i64 (i : Int) ∧ Below w.heap.size w wr) (fun t5 _ _ => E.length - (intOf t5).toNat)
  case atStart => exact ⟨0, by omega, rfl, Below.refl _ _⟩
  case round =>
    obtain ⟨i, hi, rfl, hB⟩ := hrel
    have j0 : (0 : Int) ≤ (i : Int) := by omega
    rcases Nat.lt_or_ge i E.length with hin | hin
    · have i0 : decide ((i : Int) < (E.length : Int)) = true := by rw [decide_eq_true_eq]; omega
      have i1 : (i : Int) < (E.length : Int) := by omega
      have hw : IntKind.i64.wrap ((i : Int) - (es.length : Int)) = (i : Int) - (es.length : Int) := by
        unfold IntKind.wrap
        simp [IntKind.bits, IntKind.signed]
        omega
      obtain ⟨y, hy⟩ : ∃ y, Hid (mkD 90 ((i : Int) - (es.length : Int)) = y) := ⟨_, Lib.hid rfl⟩
      have hEi := HE.out i hin
      obtain ⟨z, hz⟩ : ∃ z, Hid (E[i] = z) := ⟨_, Lib.hid rfl⟩
      have xn := neq_dc z
      have HOUT : Hid (∀ w2, Below w.heap.size w w2 → ∃ g o, A1 = some ⟨g, o, none⟩ ∧ w2.cell? ⟨g, o + i * 4, none⟩ = some (.string (bs z.name)) ∧ w2.cell? ⟨g, o + i * 4 + 1, none⟩ = some (.bool z.raw) ∧ w2.cell? ⟨g, o + i * 4 + 2, none⟩ = some (.int .i64 z.line) ∧ w2.cell? ⟨g, o + i * 4 + 3, none⟩ = some (.string (bs z.text))) := Lib.hid fun w2 hb2 => by
        obtain ⟨g, o, c, hvl, c0, c1', c2, c3⟩ := (HR1.out.new hb2).doc i hin
        rw [hz.out] at c0 c1' c2 c3
        injection hvl with e1 _ _
        exact ⟨g, o, e1, c0, c1', c2, c3⟩
      by_cases hlt : i < es.length
      · rw [dif_pos hlt, hz.out] at hEi
        have k0 : decide ((i : Int) < (es.length : Int)) = true := by rw [decide_eq_true_eq]; omega
        have k1 : (i : Int) < (es.length : Int) := by omega
        have HIN : Hid (∀ w2, Below w.heap.size w w2 → ∃ g o, At = some ⟨g, o, none⟩ ∧ w2.cell? ⟨g, o + i * 4, none⟩ = some (.string (bs z.name)) ∧ w2.cell? ⟨g, o + i * 4 + 1, none⟩ = some (.bool z.raw) ∧ w2.cell? ⟨g, o + i * 4 + 2, none⟩ = some (.int .i64 z.line) ∧ w2.cell? ⟨g, o + i * 4 + 3, none⟩ = some (.string (bs z.text))) := Lib.hid fun w2 hb2 => by
          obtain ⟨g, o, c, hvl, c0, c1', c2, c3⟩ := (HR2.out.new hb2).doc i hlt
          rw [← hEi] at c0 c1' c2 c3
          injection hvl with e1 _ _
          exact ⟨g, o, e1, c0, c1', c2, c3⟩
        obtain ⟨g2, o2, hA2, _⟩ := HIN.out wr hB
        subst hA2
        obtain ⟨g1, o1, hA1, _⟩ := HOUT.out wr hB
        subst hA1
        have HIN1 : Hid (∀ w2, Below w.heap.size w w2 → w2.cell? ⟨g2, o2 + i * 4, none⟩ = some (.string (bs z.name)) ∧ w2.cell? ⟨g2, o2 + i * 4 + 1, none⟩ = some (.bool z.raw) ∧ w2.cell? ⟨g2, o2 + i * 4 + 2, none⟩ = some (.int .i64 z.line) ∧ w2.cell? ⟨g2, o2 + i * 4 + 3, none⟩ = some (.string (bs z.text))) := Lib.hid fun w2 hb2 => by
          obtain ⟨g', o', e, h⟩ := HIN.out w2 hb2
          injection e with e
          injection e with e3 e4
          subst e3 e4
          exact h
        have HOUT1 : Hid (∀ w2, Below w.heap.size w w2 → w2.cell? ⟨g1, o1 + i * 4, none⟩ = some (.string (bs z.name)) ∧ w2.cell? ⟨g1, o1 + i * 4 + 1, none⟩ = some (.bool z.raw) ∧ w2.cell? ⟨g1, o1 + i * 4 + 2, none⟩ = some (.int .i64 z.line) ∧ w2.cell? ⟨g1, o1 + i * 4 + 3, none⟩ = some (.string (bs z.text))) := Lib.hid fun w2 hb2 => by
          obtain ⟨g', o', e, h⟩ := HOUT.out w2 hb2
          injection e with e
          injection e with e3 e4
          subst e3 e4
          exact h
        clear hEi
        go_upto_region 9 with (first | (go_at_call 123; refine (markDocs_any _ _ _ hy).mono ?_; rintro e w1 ⟨rfl, hb1⟩; have hbw1 := below_of_below hB hb1 hB.size) | (refine wpList_store_st rfl _ _ _ rfl docT w1.heap.size #[.string (bs y.name), .bool y.raw, .int .i64 y.line, .string (bs y.text)] _ rfl rfl (Blk.new _ _ _) rfl rfl rfl ?_; intro w3 hB3 hg3 hz3; have hbw3 := (hbw1.alloc hbw1.size _).grown hg3 (hbw1.alloc hbw1.size _).size (fun k e => by cases e; exact hbw1.size); obtain ⟨d0, d1, d2, d3⟩ := HIN1.out w3 hbw3) | (refine wpList_store_st rfl _ _ _ rfl docT w1.heap.size #[.string (bs z.name), .bool z.raw, .int .i64 z.line, .string (bs z.text)] _ rfl rfl hB3 rfl rfl rfl ?_; intro w4 hB4 hg4 hz4; have hbw4 := hbw3.grown hg4 hbw3.size (fun k e => by cases e; exact hbw1.size)))
        obtain ⟨e0, e1, e2, e3⟩ := HOUT1.out w4 hbw4
        have f0 : w4.cell? ⟨w1.heap.size, 0, none⟩ = some (.string (bs z.name)) := hB4.cell 0
        have f1 : w4.cell? ⟨w1.heap.size, 1, none⟩ = some (.bool z.raw) := hB4.cell 1
        have f2 : w4.cell? ⟨w1.heap.size, 2, none⟩ = some (.int .i64 z.line) := hB4.cell 2
        have f3 : w4.cell? ⟨w1.heap.size, 3, none⟩ = some (.string (bs z.text)) := hB4.cell 3
        try simp only [Act.put]
        go_cut [37] (fun s37 wx => s37 = .bool false ∧ Below w.heap.size w wx)
        case first =>
          go_quiet (fail)
          go_wp2_with fail
          go_meet
          exact ⟨rfl, by first | exact hbw4 | exact below_drewN hbw4 _⟩
        case rest =>
          obtain ⟨rfl, hbx⟩ := hcut
          clear e0 e1 e2 e3 f0 f1 f2 f3 xn
          go_wp2_with fail
          go_roundw
          case rel => exact ⟨i + 1, by omega, by go_num, hbx⟩
          case measure => simp [intOf]; omega
      · rw [dif_neg hlt, hz.out, hy.out] at hEi
        subst hEi
        have k0 : decide ((i : Int) < (es.length : Int)) = false := by rw [decide_eq_false_iff_not]; omega
        have k1 : ¬ (i < es.length) := hlt
        obtain ⟨g1, o1, hA1, _⟩ := HOUT.out wr hB
        subst hA1
        have HOUT1 : Hid (∀ w2, Below w.heap.size w w2 → w2.cell? ⟨g1, o1 + i * 4, none⟩ = some (.string (bs z.name)) ∧ w2.cell? ⟨g1, o1 + i * 4 + 1, none⟩ = some (.bool z.raw) ∧ w2.cell? ⟨g1, o1 + i * 4 + 2, none⟩ = some (.int .i64 z.line) ∧ w2.cell? ⟨g1, o1 + i * 4 + 3, none⟩ = some (.string (bs z.text))) := Lib.hid fun w2 hb2 => by
          obtain ⟨g', o', e, h⟩ := HOUT.out w2 hb2
          injection e with e
          injection e with e3 e4
          subst e3 e4
          exact h
        go_upto_region 9 with (first | (go_at_call 123; refine (markDocs_any _ _ _ hy).mono ?_; rintro e w1 ⟨rfl, hb1⟩; have hbw1 := below_of_below hB hb1 hB.size) | (refine wpList_store_st rfl _ _ _ rfl docT w1.heap.size #[.string (bs z.name), .bool z.raw, .int .i64 z.line, .string (bs z.text)] _ rfl rfl (Blk.new _ _ _) rfl rfl rfl ?_; intro w3 hB3 hg3 hz3; have hbw3 := (hbw1.alloc hbw1.size _).grown hg3 (hbw1.alloc hbw1.size _).size (fun k e => by cases e; exact hbw1.size)))
        obtain ⟨e0, e1, e2, e3⟩ := HOUT1.out w3 hbw3
        have f0 : w3.cell? ⟨w1.heap.size, 0, none⟩ = some (.string (bs z.name)) := hB3.cell 0
        have f1 : w3.cell? ⟨w1.heap.size, 1, none⟩ = some (.bool z.raw) := hB3.cell 1
        have f2 : w3.cell? ⟨w1.heap.size, 2, none⟩ = some (.int .i64 z.line) := hB3.cell 2
        have f3 : w3.cell? ⟨w1.heap.size, 3, none⟩ = some (.string (bs z.text)) := hB3.cell 3
        try simp only [Act.put]
        go_cut [37] (fun s37 wx => s37 = .bool false ∧ Below w.heap.size w wx)
        case first =>
          go_quiet (fail)
          go_wp2_with fail
          go_meet
          exact ⟨rfl, by first | exact hbw3 | exact below_drewN hbw3 _⟩
        case rest =>
          obtain ⟨rfl, hbx⟩ := hcut
          clear e0 e1 e2 e3 f0 f1 f2 f3 xn
          go_wp2_with fail
          go_roundw
          case rel => exact ⟨i + 1, by omega, by go_num, hbx⟩
          case measure => simp [intOf]; omega
    · have i0 : decide ((i : Int) < (E.length : Int)) = false := by rw [decide_eq_false_iff_not]; omega
      go_wp2_with fail
      go_ret
      exact ⟨rfl, hB⟩
set_option maxRecDepth 100000 in
theorem keptD_any (es : List Lx.Dc) (g c : Nat) (At : Option Addr) (ct : Nat) (w : World) {base : Nat} (ho : w.ownsRow base 83 4 (.slice (some ⟨g, 0, none⟩) (es.length + 16) c) (es.length + 16) (dcC (es ++ marksD 16))) (hc : es.length + 16 ≤ c) (hR2 : RdRow w (.slice At es.length ct) es.length (dcC es)) (hn : es.length ≤ 1100000) :
    Calls Tryz.prog 75 #[.slice (some ⟨g, 0, none⟩) es.length c, .slice At es.length ct] w fun e w' => e = .returned (.bool true) ∧ Below w.heap.size w w' := by
  obtain ⟨E, hE⟩ : ∃ E, E = es ++ marksD 16 := ⟨_, rfl⟩
  have hl : E.length = es.length + 16 := by rw [hE, List.length_append, marksD_len]
  have HR1 : Hid (RdRow w (.slice (some ⟨g, 0, none⟩) E.length c) E.length (dcC E)) := Lib.hid (by rw [← hE, ← hl] at ho; exact RdRow.own ho)
  have HR2 := Lib.hid hR2
  have HE := Lib.hid hE
  have t0 : ((es.length : Int) != (es.length : Int)) = false := by simp
  have i1 : (0 : Int) ≤ (es.length : Int) + 16 := by omega
  have i2 : (es.length : Int) + 16 ≤ (c : Int) := by omega
  clear hR2 hE ho
  go_enter Tryz.func75, Tryz.ntmps75
  go_wp2_with fail
  have hk := keptFullD_any es E HE.out (some ⟨g, 0, none⟩) At c ct w HR1.out HR2.out hn
  rw [hl] at hk
  refine hk.mono ?_
  rintro e w1 ⟨rfl, b1⟩
  go_wp2_with fail
  go_ret
  exact ⟨rfl, b1⟩
end Go.Proofs.YtpgnfianffjpnaaGreatDoor
namespace Go.Proofs.YtpgnfianffjpnaaGreatDoor.Ak
open Go.RowKit

theorem refl_grown (w : World) (row : Option Nat) : w.grownBy w row := ⟨rfl, rfl, rfl, Nat.le_refl _, fun _ _ _ => rfl⟩
theorem trans_grown {a b c : World} {row : Option Nat} (h : a.grownBy b row) (k : b.grownBy c row) : a.grownBy c row :=
  ⟨k.os.trans h.os, k.tape.trans h.tape, k.output.trans h.output, Nat.le_trans h.size k.size, fun i hi hne => (k.block i (Nat.lt_of_lt_of_le hi h.size) hne).trans (h.block i hi hne)⟩
/-- append onto a row of the call's own: in place, or into a new block; and in which of the two nothing else turns. -/
theorem run_append_split {P : Program} (w : World) (base : Nat) (t ty e : TypeId) (i : TypeInfo) (z : Value) (size bytes : Nat) (ht : P.underlying t = some (.slice e)) (hi : P.info? e = some i) (hz : i.zero = some z)
    (hsize : i.size = size) (hby : i.bytes = bytes) (hzs : z.cells.size = size) (hsz : 0 < size)
    (v : Value) (n : Nat) (xs : List Value) (hown : w.ownsRow base e size v n xs)
    (a : Addr) (m c : Nat) (news : List Value) (hl : news.length = m * size) (hnews : ∀ j u, news[j]? = some u → w.cell? (a.add j) = some u) (h1 : ∀ u ∈ news, u.oneCell' = true)
    (h63 : n + m ≤ maxLen) (hbytes : (n + m) * bytes ≤ 140737488355328) (hbase : base ≤ w.heap.size) (hm : 0 < m) :
    ∃ v' w', (Builtin.append_ #[t, t] ty #[v, .slice (some a) m c]).run P w = .ok v' w' ∧ w'.ownsRow base e size v' (n + m) (xs ++ news) ∧
      ((v'.ownBlock = v.ownBlock ∧ w.grownBy w' v.ownBlock) ∨ (v'.ownBlock = some w.heap.size ∧ w.grownBy w' none)) := by
  subst hsize
  subst hby
  have hsmall : n + m ≤ 9223372036854775807 := by simp only [maxLen] at h63; omega
  have hlen : (xs ++ news).length = (n + m) * i.size := by rw [List.length_append, hown.1, hl, Nat.add_mul]
  have grown : ∀ (old : Nat), old < n + m → ∀ (row : Option Nat),
      (w.drew.alloc (.cells (xs.toArray ++ news.toArray ++ Builtin.zeroCells z.cells (grownCap w (n + m) old e - (n + m))) e)).ownsRow base e i.size
        (.slice (some ⟨w.heap.size, 0, none⟩) (n + m) (grownCap w (n + m) old e)) (n + m) (xs ++ news) ∧
      w.grownBy (w.drew.alloc (.cells (xs.toArray ++ news.toArray ++ Builtin.zeroCells z.cells (grownCap w (n + m) old e - (n + m))) e)) row := by
    intro old ho row
    have hge := grownCap_ge w (n + m) old e
    have hcm : grownCap w (n + m) old e ≤ maxLen := grownCap_le_maxLen w (n + m) old e h63
    refine ⟨⟨hlen, .inr ⟨w.heap.size, _, _, rfl, hbase, heap_alloc_new w.drew _, hge, hcm, ?_, ?_⟩⟩, ⟨rfl, rfl, rfl, by simp, fun k hk _ => Below.heap_alloc w.drew _ k hk⟩⟩
    · simp only [Array.size_append, List.size_toArray, size_zeroCells, hzs, hown.1, hl, ← Nat.add_mul]
      congr 1
      omega
    · simp only [Array.toList_append, List.append_assoc]
      rw [← List.append_assoc, ← hlen]
      exact List.take_left
  rcases hown.2 with ⟨rfl, rfl⟩ | ⟨g, cap, cur, rfl, hbg, hg, hnc, hcm, hcs, htake⟩
  · have hx : xs = [] := List.eq_nil_of_length_eq_zero (by simpa using hown.1)
    subst hx
    have hr := run_append_nil (P := P) w t ty e i z ht hi hz a m c news hl hnews (by omega) (by omega) (by have hb := hbytes; simp only [Nat.zero_add] at hb; omega)
    have hgr := grown 0 (by omega) none
    simp only [Nat.zero_add, List.nil_append, Array.empty_append] at hgr ⊢
    exact ⟨_, _, hr, hgr.1, Or.inr ⟨rfl, hgr.2⟩⟩
  · by_cases hroom : n + m ≤ cap
    · have hfit : n * i.size + news.length ≤ cur.size := by rw [hl, hcs, ← Nat.add_mul]; exact Nat.mul_le_mul_right _ hroom
      have hr := run_append_room (P := P) w t ty e i ht hi g n cap cur hg a m c news hl hnews h1 hroom hfit
      refine ⟨_, _, hr, ⟨hlen, .inr ⟨g, cap, _, rfl, hbg, setRow_heap w g cur _ e _ hg, hroom, hcm, ?_, ?_⟩⟩, Or.inl ⟨rfl, ⟨rfl, rfl, rfl, by simp, fun k _ hk => setRow_other w g k _ (fun e => hk (by simp [Value.ownBlock, e]))⟩⟩⟩
      · simp only [List.size_toArray, List.length_append, List.length_take, List.length_drop, Array.length_toList]
        omega
      · rw [htake, ← hlen]
        exact List.take_left
    · have holds : ∀ j u, xs[j]? = some u → w.cell? ((⟨g, 0, none⟩ : Addr).add j) = some u := hown.cells (g := g) rfl
      have hr := run_append_grow (P := P) w t ty e i z ht hi hz ⟨g, 0, none⟩ n cap xs hown.1 holds a m c news hl hnews (by omega) (by omega) (growslice_fits (by omega) hbytes)
      have hgr := grown cap (by omega) none
      exact ⟨_, _, hr, hgr.1, Or.inr ⟨rfl, hgr.2⟩⟩
theorem wpList_app_split {P : Program} {W : World} {ops : Array Oper} {rest : List Oper} {o : Oper} {a : Act} {Q : Exit → Act → World → Prop} (hgd : o.guard = none) (s x : Operand) (t : TypeId)
    (ho : o.op = .call { callee := .builtin .append, args := #[s, x], argTypes := #[t, t] })
    {e : TypeId} {z : Value} {k bytes : Nat} (E : ElemK P t e z k bytes)
    (base : Nat) (v : Value) (n : Nat) (xs : List Value) (hs : a.eval s = v) (hown : W.ownsRow base e k v n xs)
    (ad : Addr) (m c : Nat) (news : List Value) (hx : a.eval x = .slice (some ad) m c) (hl : news.length = m * k) (hnews : ∀ j u, news[j]? = some u → W.cell? (ad.add j) = some u) (h1 : ∀ u ∈ news, u.oneCell' = true)
    (h63 : n + m ≤ 9223372036854775807) (hbytes : (n + m) * bytes ≤ 140737488355328) (hbase : base ≤ W.heap.size) (hm : 0 < m)
    (h : ∀ v' w', w'.ownsRow base e k v' (n + m) (xs ++ news) → ((v'.ownBlock = v.ownBlock ∧ W.grownBy w' v.ownBlock) ∨ (v'.ownBlock = some W.heap.size ∧ W.grownBy w' none)) → wpList P ops Q rest (a.put o.dst v') w') : wpList P ops Q (o :: rest) a W := by
  obtain ⟨i, hi, hz, hsz, hby⟩ := info_parts E.hi
  refine wpList_plain hgd fun K hK => ?_
  obtain ⟨v', w', hr, h2, h3⟩ := run_append_split (P := P) W base t o.type e i z k bytes E.ht hi hz hsz hby E.hz E.h0 v n xs hown ad m c news hl hnews h1 (by unfold maxLen; omega) hbytes hbase hm
  unfold Oper.wp execOp
  simp only [ho, resolve, invoke, builtin, Sem.run_bind, Sem.run_pure, Result.andThen_ok, List.map_toArray, List.map_cons, List.map_nil, hs, hx, hr]
  exact hK _ _ (h v' w' h2 h3)
theorem split_grown {w w' : World} {v v' : Value} (h : (v'.ownBlock = v.ownBlock ∧ w.grownBy w' v.ownBlock) ∨ (v'.ownBlock = some w.heap.size ∧ w.grownBy w' none)) : w.grownBy w' v.ownBlock := by
  rcases h with ⟨_, hg⟩ | ⟨_, hg⟩
  · exact hg
  · exact ⟨hg.os, hg.tape, hg.output, hg.size, fun i hi _ => hg.block i hi (by simp)⟩
/-- rows of different element types lie in different blocks. -/
theorem own_ne {w : World} {b b' : Nat} {e e' : TypeId} {size size' : Nat} {v v' : Value} {n n' : Nat} {xs xs' : List Value} (h : w.ownsRow b e size v n xs) (h' : w.ownsRow b' e' size' v' n' xs') (hne : e ≠ e') : v.ownBlock = none ∨ v.ownBlock ≠ v'.ownBlock := by
  rcases h.2 with ⟨rfl, _⟩ | ⟨g, cap, cur, rfl, _, hg, _⟩
  · exact .inl rfl
  · right
    rcases h'.2 with ⟨rfl, _⟩ | ⟨g', cap', cur', rfl, _, hg', _⟩
    · simp [Value.ownBlock]
    · intro he
      have : g = g' := by simpa [Value.ownBlock] using he
      subst this
      rw [hg] at hg'
      injection hg' with hg'
      injection hg' with _ ht
      exact hne ht
theorem blk_ne {w : World} {b g : Nat} {e e' : TypeId} {size : Nat} {v : Value} {n : Nat} {xs : List Value} {cs : Array Value} (h : w.ownsRow b e size v n xs) (h' : w.heap[g]? = some (.cells cs e' (0, 0))) (hne : e ≠ e') : some g ≠ v.ownBlock := by
  rcases h.2 with ⟨rfl, _⟩ | ⟨g', cap, cur, rfl, _, hg, _⟩
  · simp [Value.ownBlock]
  · intro he
    have : g = g' := by simpa [Value.ownBlock] using he
    subst this
    rw [hg] at h'
    injection h' with h'
    injection h' with _ ht
    exact hne ht
/-- a row of the call's own: empty, or a block's beginning. -/
theorem own_two {w : World} {base : Nat} {e : TypeId} {k : Nat} {v : Value} {n : Nat} {xs : List Value} (h : w.ownsRow base e k v n xs) : (v = .slice none 0 0 ∧ n = 0) ∨ ∃ b c, v = .slice (some ⟨b, 0, none⟩) n c ∧ base ≤ b ∧ b < w.heap.size ∧ n ≤ c := by
  rcases h.2 with ⟨rfl, rfl⟩ | ⟨g, cap, cur, rfl, hb, hg, hn, _⟩
  · exact .inl ⟨rfl, rfl⟩
  · exact .inr ⟨g, cap, rfl, hb, (Array.getElem?_eq_some_iff.1 hg).1, hn⟩

/-- so many values put into a list. -/
def putL (xs : List Value) : Nat → List Value → List Value
  | _, [] => xs
  | o, v :: r => putL (xs.set o v) (o + 1) r
theorem putL_eq : ∀ (l A B : List Value), l.length ≤ B.length → putL (A ++ B) A.length l = A ++ l ++ B.drop l.length
  | [], A, B, _ => by simp [putL]
  | v :: r, A, [], h => by simp at h
  | v :: r, A, b :: B, h => by
    have ih := putL_eq r (A ++ [v]) B (by simpa using h)
    have e1 : (A ++ b :: B).set A.length v = (A ++ [v]) ++ B := by
      rw [List.set_append, if_neg (by omega), Nat.sub_self, List.set_cons_zero, List.append_assoc]
      rfl
    have e2 : (A ++ [v]).length = A.length + 1 := by simp
    unfold putL
    rw [e1, ← e2, ih]
    simp
theorem own_setCells {base g : Nat} {e : TypeId} {k n cap : Nat} : ∀ (l : List Value) (o : Nat) (w : World) (xs : List Value), w.ownsRow base e k (.slice (some ⟨g, 0, none⟩) n cap) n xs →
    (w.setCells g o l).ownsRow base e k (.slice (some ⟨g, 0, none⟩) n cap) n (putL xs o l) ∧ w.grownBy (w.setCells g o l) (some g)
  | [], _, w, _, h => ⟨h, refl_grown w _⟩
  | v :: r, o, w, xs, h => by
    have h1 := h.stored o v
    have h2 := own_setCells r (o + 1) _ _ h1.1
    exact ⟨h2.1, trans_grown h1.2 h2.2⟩

/-- the marks of list j. -/
def marks (mk : Nat → Nat → List Value) (j n : Nat) : List Value := (List.range n).flatMap (mk j)
theorem marks_succ (mk : Nat → Nat → List Value) (j n : Nat) : marks mk j (n + 1) = marks mk j n ++ mk j n := by simp [marks, List.range_succ]
theorem marks_length {mk : Nat → Nat → List Value} {K : Nat} (hk : ∀ j i, (mk j i).length = K) (j : Nat) : ∀ n, (marks mk j n).length = n * K
  | 0 => by simp [marks]
  | n + 1 => by rw [marks_succ, List.length_append, marks_length hk j n, hk, Nat.add_mul, Nat.one_mul]
theorem marks_get {mk : Nat → Nat → List Value} {K : Nat} (hk : ∀ j i, (mk j i).length = K) (j : Nat) : ∀ (n i r : Nat), i < n → r < K → (marks mk j n)[i * K + r]? = (mk j i)[r]?
  | 0, _, _, h, _ => absurd h (by omega)
  | n + 1, i, r, h, hr => by
    rw [marks_succ]
    by_cases hi : i < n
    · have : i * K + r < n * K := by
        have : (i + 1) * K ≤ n * K := Nat.mul_le_mul_right K hi
        rw [Nat.add_mul, Nat.one_mul] at this
        omega
      rw [List.getElem?_append_left (by rw [marks_length hk]; exact this), marks_get hk j n i r hi hr]
    · obtain rfl : i = n := by omega
      rw [List.getElem?_append_right (by rw [marks_length hk]; omega), marks_length hk, Nat.add_sub_cancel_left]

/-- what list j holds when the first k lists, and i places of list k, are written over. -/
def cont (mk : Nat → Nat → List Value) (N : Nat → Nat) (X : Nat → List Value) (K k i j : Nat) : List Value :=
  if j < k then marks mk j (N j) else if j = k then marks mk k i ++ (X k).drop (i * K) else X j

section
variable {base B0 K m : Nat} {e : TypeId} {V : Nat → Value} {N : Nat → Nat} {mk : Nat → Nat → List Value} {X : Nat → List Value} {col : Nat → Nat} {w w' : World}

/-- while the lists are written over: each list owns its row, each row's block has the list's colour. -/
def P1 (base : Nat) (e : TypeId) (K m : Nat) (V : Nat → Value) (N : Nat → Nat) (mk : Nat → Nat → List Value) (X : Nat → List Value) (col : Nat → Nat) (k i : Nat) (w : World) : Prop :=
  ∀ j, j < m → w.ownsRow base e K (V j) (N j) (cont mk N X K k i j) ∧ ∀ b, (V j).ownBlock = some b → col b = j
theorem P1.start (h : ∀ j, j < m → w.ownsRow base e K (V j) (N j) (X j) ∧ ∀ b, (V j).ownBlock = some b → col b = j) : P1 base e K m V N mk X col 0 0 w := by
  intro j hj
  refine ⟨?_, (h j hj).2⟩
  have : cont mk N X K 0 0 j = X j := by
    unfold cont
    rw [if_neg (by omega)]
    split
    · rename_i h0; subst h0; simp [marks]
    · rfl
  rw [this]
  exact (h j hj).1
theorem P1.next {k : Nat} (h : P1 base e K m V N mk X col k (N k) w) (hX : ∀ j, j < m → (X j).length = N j * K) : P1 base e K m V N mk X col (k + 1) 0 w := by
  intro j hj
  refine ⟨?_, (h j hj).2⟩
  have : cont mk N X K (k + 1) 0 j = cont mk N X K k (N k) j := by
    unfold cont
    by_cases h1 : j < k
    · rw [if_pos (by omega), if_pos h1]
    · by_cases h2 : j = k
      · subst h2
        rw [if_pos (by omega), if_neg (by omega), if_pos rfl, List.drop_of_length_le (by rw [hX j hj]; omega), List.append_nil]
      · rw [if_neg (by omega), if_neg h1, if_neg h2]
        split
        · rename_i h3; subst h3; simp [marks]
        · rfl
  rw [this]
  exact (h j hj).1
theorem P1.below {k i : Nat} (h : P1 base e K m V N mk X col k i w) (hb : Below w.heap.size w w') : P1 base e K m V N mk X col k i w' :=
  fun j hj => ⟨own_below (h j hj).1 hb, (h j hj).2⟩
theorem P1.form {k i j : Nat} (h : P1 base e K m V N mk X col k i w) (hj : j < m) : ∃ A c, V j = .slice A (N j) c := ownk_form (h j hj).1
theorem P1.at_ {k i : Nat} (h : P1 base e K m V N mk X col k i w) (hk : k < m) (hi : i < N k) :
    ∃ b c, V k = .slice (some ⟨b, 0, none⟩) (N k) c ∧ base ≤ b ∧ b < w.heap.size ∧ N k ≤ c ∧ w.there b (i * K) K := by
  have ho := (h k hk).1
  rcases own_two ho with ⟨_, h0⟩ | ⟨b, c, hv, hb, hlt, hc⟩
  · omega
  · refine ⟨b, c, hv, hb, hlt, hc, fun r hr => ?_⟩
    rw [hv] at ho
    have hlt2 : i * K + r < N k * K := by
      have : (i + 1) * K ≤ N k * K := Nat.mul_le_mul_right K hi
      rw [Nat.add_mul, Nat.one_mul] at this
      omega
    refine ⟨?_, ho.frozenAt _⟩
    rw [ho.cellAt _ hlt2, List.getElem?_eq_getElem (by rw [ho.1]; exact hlt2)]
    rfl
theorem P1.store {k i b c : Nat} (hmk : ∀ j i, (mk j i).length = K) (h : P1 base e K m V N mk X col k i w) (hk : k < m) (hi : i < N k) (hX : (X k).length = N k * K) (hV : V k = .slice (some ⟨b, 0, none⟩) (N k) c) :
    P1 base e K m V N mk X col k (i + 1) (w.setCells b (i * K) (mk k i)) := by
  intro j hj
  refine ⟨?_, (h j hj).2⟩
  by_cases hjk : j = k
  · subst hjk
    have ho := (h j hj).1
    rw [hV] at ho ⊢
    have hs := (own_setCells (mk j i) (i * K) _ _ ho).1
    have hc : putL (cont mk N X K j i j) (i * K) (mk j i) = cont mk N X K j (i + 1) j := by
      unfold cont
      rw [if_neg (by omega), if_pos rfl, if_neg (by omega), if_pos rfl, marks_succ]
      have hle : (i + 1) * K ≤ N j * K := Nat.mul_le_mul_right K hi
      rw [Nat.add_mul, Nat.one_mul] at hle ⊢
      have := putL_eq (mk j i) (marks mk j i) ((X j).drop (i * K)) (by rw [hmk, List.length_drop, hX]; omega)
      rw [marks_length hmk, hmk, List.drop_drop] at this
      exact this
    rw [hc] at hs
    exact hs
  · have ho := (h j hj).1
    have hc : cont mk N X K k (i + 1) j = cont mk N X K k i j := by
      unfold cont
      rw [if_neg hjk, if_neg hjk]
    rw [hc]
    have ho2 := (h k hk).1
    rw [hV] at ho2
    refine ho.kept (own_setCells (mk k i) (i * K) _ _ ho2).2 ?_
    by_cases hn : (V j).ownBlock = none
    · exact .inl hn
    · right
      intro he
      have e1 := (h j hj).2 b he
      have e2 := (h k hk).2 b (by rw [hV]; rfl)
      omega

/-- a row's own block reads so. -/
def At (w : World) (v : Value) (xs : List Value) : Prop := ∀ i u, xs[i]? = some u → ∃ b, v.ownBlock = some b ∧ w.cell? ⟨b, i, none⟩ = some u
theorem At.of_own {n : Nat} {v : Value} {xs : List Value} (h : w.ownsRow base e K v n xs) : At w v xs := by
  intro i u hu
  rcases own_two h with ⟨_, rfl⟩ | ⟨b, c, rfl, _⟩
  · have := h.1
    rw [Nat.zero_mul] at this
    rw [List.eq_nil_of_length_eq_zero this] at hu
    simp at hu
  · refine ⟨b, rfl, ?_⟩
    have hi : i < n * K := by rw [← h.1]; exact (List.getElem?_eq_some_iff.1 hu).1
    rw [h.cellAt i hi]
    exact hu
theorem At.keep {v : Value} {xs : List Value} (h : At w v xs) (hk : ∀ b, v.ownBlock = some b → w'.heap[b]? = w.heap[b]?) : At w' v xs := by
  intro i u hu
  obtain ⟨b, hb, hc⟩ := h i u hu
  exact ⟨b, hb, (World.cell?_of_block (a := ⟨b, i, none⟩) (hk b hb)).trans hc⟩
/-- while marks are put behind: each list's colour has a row (H j) with so many marks (C j); the list itself reads as its marks. -/
def P2 (base B0 : Nat) (e : TypeId) (K m : Nat) (V : Nat → Value) (N : Nat → Nat) (mk : Nat → Nat → List Value) (col : Nat → Nat) (H : Nat → Value) (C : Nat → Nat) (w : World) : Prop :=
  ∀ j, j < m → w.ownsRow base e K (H j) (C j) (marks mk j (C j)) ∧ (∀ b, (H j).ownBlock = some b → col b = j) ∧ N j ≤ C j ∧ At w (V j) (marks mk j (N j)) ∧
    (∀ b, (V j).ownBlock = some b → col b = j ∧ b < w.heap.size) ∧ ((V j = .slice none 0 0 ∧ N j = 0) ∨ ∃ b c, V j = .slice (some ⟨b, 0, none⟩) (N j) c) ∧ (∀ b, (H j).ownBlock = some b → B0 ≤ b ∨ (V j).ownBlock = some b)
theorem P2.start {k : Nat} (h : P1 base e K m V N mk X col k 0 w) (hk : m ≤ k) : P2 base B0 e K m V N mk col V N w := by
  intro j hj
  have ho := (h j hj).1
  have hc : cont mk N X K k 0 j = marks mk j (N j) := by unfold cont; rw [if_pos (by omega)]
  rw [hc] at ho
  refine ⟨ho, (h j hj).2, Nat.le_refl _, At.of_own ho, fun b hb => ⟨(h j hj).2 b hb, ((ho.lt b hb)).2⟩, ?_, fun b hb => .inr hb⟩
  rcases own_two ho with h0 | ⟨b, c, hv, _⟩
  · exact .inl h0
  · exact .inr ⟨b, c, hv⟩
theorem P2.below {H : Nat → Value} {C : Nat → Nat} (h : P2 base B0 e K m V N mk col H C w) (hb : Below w.heap.size w w') : P2 base B0 e K m V N mk col H C w' := by
  intro j hj
  obtain ⟨a1, a2, a3, a4, a5, a6, a7⟩ := h j hj
  exact ⟨own_below a1 hb, a2, a3, a4.keep fun b hb' => hb.block b (a5 b hb').2, fun b hb' => ⟨(a5 b hb').1, Nat.lt_of_lt_of_le (a5 b hb').2 hb.size⟩, a6, a7⟩
theorem P2.form {H : Nat → Value} {C : Nat → Nat} (h : P2 base B0 e K m V N mk col H C w) {j : Nat} (hj : j < m) : ∃ A c, V j = .slice A (N j) c := by
  rcases (h j hj).2.2.2.2.2.1 with ⟨e1, e0⟩ | ⟨b, c, e1⟩
  · exact ⟨none, 0, by rw [e1, e0]⟩
  · exact ⟨_, _, e1⟩
/-- a row of another kind is written, or made. -/
theorem P2.grown {H : Nat → Value} {C : Nat → Nat} {row : Option Nat} (h : P2 base B0 e K m V N mk col H C w) (hg : w.grownBy w' row) (hr : ∀ j, j < m → ((H j).ownBlock = none ∨ (H j).ownBlock ≠ row) ∧ ((V j).ownBlock = none ∨ (V j).ownBlock ≠ row)) : P2 base B0 e K m V N mk col H C w' := by
  intro j hj
  obtain ⟨a1, a2, a3, a4, a5, a6, a7⟩ := h j hj
  refine ⟨a1.kept hg (hr j hj).1, a2, a3, a4.keep fun b hb => ?_, fun b hb' => ⟨(a5 b hb').1, Nat.lt_of_lt_of_le (a5 b hb').2 hg.size⟩, a6, a7⟩
  refine hg.block b (a5 b hb).2 ?_
  rcases (hr j hj).2 with h' | h'
  · rw [h'] at hb; cases hb
  · rw [hb] at h'; exact h'
/-- a mark is put behind row k. -/
theorem P2.app {H : Nat → Value} {C : Nat → Nat} {k : Nat} {v' : Value} (hB0 : B0 ≤ w.heap.size) (hmk : ∀ j i, (mk j i).length = K) (h : P2 base B0 e K m V N mk col H C w) (hk : k < m)
    (hown : w'.ownsRow base e K v' (C k + 1) (marks mk k (C k) ++ mk k (C k)))
    (hs : (v'.ownBlock = (H k).ownBlock ∧ w.grownBy w' (H k).ownBlock) ∨ (v'.ownBlock = some w.heap.size ∧ w.grownBy w' none)) :
    ∃ col', P2 base B0 e K m V N mk col' (fun j => if j = k then v' else H j) (fun j => if j = k then C k + 1 else C j) w' := by
  have hgrow : w.grownBy w' (H k).ownBlock := split_grown hs
  refine ⟨fun b => if b = w.heap.size then k else col b, fun j hj => ?_⟩
  obtain ⟨a1, a2, a3, a4, a5, a6, a7⟩ := h j hj
  have hltH : ∀ b, (H j).ownBlock = some b → b < w.heap.size := fun b hb => (a1.lt b hb).2
  by_cases hjk : j = k
  · subst hjk
    simp only [if_true]
    refine ⟨by rw [marks_succ]; exact hown, fun b hb => ?_, by omega, ?_, fun b hb => ?_, a6, fun b hb => ?_⟩
    · rcases hs with ⟨he, _⟩ | ⟨he, _⟩
      · rw [he] at hb
        have := hltH b hb
        rw [if_neg (by omega)]
        exact a2 b hb
      · rw [he] at hb
        obtain rfl := Option.some.inj hb
        rw [if_pos rfl]
    · intro i u hu
      obtain ⟨b, hvb, hc⟩ := a4 i u hu
      refine ⟨b, hvb, ?_⟩
      have hlt := (a5 b hvb).2
      rcases hs with ⟨he, hg⟩ | ⟨he, hg⟩
      · by_cases hbk : (H j).ownBlock = some b
        · obtain ⟨b2, hb2, hc2⟩ := At.of_own hown i u (by
            have hi : i < (marks mk j (N j)).length := (List.getElem?_eq_some_iff.1 hu).1
            have hpre : (marks mk j (C j))[i]? = some u := by
              rw [marks_length hmk] at hi
              have hK : 0 < K := by
                rcases Nat.eq_zero_or_pos K with h0 | h0
                · rw [h0, Nat.mul_zero] at hi; omega
                · exact h0
              have hd := Nat.div_add_mod i K
              have hq : i / K < N j := (Nat.div_lt_iff_lt_mul hK).2 hi
              have hr := Nat.mod_lt i hK
              have e1 := marks_get hmk j (N j) (i / K) (i % K) hq hr
              have e2 := marks_get hmk j (C j) (i / K) (i % K) (Nat.lt_of_lt_of_le hq a3) hr
              have e3 : i / K * K + i % K = i := by rw [Nat.mul_comm]; exact hd
              rw [e3] at e1 e2
              rw [e2, ← e1]
              exact hu
            rw [List.getElem?_append_left (List.getElem?_eq_some_iff.1 hpre).1]
            exact hpre)
          have : b2 = b := by
            rw [he, hbk] at hb2
            exact (Option.some.inj hb2).symm
          rw [this] at hc2
          exact hc2
        · exact (World.cell?_of_block (a := ⟨b, i, none⟩) (hg.block b hlt (fun h' => hbk h'.symm))).trans hc
      · exact (World.cell?_of_block (a := ⟨b, i, none⟩) (hg.block b hlt (by simp))).trans hc
    · obtain ⟨c1, c2⟩ := a5 b hb
      rw [if_neg (by omega)]
      exact ⟨c1, Nat.lt_of_lt_of_le c2 hgrow.size⟩
    · rcases hs with ⟨he, _⟩ | ⟨he, _⟩
      · rw [he] at hb
        exact a7 b hb
      · rw [he] at hb
        obtain rfl := Option.some.inj hb
        exact .inl hB0
  · simp only [if_neg hjk]
    have hHk : ∀ b, (H k).ownBlock = some b → col b = k := (h k hk).2.1
    refine ⟨a1.kept hgrow ?_, fun b hb => ?_, a3, ?_, fun b hb => ?_, a6, a7⟩
    · by_cases hn : (H j).ownBlock = none
      · exact .inl hn
      · right
        intro he
        obtain ⟨b, hb⟩ := Option.ne_none_iff_exists'.1 hn
        have c1 := a2 b hb
        have c2 := hHk b (by rw [← he]; exact hb)
        omega
    · have := hltH b hb
      rw [if_neg (by omega)]
      exact a2 b hb
    · refine a4.keep fun b hvb => hgrow.block b (a5 b hvb).2 ?_
      intro he
      have c1 := (a5 b hvb).1
      have c2 := hHk b he.symm
      omega
    · obtain ⟨c1, c2⟩ := a5 b hb
      rw [if_neg (by omega)]
      exact ⟨c1, Nat.lt_of_lt_of_le c2 hgrow.size⟩
end
/-- what is not one of the lists' blocks is as it was. -/
structure Fr (m : Nat) (V : Nat → Value) (w w' : World) : Prop where
  os : w'.os = w.os
  tape : w'.tape = w.tape
  output : w'.output = w.output
  size : w.heap.size ≤ w'.heap.size
  block : ∀ b, b < w.heap.size → (∀ j, j < m → (V j).ownBlock ≠ some b) → w'.heap[b]? = w.heap[b]?
section
variable {m : Nat} {V : Nat → Value} {w w1 w2 : World}
theorem Fr.refl : Fr m V w w := ⟨rfl, rfl, rfl, Nat.le_refl _, fun _ _ _ => rfl⟩
theorem Fr.grown {row : Option Nat} (h : Fr m V w w1) (hg : w1.grownBy w2 row) (hr : ∀ b, row = some b → w.heap.size ≤ b ∨ ∃ j, j < m ∧ (V j).ownBlock = some b) : Fr m V w w2 :=
  ⟨hg.os.trans h.os, hg.tape.trans h.tape, hg.output.trans h.output, Nat.le_trans h.size hg.size, fun b hb hn => (hg.block b (Nat.lt_of_lt_of_le hb h.size) (fun e => by
    rcases hr b e.symm with h1 | ⟨j, hj, h2⟩
    · omega
    · exact hn j hj h2)).trans (h.block b hb hn)⟩
theorem Fr.below (h : Fr m V w w1) (hb : Below w1.heap.size w1 w2) : Fr m V w w2 := h.grown (grown_of_below hb none) (fun b e => by cases e)
theorem Fr.to_below {B : Nat} (h : Fr m V w w1) (hB : B ≤ w.heap.size) (hV : ∀ j, j < m → ∀ b, (V j).ownBlock = some b → B ≤ b) : Below B w w1 :=
  ⟨h.os, h.tape, h.output, h.size, fun b hb => h.block b (by omega) (fun j hj e => by have := hV j hj b e; omega)⟩
end
end Go.Proofs.YtpgnfianffjpnaaGreatDoor.Ak
namespace Go.Proofs.YtpgnfianffjpnaaGreatDoor
open Go Go.RowKit
def mkMn (j i : Nat) : List Value := mkL (mkM (j : Int) (i : Int))
theorem mkMn_len : ∀ j i, (mkMn j i).length = 3 := fun _ _ => rfl
theorem slicesMn : ElemK Tryz.prog 42 61 (.slice none 0 0) 1 24 := ⟨Tryz.underlying42, by kernel_rfl, rfl, by decide⟩
theorem wpList_store_stb {P : Program} {W : World} {ops : Array Oper} {rest : List Oper} {o : Oper} {a : Act} {Q : Exit → Act → World → Prop} (hgd : o.guard = none) (x y : Operand) (t : TypeId) (ho : o.op = .store t x y)
    {k : Nat} (T : StK P t k) (g : Nat) (cs old : Array Value) (hx : a.eval x = .pointer (some ⟨g, 0, none⟩)) (hy : a.eval y = .agg cs) (hg : Blk W g t old) (hk1 : cs.size = k) (hk2 : old.size = k) (h1 : cs.toList.all (·.oneCell') = true)
    (hk : ∀ w', Blk w' g t cs → Below g W w' → w'.heap.size = W.heap.size → wpList P ops Q rest (a.put o.dst undef) w') : wpList P ops Q (o :: rest) a W :=
  wpList_store_st hgd x y t ho T g cs old hx hy hg hk1 hk2 h1 fun w' a1 a2 a3 => hk w' a1 ((Fx.of_grown a2).to_below (Nat.le_of_lt hg.lt) (fun b e => by injection e with e; omega)) a3
theorem setCells_grown : ∀ (l : List Value) (o : Nat) (w : World) (b : Nat), w.grownBy (w.setCells b o l) (some b)
  | [], _, w, _ => Ak.refl_grown w _
  | v :: r, o, w, b => Ak.trans_grown (setCell_grown w ⟨b, o, none⟩ v) (setCells_grown r (o + 1) _ b)
theorem there_below {w w' : World} {b o n : Nat} (h : w.there b o n) (hlt : b < w.heap.size) (hb : Below w.heap.size w w') : w'.there b o n := fun j hj =>
  ⟨by rw [hb.cell (p := ⟨b, o + j, none⟩) hlt]; exact (h j hj).1, by rw [hb.frozen (p := ⟨b, o + j, none⟩) hlt]; exact (h j hj).2⟩
theorem cells3 {w : World} {b o : Nat} (h : w.there b o 3) : ∃ u0 u1 u2, w.cell? ⟨b, o, none⟩ = some u0 ∧ w.cell? ⟨b, o + 1, none⟩ = some u1 ∧ w.cell? ⟨b, o + 2, none⟩ = some u2 ∧
    w.frozen? ⟨b, o, none⟩ = false ∧ w.frozen? ⟨b, o + 1, none⟩ = false ∧ w.frozen? ⟨b, o + 2, none⟩ = false := by
  obtain ⟨u0, e0⟩ := Option.isSome_iff_exists.1 (h 0 (by omega)).1
  obtain ⟨u1, e1⟩ := Option.isSome_iff_exists.1 (h 1 (by omega)).1
  obtain ⟨u2, e2⟩ := Option.isSome_iff_exists.1 (h 2 (by omega)).1
  exact ⟨u0, u1, u2, e0, e1, e2, (h 0 (by omega)).2, (h 1 (by omega)).2, (h 2 (by omega)).2⟩
set_option maxRecDepth 100000 in
set_option maxHeartbeats 16000000 in
theorem apartMn_any (base m c bls off : Nat) (cls : Array Value) (V : Nat → Value) (N : Nat → Nat) (X : Nat → List Value) (col : Nat → Nat) (w : World)
    (h0 : ∀ j, j < m → w.ownsRow base 136 3 (V j) (N j) (X j) ∧ ∀ b, (V j).ownBlock = some b → col b = j)
    (hls : w.heap[bls]? = some (.cells cls 61 (0, 0))) (hcl : ∀ j, j < m → cls[off + j]? = some (V j)) (hm : m ≤ 100000) (hmc : m ≤ c) (hN : ∀ j, j < m → N j ≤ 1000000) (hbase : base ≤ w.heap.size) :
    Calls Tryz.prog 58 #[.slice (some ⟨bls, off, none⟩) m c] w fun e w' => e = .returned (.bool true) ∧ Ak.Fr m V w w' := by
  have hbl : bls < w.heap.size := (Array.getElem?_eq_some_iff.1 hls).1
  have HX : Hid (∀ j, j < m → (X j).length = N j * 3) := Lib.hid fun j hj => (h0 j hj).1.1
  have HC := Lib.hid hcl
  have HN := Lib.hid hN
  have HP := Lib.hid (Ak.P1.start (mk := mkMn) h0)
  have HVB : Hid (∀ j, j < m → ∀ b, (V j).ownBlock = some b → b < w.heap.size) := Lib.hid fun j hj b hb => ((h0 j hj).1.lt b hb).2
  have HL := Lib.hid hls
  clear h0 hcl hN hls
  go_enter Tryz.func58, Tryz.ntmps58
  go_wp2_with fail
  go_loopw [3] (fun k wr => ∃ q : Nat, q ≤ m ∧ k = .int .i64 q ∧ Hid (Ak.P1 base 136 3 m V N mkMn X col q 0 wr) ∧ Hid (Ak.Fr m V w wr) ∧ Hid (wr.heap[bls]? = some (.cells cls 61 (0, 0)))) (fun k _ => m - (intOf k).toNat)
  case atStart => exact ⟨0, by omega, rfl, HP, Lib.hid Ak.Fr.refl, HL⟩
  case round =>
    obtain ⟨q, hq, rfl, hp, hbel, hl⟩ := hrel
    clear HP
    by_cases hqm : q < m
    · have hq1 : (0 : Int) ≤ (q : Int) := by omega
      have hq2 : (q : Int) < (m : Int) := by omega
      go_wp2_with fail
      go_loopw [4] (fun i w2 => ∃ p : Nat, p ≤ N q ∧ i = .int .i64 p ∧ Hid (Ak.P1 base 136 3 m V N mkMn X col q p w2) ∧ Hid (Ak.Fr m V w w2) ∧ Hid (w2.heap[bls]? = some (.cells cls 61 (0, 0)))) (fun i _ => N q - (intOf i).toNat)
      case atStart => exact ⟨0, by omega, rfl, hp, hbel, hl⟩
      case round =>
        obtain ⟨p, hpN, rfl, hP, hB, hL⟩ := hrel
        clear hp hbel hl HL
        have hsz := hB.out.size
        obtain ⟨A, cq, hV⟩ := hP.out.form hqm
        have hcell : wr.cell? ⟨bls, off + q, none⟩ = some (.slice A (N q) cq) := by rw [cell_of_row wr bls (off + q) cls _ (0, 0) hL.out, HC.out q hqm, hV]
        have hNq : N q ≤ 1000000 := HN.out q hqm
        by_cases hpq : p < N q
        · obtain ⟨b, c2, hV2, hbb, hblt, hc2, hth⟩ := hP.out.at_ hqm hpq
          obtain ⟨rfl, rfl⟩ : A = some ⟨b, 0, none⟩ ∧ cq = c2 := by
            rw [hV] at hV2
            simp only [Value.slice.injEq] at hV2
            exact ⟨hV2.1, hV2.2.2⟩
          have HV2 := Lib.hid hV2
          have HS : Hid (∀ w1, Below wr.heap.size wr w1 → w1.there b (p * 3) 3) := Lib.hid fun w1 hb1 => there_below hth hblt hb1
          have hbl2 : bls < wr.heap.size := (Array.getElem?_eq_some_iff.1 hL.out).1
          have hneb : bls ≠ b := by
            intro he
            have h1 := Ak.blk_ne (hP.out q hqm).1 hL.out (by decide)
            rw [hV2] at h1
            exact h1 (by rw [he]; rfl)
          obtain ⟨y, hy⟩ : ∃ y, Hid (mkM (q : Int) (p : Int) = y) := ⟨_, Lib.hid rfl⟩
          have hne : ∀ r, (⟨b, p * 3 + r, none⟩ : Addr) ≠ ⟨bls, off + q, none⟩ := by
            intro r he
            simp only [Addr.mk.injEq] at he
            exact hneb he.1.symm
          have hne0 : (⟨b, p * 3, none⟩ : Addr) ≠ ⟨bls, off + q, none⟩ := hne 0
          have hne1 := hne 1
          have hne2 := hne 2
          have HNB := Lib.hid hneb
          have q6 : (q : Int) ≤ 1000000 := by omega
          clear hV hV2 hth hneb hne
          have hp1 : (0 : Int) ≤ (p : Int) := by omega
          have hp2 : (p : Int) < (N q : Int) := by omega
          go_wp2_with fail
          go_region_held3 (fun w' => w'.cell? ⟨bls, off + q, none⟩ = some (.slice (some ⟨b, 0, none⟩) (N q) cq)) (first | with_reducible exact hcell1 | exact (World.cell?_setCell_other _ _ _ _ hne2).trans ((World.cell?_setCell_other _ _ _ _ hne1).trans ((World.cell?_setCell_other _ _ _ _ hne0).trans (hcell1))) | exact hcell) (first | (go_at_call 122; refine (markMarks_any _ _ hq1 q6 (by omega) (by omega) _ hy).mono ?_; rintro e w1 ⟨rfl, hb0⟩; have hb1 : Below wr.heap.size wr w1 := (Below.refl _ _).drew.trans hb0; have hcell1 := (hb1.cell (p := ⟨bls, off + q, none⟩) hbl2).trans hcell; obtain ⟨a0, a1, a2, d0, d1, d2, f0, f1, f2⟩ := cells3 (HS.out w1 hb1)))
          have hmk : mkMn q p = [.int .i64 y.at_, .int .i64 y.line, .int .i64 y.col] := by unfold mkMn; rw [hy.out]; rfl
          have hP7 := Lib.hid ((hP.out.below hb1).store mkMn_len hqm hpq (HX.out q hqm) HV2.out)
          have hg7 := setCells_grown (mkMn q p) (p * 3) w1 b
          have hF7 : Hid (Ak.Fr m V w (w1.setCells b (p * 3) (mkMn q p))) := Lib.hid ((hB.out.below hb1).grown hg7 (fun b' e => .inr ⟨q, hqm, by rw [HV2.out]; exact e⟩))
          have hL7 : Hid ((w1.setCells b (p * 3) (mkMn q p)).heap[bls]? = some (.cells cls 61 (0, 0))) := Lib.hid ((hg7.block bls (Nat.lt_of_lt_of_le hbl2 hb1.size) (fun e => HNB.out (Option.some.inj e))).trans ((hb1.block bls hbl2).trans hL.out))
          rw [hmk] at hP7 hF7 hL7
          clear hg7 d0 d1 d2 f0 f1 f2 hmk
          go_wp2_with fail
          go_roundw
          case rel => exact ⟨p + 1, by omega, by go_num, hP7, hF7, hL7⟩
          case measure => simp [intOf]; omega
        · obtain rfl : p = N q := by omega
          have hd : decide ((N q : Int) < (N q : Int)) = false := by simp
          go_wp2_with fail
          go_roundw
          case rel => exact ⟨q + 1, by omega, by go_num, Lib.hid (hP.out.next HX.out), hB, hL⟩
          case measure => simp [intOf]; omega
    · obtain rfl : q = m := by omega
      have hsz := hbel.out.size
      have HP2 := Lib.hid (Ak.P2.start (B0 := w.heap.size) hp.out (Nat.le_refl _))
      clear hp HL
      go_wp2_with fail
      go_loopw [5, 6] (fun gs k wr => ∃ (x : Nat) (H : Nat → Value) (C : Nat → Nat) (col2 : Nat → Nat), x ≤ q ∧ k = .int .i64 x ∧ Hid (Ak.P2 base w.heap.size 136 3 q V N mkMn col2 H C wr) ∧ Hid (∀ j, j < x → C j = N j + 64) ∧ Hid (∀ j, x ≤ j → H j = V j ∧ C j = N j) ∧
          wr.ownsRow w.heap.size 61 1 gs x ((List.range x).map H) ∧ Hid (Ak.Fr q V w wr) ∧ Hid (wr.heap[bls]? = some (.cells cls 61 (0, 0)))) (fun _ k _ => q - (intOf k).toNat)
      case atStart => exact ⟨0, V, N, col, by omega, rfl, HP2, Lib.hid (fun j hj => by omega), Lib.hid (fun j _ => ⟨rfl, rfl⟩), World.ownsRow_nil _ _ _ _, hbel, hl⟩
      case round =>
        obtain ⟨x, H, C, col2, hx, rfl, hp, hC1, hC2, hgs, hB, hL⟩ := hrel
        clear HP2 hbel hl
        by_cases hxq : x < q
        · have hx1 : (0 : Int) ≤ (x : Int) := by omega
          have hx2 : (x : Int) < (q : Int) := by omega
          have hx3 : (x : Int) ≤ 1000000 := by omega
          obtain ⟨A, cq, hV⟩ := hp.out.form hxq
          have hcell : wr.cell? ⟨bls, off + x, none⟩ = some (.slice A (N x) cq) := by rw [cell_of_row wr bls (off + x) cls _ (0, 0) hL.out, HC.out x hxq, hV]
          have hVH : H x = .slice A (N x) cq := by rw [(hC2.out x (Nat.le_refl _)).1, hV]
          have hNx : N x ≤ 1000000 := HN.out x hxq
          go_wp2_with fail
          go_loopw [7, 8] (fun g i w2 => ∃ (p : Nat) (H : Nat → Value) (C : Nat → Nat) (col2 : Nat → Nat), p ≤ 64 ∧ i = .int .i64 p ∧ g = H x ∧ Hid (Ak.P2 base w.heap.size 136 3 q V N mkMn col2 H C w2) ∧ Hid (∀ j, j < x → C j = N j + 64) ∧ Hid (C x = N x + p) ∧ Hid (∀ j, x < j → H j = V j ∧ C j = N j) ∧
              w2.ownsRow w.heap.size 61 1 u5 x ((List.range x).map H) ∧ Hid (Ak.Fr q V w w2) ∧ Hid (w2.heap[bls]? = some (.cells cls 61 (0, 0)))) (fun _ i _ => 64 - (intOf i).toNat)
          case atStart => exact ⟨0, H, C, col2, by omega, rfl, hVH.symm, hp, hC1, Lib.hid (by rw [(hC2.out x (Nat.le_refl _)).2]; rfl), Lib.hid (fun j hj => hC2.out j (by omega)), hgs, hB, hL⟩
          case round =>
            clear hp hC1 hC2 hgs hB hL hVH hcell H C col2
            obtain ⟨p, H, C, col2, hp64, rfl, rfl, hp, hC1, hCx, hC2, hgs, hB, hL⟩ := hrel
            have hcell : wr.cell? ⟨bls, off + x, none⟩ = some (.slice A (N x) cq) := by rw [cell_of_row wr bls (off + x) cls _ (0, 0) hL.out, HC.out x hxq, hV]
            have hbl2 : bls < wr.heap.size := (Array.getElem?_eq_some_iff.1 hL.out).1
            have hszw : w.heap.size ≤ wr.heap.size := hB.out.size
            have hbsz : base ≤ wr.heap.size := Nat.le_trans hbase hszw
            have hownx := (hp.out x hxq).1
            rw [hCx.out] at hownx
            obtain ⟨Ag, cg, hHx⟩ := ownk_form hownx
            have HV := Lib.hid hV
            clear hV
            by_cases hp2 : p < 64
            · have hp3 : (p : Int) < 64 := by omega
              rw [hHx] at hownx
              rw [hHx]
              have HHx := Lib.hid hHx
              obtain ⟨y, hy⟩ : ∃ y, Hid (mkM (x : Int) ((N x : Int) + (p : Int)) = y) := ⟨_, Lib.hid rfl⟩
              clear hHx
              go_wp2_with (first | (go_at_call 122; refine (markMarks_any _ _ hx1 hx3 (by omega) (by omega) _ hy).mono ?_; rintro e w1 ⟨rfl, hb1⟩; have hownW := own_below hownx hb1; have hsz1 := hb1.size) | (at_builtin; refine Ak.wpList_app_split rfl _ _ _ rfl markK _ _ _ _ rfl (hownW.alloc _) _ _ _ _ rfl rfl (news_at _ _ (by simp) _ _) (by simp [Value.oneCell']) (by omega) (by omega) (by simp; omega) (by omega) ?_; intro v1 w2 hown2 hs2))
              have hmk : mkMn x (N x + p) = [.int .i64 y.at_, .int .i64 y.line, .int .i64 y.col] := by unfold mkMn; rw [Int.natCast_add, hy.out]; rfl
              have hbW := (Below.refl w1.heap.size w1).alloc (Nat.le_refl _) (.cells #[.int .i64 y.at_, .int .i64 y.line, .int .i64 y.col] 136)
              have hpW := (hp.out.below hb1).below hbW
              obtain ⟨col3, hp3'⟩ := hpW.app (by simp; omega) mkMn_len hxq (by rw [hCx.out, hmk]; exact hown2) (by rw [HHx.out]; exact hs2)
              have hgr := Ak.split_grown hs2
              have hgsW := own_below (own_below hgs hb1) hbW
              have hLW : (w1.alloc (.cells #[.int .i64 y.at_, .int .i64 y.line, .int .i64 y.col] 136)).heap[bls]? = some (.cells cls 61 (0, 0)) := (hbW.block bls (by omega)).trans ((hb1.block bls hbl2).trans hL.out)
              go_roundw
              case rel =>
                refine ⟨p + 1, _, _, col3, by omega, by go_num, ?_, Lib.hid hp3', Lib.hid ?_, Lib.hid ?_, Lib.hid ?_, ?_, Lib.hid ?_, Lib.hid ?_⟩
                · rw [if_pos rfl]
                · intro j hj
                  rw [if_neg (by omega)]
                  exact hC1.out j hj
                · rw [if_pos rfl, hCx.out]; rfl
                · intro j hj
                  rw [if_neg (by omega), if_neg (by omega)]
                  exact hC2.out j hj
                · have he : (List.range x).map (fun j => if j = x then v1 else H j) = (List.range x).map H := by
                    refine List.map_congr_left fun j hj => ?_
                    rw [if_neg (by have := List.mem_range.1 hj; omega)]
                  rw [he]
                  refine hgsW.kept hgr ?_
                  rw [← HHx.out]
                  exact Ak.own_ne hgsW (hpW x hxq).1 (by decide)
                · refine ((hB.out.below hb1).below hbW).grown hgr (fun b hb => ?_)
                  rw [← HHx.out] at hb
                  rcases (hp.out x hxq).2.2.2.2.2.2 b hb with h | h
                  · exact .inl h
                  · exact .inr ⟨x, hxq, h⟩
                · rw [hgr.block bls (by simp; omega) (by rw [← HHx.out]; exact Ak.blk_ne (hpW x hxq).1 hLW (by decide))]
                  exact hLW
              case measure => simp [intOf]; omega
            · obtain rfl : p = 64 := by omega
              have hd : decide ((64 : Int) < 64) = false := by decide
              go_wp2_with ((at_builtin; refine Ak.wpList_app_split rfl _ _ _ rfl slicesMn _ _ _ _ rfl (hgs.alloc _) _ _ _ _ rfl rfl (news_alloc _ _ _) (one_of_all rfl) (by omega) (by omega) (by simp; omega) (by omega) ?_; intro v1 w2 hown2 hs2))
              have hbW := (Below.refl wr.heap.size wr).alloc (Nat.le_refl _) (.cells #[.slice Ag (N x + 64) cg] 61)
              have hpW := hp.out.below hbW
              have hgsW := own_below hgs hbW
              have hgr : (wr.alloc (.cells #[.slice Ag (N x + 64) cg] 61)).grownBy w2 u5.ownBlock := Ak.split_grown hs2
              have hLW : (wr.alloc (.cells #[.slice Ag (N x + 64) cg] 61)).heap[bls]? = some (.cells cls 61 (0, 0)) := (hbW.block bls hbl2).trans hL.out
              have HHx := Lib.hid hHx
              clear hHx
              go_roundw
              case rel =>
                refine ⟨x + 1, H, C, col2, by omega, by go_num, Lib.hid ?_, Lib.hid ?_, Lib.hid ?_, ?_, Lib.hid ?_, Lib.hid ?_⟩
                · refine hpW.grown hgr (fun j hj => ⟨Ak.own_ne (hpW j hj).1 hgsW (by decide), ?_⟩)
                  by_cases hn : (V j).ownBlock = none
                  · exact .inl hn
                  · right
                    intro he
                    obtain ⟨b, hb⟩ := Option.ne_none_iff_exists'.1 hn
                    have c1 := HVB.out j hj b hb
                    have c2 := (hgsW.lt b (by rw [← he]; exact hb)).1
                    omega
                · intro j hj
                  by_cases hjx : j = x
                  · subst hjx; rw [hCx.out]
                  · exact hC1.out j (by omega)
                · intro j hj
                  exact hC2.out j (by omega)
                · rw [List.range_succ, List.map_append, List.map_cons, List.map_nil, HHx.out]
                  exact hown2
                · exact (hB.out.below hbW).grown hgr (fun b hb => .inl (hgsW.lt b hb).1)
                · rw [hgr.block bls (by simp; omega) (fun he => by have c2 := (hgsW.lt bls he.symm).1; omega)]
                  exact hLW
              case measure => simp [intOf]; omega
        · obtain rfl : x = q := by omega
          have HCs : Hid (∀ j, j < x → C j = N j + 64) := hC1
          have hszw : w.heap.size ≤ wr.heap.size := hB.out.size
          go_wp2_with fail
          go_loopw [9] (fun k w2 => ∃ y : Nat, y ≤ x ∧ k = .int .i64 y ∧ Hid (Ak.P2 base w.heap.size 136 3 x V N mkMn col2 H C w2) ∧ w2.ownsRow w.heap.size 61 1 u5 x ((List.range x).map H) ∧ Hid (Ak.Fr x V w w2) ∧ Hid (w2.heap[bls]? = some (.cells cls 61 (0, 0)))) (fun k _ => x - (intOf k).toNat)
          case atStart => exact ⟨0, by omega, rfl, hp, hgs, hB, hL⟩
          case round =>
            clear hp hgs hB hL hszw
            obtain ⟨y, hy, rfl, hp, hgs, hB, hL⟩ := hrel
            obtain ⟨wq, rfl⟩ : ∃ wq : World, wq = wr := ⟨_, rfl⟩
            by_cases hyx : y < x
            · have hy1 : (0 : Int) ≤ (y : Int) := by omega
              have hy2 : (y : Int) < (x : Int) := by omega
              have hy3 : (y : Int) ≤ 1000000 := by omega
              obtain ⟨g5, c5, hu5, hg5, hlt5⟩ := hgs.form (by omega)
              have hc5 : x ≤ c5 := by
                rcases hgs.2 with ⟨h', h''⟩ | ⟨g', cap', cur, h', _, _, hn, _⟩
                · omega
                · rw [hu5] at h'
                  simp only [Value.slice.injEq] at h'
                  omega
              subst hu5
              have hownx := (hp.out y hyx).1
              rw [HCs.out y hyx] at hownx
              obtain ⟨g6, c6, hHy, _, hlt6⟩ := hownx.form (by omega)
              rw [hHy] at hownx
              obtain ⟨A, cq, hV⟩ := hp.out.form hyx
              have hbl2 : bls < wq.heap.size := (Array.getElem?_eq_some_iff.1 hL.out).1
              have HF : Hid (∀ w2, Below wq.heap.size wq w2 → w2.cell? ⟨bls, off + y, none⟩ = some (.slice A (N y) cq) ∧ w2.cell? ⟨g5, y, none⟩ = some (.slice (some ⟨g6, 0, none⟩) (N y + 64) c6)) := Lib.hid (by
                intro w2 hb2
                refine ⟨(hb2.cell (p := ⟨bls, off + y, none⟩) hbl2).trans (by rw [cell_of_row wq bls (off + y) cls _ (0, 0) hL.out, HC.out y hyx, hV]), (hb2.cell (p := ⟨g5, y, none⟩) hlt5).trans ?_⟩
                rw [hgs.cellAt y (by omega)]
                simp [hyx, hHy])
              have HF2 : Hid (∀ w2, Below wq.heap.size wq w2 → ∀ i, i < N y + 64 → ∀ r, r < 3 → w2.cell? ⟨g6, i * 3 + r, none⟩ = (mkMn y i)[r]?) := Lib.hid (by
                intro w2 hb2 i hi r hr
                refine (hb2.cell (p := ⟨g6, i * 3 + r, none⟩) hlt6).trans ?_
                rw [hownx.cellAt _ (by omega), Ak.marks_get mkMn_len _ _ _ _ hi hr])
              have HF3 : Hid (∀ w2, Below wq.heap.size wq w2 → ∀ i, i < N y → ∃ b, A = some ⟨b, 0, none⟩ ∧ ∀ r, r < 3 → w2.cell? ⟨b, i * 3 + r, none⟩ = (mkMn y i)[r]?) := Lib.hid (by
                intro w2 hb2 i hi
                obtain ⟨_, _, _, hat, hvb, hform, _⟩ := hp.out y hyx
                rcases hform with ⟨_, h0⟩ | ⟨b, c, hVb⟩
                · omega
                · rw [hV] at hVb
                  simp only [Value.slice.injEq] at hVb
                  refine ⟨b, hVb.1, fun r hr => ?_⟩
                  have hg := Ak.marks_get mkMn_len y (N y) i r hi hr
                  have hsome : (mkMn y i)[r]? = some ((mkMn y i)[r]'(by rw [mkMn_len]; exact hr)) := List.getElem?_eq_getElem _
                  rw [hsome] at hg ⊢
                  obtain ⟨b2, e1, e2⟩ := hat _ _ hg
                  have hvv : (V y).ownBlock = some b := by rw [hV, hVb.1]; rfl
                  rw [hvv] at e1
                  obtain rfl := Option.some.inj e1
                  exact (hb2.cell (p := ⟨b, i * 3 + r, none⟩) (hvb b hvv).2).trans e2)
              have hNy : N y ≤ 1000000 := HN.out y hyx
              clear hHy hV hownx
              have hcells0 := HF.out wq (Below.refl _ _)
              obtain ⟨hcl0, hcl1⟩ := hcells0
              go_wp2_with fail
              go_loopw [10] (fun i w2 => ∃ p : Nat, p ≤ N y + 64 ∧ i = .int .i64 p ∧ Below wq.heap.size wq w2) (fun i _ => N y + 64 - (intOf i).toNat)
              case atStart => exact ⟨0, by omega, rfl, Below.refl _ _⟩
              case round =>
                obtain ⟨p, hp1, rfl, hbw⟩ := hrel
                clear hcl0 hcl1
                obtain ⟨hcl0, hcl1⟩ := HF.out wr hbw
                have hp2 : (0 : Int) ≤ (p : Int) := by omega
                by_cases hpn : p < N y + 64
                · have hp3 : (p : Int) < (N y : Int) + 64 := by omega
                  obtain ⟨m0, hm0⟩ : ∃ m0, Hid (mkM (y : Int) (p : Int) = m0) := ⟨_, Lib.hid rfl⟩
                  have HMK : Hid (mkMn y p = [.int .i64 m0.at_, .int .i64 m0.line, .int .i64 m0.col]) := Lib.hid (by unfold mkMn; rw [hm0.out]; rfl)
                  have xn := neq_mk m0
                  go_upto_region 25 with (first | (go_at_call 122; refine (markMarks_any _ _ hy1 hy3 (by omega) (by omega) _ hm0).mono ?_; rintro e w1 ⟨rfl, hb1⟩; have hbw1 := below_of_below hbw hb1 hbw.size))
                  obtain ⟨w3, hw3⟩ : ∃ w3, w1.alloc (.cells #[.int .i64 m0.at_, .int .i64 m0.line, .int .i64 m0.col] 136) = w3 := ⟨_, rfl⟩
                  rw [hw3]
                  have hB3 : Blk w3 w1.heap.size 136 #[.int .i64 m0.at_, .int .i64 m0.line, .int .i64 m0.col] := by rw [← hw3]; exact Blk.new _ _ _
                  have hbw3 : Below wq.heap.size wq w3 := by rw [← hw3]; exact hbw1.alloc hbw1.size _
                  obtain ⟨e0, e1⟩ := HF.out w3 hbw3
                  have hd := HF2.out w3 hbw3 p hpn
                  rw [HMK.out] at hd
                  have d0 : w3.cell? ⟨g6, p * 3, none⟩ = some (.int .i64 m0.at_) := hd 0 (by omega)
                  have d1 : w3.cell? ⟨g6, p * 3 + 1, none⟩ = some (.int .i64 m0.line) := hd 1 (by omega)
                  have d2 : w3.cell? ⟨g6, p * 3 + 2, none⟩ = some (.int .i64 m0.col) := hd 2 (by omega)
                  have f0 : w3.cell? ⟨w1.heap.size, 0, none⟩ = some (.int .i64 m0.at_) := hB3.cell 0
                  have f1 : w3.cell? ⟨w1.heap.size, 1, none⟩ = some (.int .i64 m0.line) := hB3.cell 1
                  have f2 : w3.cell? ⟨w1.heap.size, 2, none⟩ = some (.int .i64 m0.col) := hB3.cell 2
                  clear hd hcl0 hcl1 hB3 hb1 hbw1 hw3
                  by_cases hpN : p < N y
                  · have hp4 : (p : Int) < (N y : Int) := by omega
                    have hd : decide ((p : Int) < (N y : Int)) = true := by simpa using hpN
                    obtain ⟨b, rfl, hd2⟩ := HF3.out w3 hbw3 p hpN
                    rw [HMK.out] at hd2
                    have g0 : w3.cell? ⟨b, p * 3, none⟩ = some (.int .i64 m0.at_) := hd2 0 (by omega)
                    have g1 : w3.cell? ⟨b, p * 3 + 1, none⟩ = some (.int .i64 m0.line) := hd2 1 (by omega)
                    have g2 : w3.cell? ⟨b, p * 3 + 2, none⟩ = some (.int .i64 m0.col) := hd2 2 (by omega)
                    clear hd2
                    go_cut [112] (fun s112 wx => s112 = .bool false ∧ Below wq.heap.size wq wx)
                    case first =>
                      go_quiet (fail)
                      go_wp2_with fail
                      go_meet
                      exact ⟨rfl, by first | exact hbw3 | exact below_drewN hbw3 _⟩
                    case rest =>
                      obtain ⟨rfl, hbx⟩ := hcut
                      clear d0 d1 d2 f0 f1 f2 g0 g1 g2 e0 e1 xn
                      go_wp2_with fail
                      go_roundw
                      case rel => exact ⟨p + 1, by omega, by go_num, hbx⟩
                      case measure => simp [intOf]; omega
                  · have hd : decide ((p : Int) < (N y : Int)) = false := by simp; omega
                    go_cut [112] (fun s112 wx => s112 = .bool false ∧ Below wq.heap.size wq wx)
                    case first =>
                      go_quiet (fail)
                      go_wp2_with fail
                      go_meet
                      exact ⟨rfl, by first | exact hbw3 | exact below_drewN hbw3 _⟩
                    case rest =>
                      obtain ⟨rfl, hbx⟩ := hcut
                      clear d0 d1 d2 f0 f1 f2 e0 e1 xn
                      go_wp2_with fail
                      go_roundw
                      case rel => exact ⟨p + 1, by omega, by go_num, hbx⟩
                      case measure => simp [intOf]; omega
                · obtain rfl : p = N y + 64 := by omega
                  have hd : decide ((N y : Int) + 64 < (N y : Int) + 64) = false := by simp
                  go_wp2_with fail
                  go_roundw
                  case rel => exact ⟨y + 1, by omega, by go_num, Lib.hid (hp.out.below hbw), own_below hgs hbw, Lib.hid (hB.out.below hbw), Lib.hid (by rw [hbw.block bls (Array.getElem?_eq_some_iff.1 hL.out).1]; exact hL.out)⟩
                  case measure => simp [intOf]; omega
            · go_wp2_with fail
              go_ret
              exact ⟨rfl, hB.out⟩
end Go.Proofs.YtpgnfianffjpnaaGreatDoor
namespace Go.Proofs.YtpgnfianffjpnaaGreatDoor
open Go Go.RowKit
def mkDn (j i : Nat) : List Value := dcL (mkD (j : Int) (i : Int))
theorem mkDn_len : ∀ j i, (mkDn j i).length = 4 := fun _ _ => rfl
theorem slicesDn : ElemK Tryz.prog 43 62 (.slice none 0 0) 1 24 := ⟨Tryz.underlying43, by kernel_rfl, rfl, by decide⟩
theorem cells4 {w : World} {b o : Nat} (h : w.there b o 4) : ∃ u0 u1 u2 u3, w.cell? ⟨b, o, none⟩ = some u0 ∧ w.cell? ⟨b, o + 1, none⟩ = some u1 ∧ w.cell? ⟨b, o + 2, none⟩ = some u2 ∧ w.cell? ⟨b, o + 3, none⟩ = some u3 ∧
    w.frozen? ⟨b, o, none⟩ = false ∧ w.frozen? ⟨b, o + 1, none⟩ = false ∧ w.frozen? ⟨b, o + 2, none⟩ = false ∧ w.frozen? ⟨b, o + 3, none⟩ = false := by
  obtain ⟨u0, e0⟩ := Option.isSome_iff_exists.1 (h 0 (by omega)).1
  obtain ⟨u1, e1⟩ := Option.isSome_iff_exists.1 (h 1 (by omega)).1
  obtain ⟨u2, e2⟩ := Option.isSome_iff_exists.1 (h 2 (by omega)).1
  obtain ⟨u3, e3⟩ := Option.isSome_iff_exists.1 (h 3 (by omega)).1
  exact ⟨u0, u1, u2, u3, e0, e1, e2, e3, (h 0 (by omega)).2, (h 1 (by omega)).2, (h 2 (by omega)).2, (h 3 (by omega)).2⟩
set_option maxRecDepth 100000 in
set_option maxHeartbeats 16000000 in
theorem apartDn_any (base m c bls off : Nat) (cls : Array Value) (V : Nat → Value) (N : Nat → Nat) (X : Nat → List Value) (col : Nat → Nat) (w : World)
    (h0 : ∀ j, j < m → w.ownsRow base 83 4 (V j) (N j) (X j) ∧ ∀ b, (V j).ownBlock = some b → col b = j)
    (hls : w.heap[bls]? = some (.cells cls 62 (0, 0))) (hcl : ∀ j, j < m → cls[off + j]? = some (V j)) (hm : m ≤ 100000) (hmc : m ≤ c) (hN : ∀ j, j < m → N j ≤ 1000000) (hbase : base ≤ w.heap.size) :
    Calls Tryz.prog 59 #[.slice (some ⟨bls, off, none⟩) m c] w fun e w' => e = .returned (.bool true) ∧ Ak.Fr m V w w' := by
  have hbl : bls < w.heap.size := (Array.getElem?_eq_some_iff.1 hls).1
  have HX : Hid (∀ j, j < m → (X j).length = N j * 4) := Lib.hid fun j hj => (h0 j hj).1.1
  have HC := Lib.hid hcl
  have HN := Lib.hid hN
  have HP := Lib.hid (Ak.P1.start (mk := mkDn) h0)
  have HVB : Hid (∀ j, j < m → ∀ b, (V j).ownBlock = some b → b < w.heap.size) := Lib.hid fun j hj b hb => ((h0 j hj).1.lt b hb).2
  have HL := Lib.hid hls
  clear h0 hcl hN hls
  go_enter Tryz.func59, Tryz.ntmps59
  go_wp2_with fail
  go_loopw [3] (fun k wr => ∃ q : Nat, q ≤ m ∧ k = .int .i64 q ∧ Hid (Ak.P1 base 83 4 m V N mkDn X col q 0 wr) ∧ Hid (Ak.Fr m V w wr) ∧ Hid (wr.heap[bls]? = some (.cells cls 62 (0, 0)))) (fun k _ => m - (intOf k).toNat)
  case atStart => exact ⟨0, by omega, rfl, HP, Lib.hid Ak.Fr.refl, HL⟩
  case round =>
    obtain ⟨q, hq, rfl, hp, hbel, hl⟩ := hrel
    clear HP
    by_cases hqm : q < m
    · have hq1 : (0 : Int) ≤ (q : Int) := by omega
      have hq2 : (q : Int) < (m : Int) := by omega
      go_wp2_with fail
      go_loopw [4] (fun i w2 => ∃ p : Nat, p ≤ N q ∧ i = .int .i64 p ∧ Hid (Ak.P1 base 83 4 m V N mkDn X col q p w2) ∧ Hid (Ak.Fr m V w w2) ∧ Hid (w2.heap[bls]? = some (.cells cls 62 (0, 0)))) (fun i _ => N q - (intOf i).toNat)
      case atStart => exact ⟨0, by omega, rfl, hp, hbel, hl⟩
      case round =>
        obtain ⟨p, hpN, rfl, hP, hB, hL⟩ := hrel
        clear hp hbel hl HL
        have hsz := hB.out.size
        obtain ⟨A, cq, hV⟩ := hP.out.form hqm
        have hcell : wr.cell? ⟨bls, off + q, none⟩ = some (.slice A (N q) cq) := by rw [cell_of_row wr bls (off + q) cls _ (0, 0) hL.out, HC.out q hqm, hV]
        have hNq : N q ≤ 1000000 := HN.out q hqm
        by_cases hpq : p < N q
        · obtain ⟨b, c2, hV2, hbb, hblt, hc2, hth⟩ := hP.out.at_ hqm hpq
          obtain ⟨rfl, rfl⟩ : A = some ⟨b, 0, none⟩ ∧ cq = c2 := by
            rw [hV] at hV2
            simp only [Value.slice.injEq] at hV2
            exact ⟨hV2.1, hV2.2.2⟩
          have HV2 := Lib.hid hV2
          have HS : Hid (∀ w1, Below wr.heap.size wr w1 → w1.there b (p * 4) 4) := Lib.hid fun w1 hb1 => there_below hth hblt hb1
          have hbl2 : bls < wr.heap.size := (Array.getElem?_eq_some_iff.1 hL.out).1
          have hneb : bls ≠ b := by
            intro he
            have h1 := Ak.blk_ne (hP.out q hqm).1 hL.out (by decide)
            rw [hV2] at h1
            exact h1 (by rw [he]; rfl)
          obtain ⟨y, hy⟩ : ∃ y, Hid (mkD (q : Int) (p : Int) = y) := ⟨_, Lib.hid rfl⟩
          have hne : ∀ r, (⟨b, p * 4 + r, none⟩ : Addr) ≠ ⟨bls, off + q, none⟩ := by
            intro r he
            simp only [Addr.mk.injEq] at he
            exact hneb he.1.symm
          have hne0 : (⟨b, p * 4, none⟩ : Addr) ≠ ⟨bls, off + q, none⟩ := hne 0
          have hne1 := hne 1
          have hne2 := hne 2
          have hne3 := hne 3
          have HNB := Lib.hid hneb
          have q6 : (q : Int) ≤ 1000000 := by omega
          clear hV hV2 hth hneb hne
          have hp1 : (0 : Int) ≤ (p : Int) := by omega
          have hp2 : (p : Int) < (N q : Int) := by omega
          go_wp2_with fail
          go_region_held3 (fun w' => w'.cell? ⟨bls, off + q, none⟩ = some (.slice (some ⟨b, 0, none⟩) (N q) cq)) (first | with_reducible exact hcell1 | exact (World.cell?_setCell_other _ _ _ _ hne3).trans ((World.cell?_setCell_other _ _ _ _ hne2).trans ((World.cell?_setCell_other _ _ _ _ hne1).trans ((World.cell?_setCell_other _ _ _ _ hne0).trans (hcell1)))) | exact hcell) (first | (go_at_call 123; refine (markDocs_any _ _ _ hy).mono ?_; rintro e w1 ⟨rfl, hb0⟩; have hb1 : Below wr.heap.size wr w1 := (Below.refl _ _).drew.trans hb0; have hcell1 := (hb1.cell (p := ⟨bls, off + q, none⟩) hbl2).trans hcell; obtain ⟨a0, a1, a2, a3, d0, d1, d2, d3, f0, f1, f2, f3⟩ := cells4 (HS.out w1 hb1)))
          have hmk : mkDn q p = [.string (bs y.name), .bool y.raw, .int .i64 y.line, .string (bs y.text)] := by unfold mkDn; rw [hy.out]; rfl
          have hP7 := Lib.hid ((hP.out.below hb1).store mkDn_len hqm hpq (HX.out q hqm) HV2.out)
          have hg7 := setCells_grown (mkDn q p) (p * 4) w1 b
          have hF7 : Hid (Ak.Fr m V w (w1.setCells b (p * 4) (mkDn q p))) := Lib.hid ((hB.out.below hb1).grown hg7 (fun b' e => .inr ⟨q, hqm, by rw [HV2.out]; exact e⟩))
          have hL7 : Hid ((w1.setCells b (p * 4) (mkDn q p)).heap[bls]? = some (.cells cls 62 (0, 0))) := Lib.hid ((hg7.block bls (Nat.lt_of_lt_of_le hbl2 hb1.size) (fun e => HNB.out (Option.some.inj e))).trans ((hb1.block bls hbl2).trans hL.out))
          rw [hmk] at hP7 hF7 hL7
          clear hg7 d0 d1 d2 d3 f0 f1 f2 f3 hmk
          go_wp2_with fail
          go_roundw
          case rel => exact ⟨p + 1, by omega, by go_num, hP7, hF7, hL7⟩
          case measure => simp [intOf]; omega
        · obtain rfl : p = N q := by omega
          have hd : decide ((N q : Int) < (N q : Int)) = false := by simp
          go_wp2_with fail
          go_roundw
          case rel => exact ⟨q + 1, by omega, by go_num, Lib.hid (hP.out.next HX.out), hB, hL⟩
          case measure => simp [intOf]; omega
    · obtain rfl : q = m := by omega
      have hsz := hbel.out.size
      have HP2 := Lib.hid (Ak.P2.start (B0 := w.heap.size) hp.out (Nat.le_refl _))
      clear hp HL
      go_wp2_with fail
      go_loopw [5, 6] (fun gs k wr => ∃ (x : Nat) (H : Nat → Value) (C : Nat → Nat) (col2 : Nat → Nat), x ≤ q ∧ k = .int .i64 x ∧ Hid (Ak.P2 base w.heap.size 83 4 q V N mkDn col2 H C wr) ∧ Hid (∀ j, j < x → C j = N j + 64) ∧ Hid (∀ j, x ≤ j → H j = V j ∧ C j = N j) ∧
          wr.ownsRow w.heap.size 62 1 gs x ((List.range x).map H) ∧ Hid (Ak.Fr q V w wr) ∧ Hid (wr.heap[bls]? = some (.cells cls 62 (0, 0)))) (fun _ k _ => q - (intOf k).toNat)
      case atStart => exact ⟨0, V, N, col, by omega, rfl, HP2, Lib.hid (fun j hj => by omega), Lib.hid (fun j _ => ⟨rfl, rfl⟩), World.ownsRow_nil _ _ _ _, hbel, hl⟩
      case round =>
        obtain ⟨x, H, C, col2, hx, rfl, hp, hC1, hC2, hgs, hB, hL⟩ := hrel
        clear HP2 hbel hl
        by_cases hxq : x < q
        · have hx1 : (0 : Int) ≤ (x : Int) := by omega
          have hx2 : (x : Int) < (q : Int) := by omega
          have hx3 : (x : Int) ≤ 1000000 := by omega
          obtain ⟨A, cq, hV⟩ := hp.out.form hxq
          have hcell : wr.cell? ⟨bls, off + x, none⟩ = some (.slice A (N x) cq) := by rw [cell_of_row wr bls (off + x) cls _ (0, 0) hL.out, HC.out x hxq, hV]
          have hVH : H x = .slice A (N x) cq := by rw [(hC2.out x (Nat.le_refl _)).1, hV]
          have hNx : N x ≤ 1000000 := HN.out x hxq
          go_wp2_with fail
          go_loopw [7, 8] (fun g i w2 => ∃ (p : Nat) (H : Nat → Value) (C : Nat → Nat) (col2 : Nat → Nat), p ≤ 64 ∧ i = .int .i64 p ∧ g = H x ∧ Hid (Ak.P2 base w.heap.size 83 4 q V N mkDn col2 H C w2) ∧ Hid (∀ j, j < x → C j = N j + 64) ∧ Hid (C x = N x + p) ∧ Hid (∀ j, x < j → H j = V j ∧ C j = N j) ∧
              w2.ownsRow w.heap.size 62 1 u5 x ((List.range x).map H) ∧ Hid (Ak.Fr q V w w2) ∧ Hid (w2.heap[bls]? = some (.cells cls 62 (0, 0)))) (fun _ i _ => 64 - (intOf i).toNat)
          case atStart => exact ⟨0, H, C, col2, by omega, rfl, hVH.symm, hp, hC1, Lib.hid (by rw [(hC2.out x (Nat.le_refl _)).2]; rfl), Lib.hid (fun j hj => hC2.out j (by omega)), hgs, hB, hL⟩
          case round =>
            clear hp hC1 hC2 hgs hB hL hVH hcell H C col2
            obtain ⟨p, H, C, col2, hp64, rfl, rfl, hp, hC1, hCx, hC2, hgs, hB, hL⟩ := hrel
            have hcell : wr.cell? ⟨bls, off + x, none⟩ = some (.slice A (N x) cq) := by rw [cell_of_row wr bls (off + x) cls _ (0, 0) hL.out, HC.out x hxq, hV]
            have hbl2 : bls < wr.heap.size := (Array.getElem?_eq_some_iff.1 hL.out).1
            have hszw : w.heap.size ≤ wr.heap.size := hB.out.size
            have hbsz : base ≤ wr.heap.size := Nat.le_trans hbase hszw
            have hownx := (hp.out x hxq).1
            rw [hCx.out] at hownx
            obtain ⟨Ag, cg, hHx⟩ := ownk_form hownx
            have HV := Lib.hid hV
            clear hV
            by_cases hp2 : p < 64
            · have hp3 : (p : Int) < 64 := by omega
              rw [hHx] at hownx
              rw [hHx]
              have HHx := Lib.hid hHx
              obtain ⟨y, hy⟩ : ∃ y, Hid (mkD (x : Int) ((N x : Int) + (p : Int)) = y) := ⟨_, Lib.hid rfl⟩
              clear hHx
              go_wp2_with (first | (go_at_call 123; refine (markDocs_any _ _ _ hy).mono ?_; rintro e w1 ⟨rfl, hb1⟩; have hownW := own_below hownx hb1; have hsz1 := hb1.size) | (at_builtin; refine Ak.wpList_app_split rfl _ _ _ rfl docK _ _ _ _ rfl (hownW.alloc _) _ _ _ _ rfl rfl (news_at _ _ (by simp) _ _) (by simp [Value.oneCell']) (by omega) (by omega) (by simp; omega) (by omega) ?_; intro v1 w2 hown2 hs2))
              have hmk : mkDn x (N x + p) = [.string (bs y.name), .bool y.raw, .int .i64 y.line, .string (bs y.text)] := by unfold mkDn; rw [Int.natCast_add, hy.out]; rfl
              have hbW := (Below.refl w1.heap.size w1).alloc (Nat.le_refl _) (.cells #[.string (bs y.name), .bool y.raw, .int .i64 y.line, .string (bs y.text)] 83)
              have hpW := (hp.out.below hb1).below hbW
              obtain ⟨col3, hp3'⟩ := hpW.app (by simp; omega) mkDn_len hxq (by rw [hCx.out, hmk]; exact hown2) (by rw [HHx.out]; exact hs2)
              have hgr := Ak.split_grown hs2
              have hgsW := own_below (own_below hgs hb1) hbW
              have hLW : (w1.alloc (.cells #[.string (bs y.name), .bool y.raw, .int .i64 y.line, .string (bs y.text)] 83)).heap[bls]? = some (.cells cls 62 (0, 0)) := (hbW.block bls (by omega)).trans ((hb1.block bls hbl2).trans hL.out)
              go_roundw
              case rel =>
                refine ⟨p + 1, _, _, col3, by omega, by go_num, ?_, Lib.hid hp3', Lib.hid ?_, Lib.hid ?_, Lib.hid ?_, ?_, Lib.hid ?_, Lib.hid ?_⟩
                · rw [if_pos rfl]
                · intro j hj
                  rw [if_neg (by omega)]
                  exact hC1.out j hj
                · rw [if_pos rfl, hCx.out]; rfl
                · intro j hj
                  rw [if_neg (by omega), if_neg (by omega)]
                  exact hC2.out j hj
                · have he : (List.range x).map (fun j => if j = x then v1 else H j) = (List.range x).map H := by
                    refine List.map_congr_left fun j hj => ?_
                    rw [if_neg (by have := List.mem_range.1 hj; omega)]
                  rw [he]
                  refine hgsW.kept hgr ?_
                  rw [← HHx.out]
                  exact Ak.own_ne hgsW (hpW x hxq).1 (by decide)
                · refine ((hB.out.below hb1).below hbW).grown hgr (fun b hb => ?_)
                  rw [← HHx.out] at hb
                  rcases (hp.out x hxq).2.2.2.2.2.2 b hb with h | h
                  · exact .inl h
                  · exact .inr ⟨x, hxq, h⟩
                · rw [hgr.block bls (by simp; omega) (by rw [← HHx.out]; exact Ak.blk_ne (hpW x hxq).1 hLW (by decide))]
                  exact hLW
              case measure => simp [intOf]; omega
            · obtain rfl : p = 64 := by omega
              have hd : decide ((64 : Int) < 64) = false := by decide
              go_wp2_with ((at_builtin; refine Ak.wpList_app_split rfl _ _ _ rfl slicesDn _ _ _ _ rfl (hgs.alloc _) _ _ _ _ rfl rfl (news_alloc _ _ _) (one_of_all rfl) (by omega) (by omega) (by simp; omega) (by omega) ?_; intro v1 w2 hown2 hs2))
              have hbW := (Below.refl wr.heap.size wr).alloc (Nat.le_refl _) (.cells #[.slice Ag (N x + 64) cg] 62)
              have hpW := hp.out.below hbW
              have hgsW := own_below hgs hbW
              have hgr : (wr.alloc (.cells #[.slice Ag (N x + 64) cg] 62)).grownBy w2 u5.ownBlock := Ak.split_grown hs2
              have hLW : (wr.alloc (.cells #[.slice Ag (N x + 64) cg] 62)).heap[bls]? = some (.cells cls 62 (0, 0)) := (hbW.block bls hbl2).trans hL.out
              have HHx := Lib.hid hHx
              clear hHx
              go_roundw
              case rel =>
                refine ⟨x + 1, H, C, col2, by omega, by go_num, Lib.hid ?_, Lib.hid ?_, Lib.hid ?_, ?_, Lib.hid ?_, Lib.hid ?_⟩
                · refine hpW.grown hgr (fun j hj => ⟨Ak.own_ne (hpW j hj).1 hgsW (by decide), ?_⟩)
                  by_cases hn : (V j).ownBlock = none
                  · exact .inl hn
                  · right
                    intro he
                    obtain ⟨b, hb⟩ := Option.ne_none_iff_exists'.1 hn
                    have c1 := HVB.out j hj b hb
                    have c2 := (hgsW.lt b (by rw [← he]; exact hb)).1
                    omega
                · intro j hj
                  by_cases hjx : j = x
                  · subst hjx; rw [hCx.out]
                  · exact hC1.out j (by omega)
                · intro j hj
                  exact hC2.out j (by omega)
                · rw [List.range_succ, List.map_append, List.map_cons, List.map_nil, HHx.out]
                  exact hown2
                · exact (hB.out.below hbW).grown hgr (fun b hb => .inl (hgsW.lt b hb).1)
                · rw [hgr.block bls (by simp; omega) (fun he => by have c2 := (hgsW.lt bls he.symm).1; omega)]
                  exact hLW
              case measure => simp [intOf]; omega
        · obtain rfl : x = q := by omega
          have HCs : Hid (∀ j, j < x → C j = N j + 64) := hC1
          have hszw : w.heap.size ≤ wr.heap.size := hB.out.size
          go_wp2_with fail
          go_loopw [9] (fun k w2 => ∃ y : Nat, y ≤ x ∧ k = .int .i64 y ∧ Hid (Ak.P2 base w.heap.size 83 4 x V N mkDn col2 H C w2) ∧ w2.ownsRow w.heap.size 62 1 u5 x ((List.range x).map H) ∧ Hid (Ak.Fr x V w w2) ∧ Hid (w2.heap[bls]? = some (.cells cls 62 (0, 0)))) (fun k _ => x - (intOf k).toNat)
          case atStart => exact ⟨0, by omega, rfl, hp, hgs, hB, hL⟩
          case round =>
            clear hp hgs hB hL hszw
            obtain ⟨y, hy, rfl, hp, hgs, hB, hL⟩ := hrel
            obtain ⟨wq, rfl⟩ : ∃ wq : World, wq = wr := ⟨_, rfl⟩
            by_cases hyx : y < x
            · have hy1 : (0 : Int) ≤ (y : Int) := by omega
              have hy2 : (y : Int) < (x : Int) := by omega
              have hy3 : (y : Int) ≤ 1000000 := by omega
              obtain ⟨g5, c5, hu5, hg5, hlt5⟩ := hgs.form (by omega)
              have hc5 : x ≤ c5 := by
                rcases hgs.2 with ⟨h', h''⟩ | ⟨g', cap', cur, h', _, _, hn, _⟩
                · omega
                · rw [hu5] at h'
                  simp only [Value.slice.injEq] at h'
                  omega
              subst hu5
              have hownx := (hp.out y hyx).1
              rw [HCs.out y hyx] at hownx
              obtain ⟨g6, c6, hHy, _, hlt6⟩ := hownx.form (by omega)
              rw [hHy] at hownx
              obtain ⟨A, cq, hV⟩ := hp.out.form hyx
              have hbl2 : bls < wq.heap.size := (Array.getElem?_eq_some_iff.1 hL.out).1
              have HF : Hid (∀ w2, Below wq.heap.size wq w2 → w2.cell? ⟨bls, off + y, none⟩ = some (.slice A (N y) cq) ∧ w2.cell? ⟨g5, y, none⟩ = some (.slice (some ⟨g6, 0, none⟩) (N y + 64) c6)) := Lib.hid (by
                intro w2 hb2
                refine ⟨(hb2.cell (p := ⟨bls, off + y, none⟩) hbl2).trans (by rw [cell_of_row wq bls (off + y) cls _ (0, 0) hL.out, HC.out y hyx, hV]), (hb2.cell (p := ⟨g5, y, none⟩) hlt5).trans ?_⟩
                rw [hgs.cellAt y (by omega)]
                simp [hyx, hHy])
              have HF2 : Hid (∀ w2, Below wq.heap.size wq w2 → ∀ i, i < N y + 64 → ∀ r, r < 4 → w2.cell? ⟨g6, i * 4 + r, none⟩ = (mkDn y i)[r]?) := Lib.hid (by
                intro w2 hb2 i hi r hr
                refine (hb2.cell (p := ⟨g6, i * 4 + r, none⟩) hlt6).trans ?_
                rw [hownx.cellAt _ (by omega), Ak.marks_get mkDn_len _ _ _ _ hi hr])
              have HF3 : Hid (∀ w2, Below wq.heap.size wq w2 → ∀ i, i < N y → ∃ b, A = some ⟨b, 0, none⟩ ∧ ∀ r, r < 4 → w2.cell? ⟨b, i * 4 + r, none⟩ = (mkDn y i)[r]?) := Lib.hid (by
                intro w2 hb2 i hi
                obtain ⟨_, _, _, hat, hvb, hform, _⟩ := hp.out y hyx
                rcases hform with ⟨_, h0⟩ | ⟨b, c, hVb⟩
                · omega
                · rw [hV] at hVb
                  simp only [Value.slice.injEq] at hVb
                  refine ⟨b, hVb.1, fun r hr => ?_⟩
                  have hg := Ak.marks_get mkDn_len y (N y) i r hi hr
                  have hsome : (mkDn y i)[r]? = some ((mkDn y i)[r]'(by rw [mkDn_len]; exact hr)) := List.getElem?_eq_getElem _
                  rw [hsome] at hg ⊢
                  obtain ⟨b2, e1, e2⟩ := hat _ _ hg
                  have hvv : (V y).ownBlock = some b := by rw [hV, hVb.1]; rfl
                  rw [hvv] at e1
                  obtain rfl := Option.some.inj e1
                  exact (hb2.cell (p := ⟨b, i * 4 + r, none⟩) (hvb b hvv).2).trans e2)
              have hNy : N y ≤ 1000000 := HN.out y hyx
              clear hHy hV hownx
              have hcells0 := HF.out wq (Below.refl _ _)
              obtain ⟨hcl0, hcl1⟩ := hcells0
              go_wp2_with fail
              go_loopw [10] (fun i w2 => ∃ p : Nat, p ≤ N y + 64 ∧ i = .int .i64 p ∧ Below wq.heap.size wq w2) (fun i _ => N y + 64 - (intOf i).toNat)
              case atStart => exact ⟨0, by omega, rfl, Below.refl _ _⟩
              case round =>
                obtain ⟨p, hp1, rfl, hbw⟩ := hrel
                clear hcl0 hcl1
                obtain ⟨hcl0, hcl1⟩ := HF.out wr hbw
                have hp2 : (0 : Int) ≤ (p : Int) := by omega
                by_cases hpn : p < N y + 64
                · have hp3 : (p : Int) < (N y : Int) + 64 := by omega
                  obtain ⟨m0, hm0⟩ : ∃ m0, Hid (mkD (y : Int) (p : Int) = m0) := ⟨_, Lib.hid rfl⟩
                  have HMK : Hid (mkDn y p = [.string (bs m0.name), .bool m0.raw, .int .i64 m0.line, .string (bs m0.text)]) := Lib.hid (by unfold mkDn; rw [hm0.out]; rfl)
                  have xn := neq_dc m0
                  go_upto_region 25 with (first | (go_at_call 123; refine (markDocs_any _ _ _ hm0).mono ?_; rintro e w1 ⟨rfl, hb1⟩; have hbw1 := below_of_below hbw hb1 hbw.size))
                  obtain ⟨w3, hw3⟩ : ∃ w3, w1.alloc (.cells #[.string (bs m0.name), .bool m0.raw, .int .i64 m0.line, .string (bs m0.text)] 83) = w3 := ⟨_, rfl⟩
                  rw [hw3]
                  have hB3 : Blk w3 w1.heap.size 83 #[.string (bs m0.name), .bool m0.raw, .int .i64 m0.line, .string (bs m0.text)] := by rw [← hw3]; exact Blk.new _ _ _
                  have hbw3 : Below wq.heap.size wq w3 := by rw [← hw3]; exact hbw1.alloc hbw1.size _
                  obtain ⟨e0, e1⟩ := HF.out w3 hbw3
                  have hd := HF2.out w3 hbw3 p hpn
                  rw [HMK.out] at hd
                  have d0 : w3.cell? ⟨g6, p * 4, none⟩ = some (.string (bs m0.name)) := hd 0 (by omega)
                  have d1 : w3.cell? ⟨g6, p * 4 + 1, none⟩ = some (.bool m0.raw) := hd 1 (by omega)
                  have d2 : w3.cell? ⟨g6, p * 4 + 2, none⟩ = some (.int .i64 m0.line) := hd 2 (by omega)
                  have d3 : w3.cell? ⟨g6, p * 4 + 3, none⟩ = some (.string (bs m0.text)) := hd 3 (by omega)
                  have f0 : w3.cell? ⟨w1.heap.size, 0, none⟩ = some (.string (bs m0.name)) := hB3.cell 0
                  have f1 : w3.cell? ⟨w1.heap.size, 1, none⟩ = some (.bool m0.raw) := hB3.cell 1
                  have f2 : w3.cell? ⟨w1.heap.size, 2, none⟩ = some (.int .i64 m0.line) := hB3.cell 2
                  have f3 : w3.cell? ⟨w1.heap.size, 3, none⟩ = some (.string (bs m0.text)) := hB3.cell 3
                  clear hd hcl0 hcl1 hB3 hb1 hbw1 hw3
                  by_cases hpN : p < N y
                  · have hp4 : (p : Int) < (N y : Int) := by omega
                    have hd : decide ((p : Int) < (N y : Int)) = true := by simpa using hpN
                    obtain ⟨b, rfl, hd2⟩ := HF3.out w3 hbw3 p hpN
                    rw [HMK.out] at hd2
                    have g0 : w3.cell? ⟨b, p * 4, none⟩ = some (.string (bs m0.name)) := hd2 0 (by omega)
                    have g1 : w3.cell? ⟨b, p * 4 + 1, none⟩ = some (.bool m0.raw) := hd2 1 (by omega)
                    have g2 : w3.cell? ⟨b, p * 4 + 2, none⟩ = some (.int .i64 m0.line) := hd2 2 (by omega)
                    have g3 : w3.cell? ⟨b, p * 4 + 3, none⟩ = some (.string (bs m0.text)) := hd2 3 (by omega)
                    clear hd2
                    go_cut [112] (fun s112 wx => s112 = .bool false ∧ Below wq.heap.size wq wx)
                    case first =>
                      go_quiet (fail)
                      go_wp2_with fail
                      go_meet
                      exact ⟨rfl, by first | exact hbw3 | exact below_drewN hbw3 _⟩
                    case rest =>
                      obtain ⟨rfl, hbx⟩ := hcut
                      clear d0 d1 d2 d3 f0 f1 f2 f3 g0 g1 g2 g3 e0 e1 xn
                      go_wp2_with fail
                      go_roundw
                      case rel => exact ⟨p + 1, by omega, by go_num, hbx⟩
                      case measure => simp [intOf]; omega
                  · have hd : decide ((p : Int) < (N y : Int)) = false := by simp; omega
                    go_cut [112] (fun s112 wx => s112 = .bool false ∧ Below wq.heap.size wq wx)
                    case first =>
                      go_quiet (fail)
                      go_wp2_with fail
                      go_meet
                      exact ⟨rfl, by first | exact hbw3 | exact below_drewN hbw3 _⟩
                    case rest =>
                      obtain ⟨rfl, hbx⟩ := hcut
                      clear d0 d1 d2 d3 f0 f1 f2 f3 e0 e1 xn
                      go_wp2_with fail
                      go_roundw
                      case rel => exact ⟨p + 1, by omega, by go_num, hbx⟩
                      case measure => simp [intOf]; omega
                · obtain rfl : p = N y + 64 := by omega
                  have hd : decide ((N y : Int) + 64 < (N y : Int) + 64) = false := by simp
                  go_wp2_with fail
                  go_roundw
                  case rel => exact ⟨y + 1, by omega, by go_num, Lib.hid (hp.out.below hbw), own_below hgs hbw, Lib.hid (hB.out.below hbw), Lib.hid (by rw [hbw.block bls (Array.getElem?_eq_some_iff.1 hL.out).1]; exact hL.out)⟩
                  case measure => simp [intOf]; omega
            · go_wp2_with fail
              go_ret
              exact ⟨rfl, hB.out⟩
end Go.Proofs.YtpgnfianffjpnaaGreatDoor
