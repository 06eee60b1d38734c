/- stratakit: MarkText; texts lent and kept, walked. (Printed by wip/genlt.py.) stratakit: numbers lent and kept, walked. (Printed by wip/gengw.py.) -/
import Derived.Test.YtnlkmljdcmfogaaGreatDoorCkM0
import Derived.Test.YtnlkmljdcmfogaaGreatDoorOwn0
import Derived.Laws.BytesArg
import Derived.Laws.StructEq
import Derived.BigQuiet
import Derived.Deep.DeepCutAuto
namespace Go.Proofs.YtnlkmljdcmfogaaGreatDoor
open Go Go.RowKit
theorem own_two18 {w : World} {base : Nat} {e : TypeId} {k : Nat} {v : Value} {n : Nat} {xs : List Value} (h : w.ownsRow base e k v n xs) : (v = .slice none 0 0 ∧ n = 0) ∨ ∃ b c, v = .slice (some ⟨b, 0, none⟩) n c ∧ n ≤ c := by
  rcases h.2 with h | ⟨g, cap, cur, rfl, _, _, hc, _⟩
  · exact .inl h
  · exact .inr ⟨g, cap, rfl, hc⟩
/-- the mark of a place. -/
def markS (k i : Int) : ByteArray := strOfNums [35, k % 256, k / 256 % 256, i % 256, i / 256 % 256]
theorem cells_nums18 (w : World) (e : TypeId) (xs : List Int) : ∀ i, i < xs.length → (w.alloc (.cells (xs.map (Value.int .u8)).toArray e)).cell? ⟨w.heap.size, 0 + i, none⟩ = some (.int .u8 (xs.getD i 0)) := by
  intro i hi
  have := news_alloc w (xs.map (Value.int .u8)) e i (.int .u8 (xs.getD i 0)) (by simp [List.getD, hi])
  rwa [Addr.add_lit] at this
set_option maxRecDepth 100000 in
theorem markText_any (k i : Int) (w : World) :
    Calls Tryz.prog 167 #[.int .i64 k, .int .i64 i] w fun e w' => e = .returned (.string (markS k i)) ∧ Below w.heap.size w w' := by
  have hcv := run_convert_bytes_arg (P := Tryz.prog) (w.alloc (.cells #[.int .u8 35, .int .u8 (k % 256), .int .u8 (k / 256 % 256), .int .u8 (i % 256), .int .u8 (i / 256 % 256)] 5)) 199 5 Tryz.underlying199 Tryz.underlying5 w.heap.size 0 5 5 [35, k % 256, k / 256 % 256, i % 256, i / 256 % 256] rfl (cells_nums18 w _ [35, k % 256, k / 256 % 256, i % 256, i / 256 % 256]) 9 Tryz.underlying9
  go_enter Tryz.func167, Tryz.ntmps167
  go_wp2_with fail
  go_ret
  exact ⟨rfl, (Below.refl _ _).alloc (Nat.le_refl _) _⟩

/-- what markTexts answers. -/
def mkT (k i : Int) : List UInt8 := bl (markS k i)
def marksT (n : Nat) : List (List UInt8) := (List.range n).map fun i : Nat => mkT 90 (i : Int)
theorem marksT_succ (n : Nat) : marksT (n + 1) = marksT n ++ [mkT 90 (n : Int)] := by simp [marksT, List.range_succ]
theorem marksT_len (n : Nat) : (marksT n).length = n := by simp [marksT]
theorem sc_snoc (l : List (List UInt8)) (x : List UInt8) : sc (l ++ [x]) = sc l ++ [.string (bs x)] := by simp [sc]
set_option maxRecDepth 100000 in
theorem markTexts_any (k i : Int) (w : World) {m : List UInt8} (H : Hid (mkT k i = m)) : Calls Tryz.prog 128 #[.int .i64 k, .int .i64 i] w fun e w' => e = .returned (.string (bs m)) ∧ Below w.heap.size w w' := by
  have hmt := markText_any k i w
  rw [show markS k i = bs m by rw [← H.out, mkT, bs_bl]] at hmt
  go_enter Tryz.func128, Tryz.ntmps128
  go_wp2_with fail
  refine hmt.mono ?_
  rintro e w1 ⟨rfl, hb1⟩
  go_wp2_with fail
  go_ret
  exact ⟨rfl, hb1⟩
set_option maxRecDepth 100000 in
set_option maxHeartbeats 1000000 in
theorem fullT_any (ms : List (List UInt8)) (At : Option Addr) (ct : Nat) (w : World) (hR : SlA w (.slice At ms.length ct) ms.length (sc ms)) (hn : ms.length ≤ 1100000) : Calls Tryz.prog 148 #[.slice At ms.length ct] w fun e w' => (∃ g c, e = .returned (.slice (some ⟨g, 0, none⟩) (ms.length + 16) c) ∧ w'.ownsRow w.heap.size 9 1 (.slice (some ⟨g, 0, none⟩) (ms.length + 16) c) (ms.length + 16) (sc (ms ++ marksT 16))) ∧ Below w.heap.size w w' := by
  have HR := Lib.hid hR
  clear hR
  go_enter Tryz.func148, Tryz.ntmps148
  go_wp2_with fail
  go_loopw [3, 4] (fun t3 t4 wr => ∃ i : Nat, i ≤ ms.length ∧ t4 = .int .i64 (i : Int) ∧ wr.ownsRow w.heap.size 9 1 t3 i (sc (ms.take i)) ∧ Below w.heap.size w wr) (fun _ t4 _ => ms.length - (intOf t4).toNat)
  case atStart => exact ⟨0, by omega, rfl, World.ownsRow_nil _ _ _ _, Below.refl _ _⟩
  case round =>
    obtain ⟨i, hi, rfl, hown, hB⟩ := hrel
    obtain ⟨AA, ca, rfl⟩ := ownk_form hown
    have j0 : (0 : Int) ≤ (i : Int) := by omega
    rcases Nat.lt_or_ge i ms.length with hin | hin
    · have i0 : decide ((i : Int) < (ms.length : Int)) = true := by rw [decide_eq_true_eq]; omega
      have i1 : (i : Int) < (ms.length : Int) := by omega
      have hE := HR.out.new hB
      obtain ⟨g, o, c, hvl, c0⟩ := sc_at hE hin
      obtain ⟨hA, hcc⟩ : At = some ⟨g, o, none⟩ ∧ ct = c := by injection hvl with e1 _ e3; exact ⟨e1, e3⟩
      subst hA hcc
      have hT : Hid (sc (ms.take (i + 1)) = sc (ms.take i) ++ [.string (bs ms[i])]) := Lib.hid (by rw [List.take_add_one, List.getElem?_eq_getElem hin]; exact sc_snoc _ _)
      obtain ⟨x, hxe⟩ : ∃ x, ms[i] = x := ⟨_, rfl⟩
      rw [hxe] at c0 hT
      have hbs := hB.size
      clear hvl hE hxe
      go_wp2_with (at_builtin; refine wpList_appk rfl _ _ _ rfl strT _ _ _ _ rfl (hown.alloc _) _ _ _ _ rfl rfl (news_at _ _ (by simp) _ _) (by simp [Value.oneCell']) (by omega) (by omega) (hB.alloc hbs _) (by rw [World.size_alloc]; omega) ?_; intro v1 w1 ho1 hb1 hg1 hat1; obtain ⟨B1, q1, rfl⟩ := ownk_form ho1)
      go_roundw
      case rel => exact ⟨i + 1, by omega, by go_num, by rw [hT.out]; exact ho1, hb1⟩
      case measure => simp [intOf]; omega
    · have i0 : decide ((i : Int) < (ms.length : Int)) = false := by rw [decide_eq_false_iff_not]; omega
      obtain rfl : i = ms.length := by omega
      rw [List.take_length] at hown
      have HO : Hid (wr.ownsRow w.heap.size 9 1 (.slice AA ms.length ca) (ms.length + 0) (sc (ms ++ marksT 0))) := Lib.hid (by rw [show marksT 0 = [] from rfl, List.append_nil]; exact hown)
      clear hown
      go_wp2_with fail
      go_loopw [3, 5] (fun t3 t5 wv => ∃ j : Nat, j ≤ 16 ∧ t5 = .int .i64 (j : Int) ∧ wv.ownsRow w.heap.size 9 1 t3 (ms.length + j) (sc (ms ++ marksT j)) ∧ Below w.heap.size w wv) (fun _ t5 _ => 16 - (intOf t5).toNat)
      case atStart => exact ⟨0, by omega, rfl, HO.out, hB⟩
      case round =>
        clear HO hB
        obtain ⟨j, hj, rfl, hown, hB⟩ := hrel
        obtain ⟨A2, c2, rfl⟩ := ownk_form hown
        rcases Nat.lt_or_ge j 16 with hjn | hjn
        · have j1 : (j : Int) < 16 := by omega
          obtain ⟨y, hy⟩ : ∃ y, Hid (mkT 90 (j : Int) = y) := ⟨_, Lib.hid rfl⟩
          have hT : Hid (sc (ms ++ marksT (j + 1)) = sc (ms ++ marksT j) ++ [.string (bs y)]) := Lib.hid (by rw [marksT_succ, hy.out, ← List.append_assoc, sc_snoc])
          go_wp2_with (first | (go_at_call 128; refine (markTexts_any _ _ _ hy).mono ?_; rintro e w1 ⟨rfl, hb1⟩; have hownW := own_below hown hb1; have hBW := below_of_below hB hb1 hB.size; have hbs := hBW.size) | (at_builtin; refine wpList_appk rfl _ _ _ rfl strT _ _ _ _ rfl (hownW.alloc _) _ _ _ _ rfl rfl (news_at _ _ (by simp) _ _) (by simp [Value.oneCell']) (by omega) (by omega) (hBW.alloc hbs _) (by rw [World.size_alloc]; omega) ?_; intro v1 w2 ho1 hb2 hg1 hat1; obtain ⟨B1, q1, rfl⟩ := ownk_form ho1))
          go_roundw
          case rel => exact ⟨j + 1, by omega, by go_num, by rw [hT.out]; exact ho1, hb2⟩
          case measure => simp [intOf]; omega
        · obtain rfl : j = 16 := by omega
          obtain ⟨g, cap, hv, _⟩ := hown.form (by omega)
          rw [hv] at hown
          rw [hv]
          clear hv
          go_wp2_with fail
          go_ret
          exact ⟨⟨g, cap, rfl, hown⟩, hB⟩
set_option maxRecDepth 100000 in
theorem lentT_any (ms : List (List UInt8)) (At : Option Addr) (ct : Nat) (w : World) (hR : SlA w (.slice At ms.length ct) ms.length (sc ms)) (hn : ms.length ≤ 1100000) : Calls Tryz.prog 84 #[.slice At ms.length ct] w fun e w' => (∃ g c, e = .returned (.slice (some ⟨g, 0, none⟩) ms.length c) ∧ ms.length + 16 ≤ c ∧ w'.ownsRow w.heap.size 9 1 (.slice (some ⟨g, 0, none⟩) (ms.length + 16) c) (ms.length + 16) (sc (ms ++ marksT 16))) ∧ Below w.heap.size w w' := by
  have HR := Lib.hid hR
  clear hR
  go_enter Tryz.func84, Tryz.ntmps84
  go_wp2_with fail
  refine (fullT_any ms At ct _ HR.out hn).mono ?_
  rintro e w1 ⟨⟨g, c, rfl, ho⟩, b1⟩
  have hc : ms.length + 16 ≤ c := by
    rcases own_two18 ho with ⟨h, _⟩ | ⟨b, c', h, hc⟩
    · cases h
    · simp only [Value.slice.injEq] at h
      omega
  have HO := Lib.hid ho
  have i1 : (0 : Int) ≤ (ms.length : Int) := by omega
  have i2 : (ms.length : Int) ≤ (c : Int) := by omega
  have i3 : ms.length ≤ c := by omega
  clear ho
  go_wp2_with fail
  go_ret
  exact ⟨⟨g, c, rfl, hc, HO.out⟩, b1⟩
theorem marksT_at (n i : Nat) (h : i < n) : (marksT n)[i]? = some (mkT 90 (i : Int)) := by simp [marksT, h]
theorem lentT_at (es : List (List UInt8)) (i : Nat) (h : i < (es ++ marksT 16).length) : (es ++ marksT 16)[i] = if h2 : i < es.length then es[i] else mkT 90 ((i : Int) - (es.length : Int)) := by
  split
  · rename_i h2
    rw [List.getElem_append_left h2]
  · rename_i h2
    rw [List.getElem_append_right (by omega)]
    have h3 : i - es.length < (marksT 16).length := by rw [List.length_append] at h; omega
    have e := marksT_at 16 (i - es.length) (by rw [marksT_len] at h3; exact h3)
    rw [List.getElem?_eq_getElem h3] at e
    rw [Option.some.inj e]
    congr 1
    omega
set_option maxRecDepth 100000 in
set_option maxHeartbeats 1000000 in
theorem keptFullT_any (es E : List (List UInt8)) (hE : E = es ++ marksT 16) (A1 At : Option Addr) (c1 ct : Nat) (w : World) (hR1 : SlA w (.slice A1 E.length c1) E.length (sc E)) (hR2 : SlA w (.slice At es.length ct) es.length (sc es)) (hn : es.length ≤ 1100000) : Calls Tryz.prog 154 #[.slice A1 E.length c1, .slice At es.length ct] w fun e w' => e = .returned (.bool true) ∧ Below w.heap.size w w' := by
  have hl : E.length = es.length + 16 := by rw [hE, List.length_append, marksT_len]
  have HE : Hid (∀ i (h : i < E.length), E[i] = if h2 : i < es.length then es[i] else mkT 90 ((i : Int) - (es.length : Int))) := Lib.hid (by subst hE; exact lentT_at es)
  have HR1 := Lib.hid hR1
  have HR2 := Lib.hid hR2
  have t0 : ((E.length : Int) != (es.length : Int) + 16) = false := by rw [hl]; simp
  have hl1 : E.length ≤ es.length + 16 := by omega
  have hl2 : es.length + 16 ≤ E.length := by omega
  clear hR1 hR2 hE hl
  go_enter Tryz.func154, Tryz.ntmps154
  go_wp2_with fail
  go_loopw [5, 6] (fun t5 _ wr => ∃ i : Nat, i ≤ E.length ∧ t5 = .int .i64 (i : Int) ∧ Below w.heap.size w wr) (fun t5 _ _ => E.length - (intOf t5).toNat)
  case atStart => exact ⟨0, by omega, rfl, Below.refl _ _⟩
  case round =>
    obtain ⟨i, hi, rfl, hB⟩ := hrel
    have j0 : (0 : Int) ≤ (i : Int) := by omega
    rcases Nat.lt_or_ge i E.length with hin | hin
    · have i0 : decide ((i : Int) < (E.length : Int)) = true := by rw [decide_eq_true_eq]; omega
      have i1 : (i : Int) < (E.length : Int) := by omega
      have hw : IntKind.i64.wrap ((i : Int) - (es.length : Int)) = (i : Int) - (es.length : Int) := by
        unfold IntKind.wrap
        simp [IntKind.bits, IntKind.signed]
        omega
      obtain ⟨y, hy⟩ : ∃ y, Hid (mkT 90 ((i : Int) - (es.length : Int)) = y) := ⟨_, Lib.hid rfl⟩
      have hEi := HE.out i hin
      obtain ⟨z, hz⟩ : ∃ z, Hid (E[i] = z) := ⟨_, Lib.hid rfl⟩
      have xn : ((bs z).toList == (bs z).toList) = true := beq_self_eq_true _
      go_wp2_with fail
      refine (markTexts_any 90 ((i : Int) - (es.length : Int)) _ hy).mono ?_
      rintro e w1 ⟨rfl, hb1⟩
      have hbw := below_of_below hB hb1 hB.size
      have HBW := Lib.hid hbw
      obtain ⟨g1, o1, c1', hv1, d0⟩ := sc_at (HR1.out.new hbw) hin
      rw [hz.out] at d0
      injection hv1 with hA1 _ hc1
      subst hA1 hc1
      clear hb1 hbw hB
      by_cases hlt : i < es.length
      · rw [dif_pos hlt, hz.out] at hEi
        have k0 : decide ((i : Int) < (es.length : Int)) = true := by rw [decide_eq_true_eq]; omega
        have k1 : (i : Int) < (es.length : Int) := by omega
        obtain ⟨g2, o2, c2', hv2, f0⟩ := sc_at (HR2.out.new HBW.out) hlt
        rw [← hEi] at f0
        injection hv2 with hA2 _ hc2
        subst hA2 hc2
        clear hEi
        go_wp2_with fail
        go_roundw
        case rel => exact ⟨i + 1, by omega, by go_num, HBW.out⟩
        case measure => simp [intOf]; omega
      · rw [dif_neg hlt, hz.out, hy.out] at hEi
        subst hEi
        have k0 : decide ((i : Int) < (es.length : Int)) = false := by rw [decide_eq_false_iff_not]; omega
        have k1 : ¬ (i < es.length) := hlt
        go_wp2_with fail
        go_roundw
        case rel => exact ⟨i + 1, by omega, by go_num, HBW.out⟩
        case measure => simp [intOf]; omega
    · have i0 : decide ((i : Int) < (E.length : Int)) = false := by rw [decide_eq_false_iff_not]; omega
      go_wp2_with fail
      go_ret
      exact ⟨rfl, hB⟩
set_option maxRecDepth 100000 in
theorem keptT_any (es : List (List UInt8)) (g c : Nat) (At : Option Addr) (ct : Nat) (w : World) (ho : SlA w (.slice (some ⟨g, 0, none⟩) (es.length + 16) c) (es.length + 16) (sc (es ++ marksT 16))) (hc : es.length + 16 ≤ c) (hR2 : SlA w (.slice At es.length ct) es.length (sc es)) (hn : es.length ≤ 1100000) :
    Calls Tryz.prog 93 #[.slice (some ⟨g, 0, none⟩) es.length c, .slice At es.length ct] w fun e w' => e = .returned (.bool true) ∧ Below w.heap.size w w' := by
  obtain ⟨E, hE⟩ : ∃ E, E = es ++ marksT 16 := ⟨_, rfl⟩
  have hl : E.length = es.length + 16 := by rw [hE, List.length_append, marksT_len]
  have HR1 : Hid (SlA w (.slice (some ⟨g, 0, none⟩) E.length c) E.length (sc E)) := Lib.hid (by rw [← hE, ← hl] at ho; exact ho)
  have HR2 := Lib.hid hR2
  have HE := Lib.hid hE
  have t0 : ((es.length : Int) != (es.length : Int)) = false := by simp
  have i1 : (0 : Int) ≤ (es.length : Int) + 16 := by omega
  have i2 : (es.length : Int) + 16 ≤ (c : Int) := by omega
  clear hR2 hE ho
  go_enter Tryz.func93, Tryz.ntmps93
  go_wp2_with fail
  have hk := keptFullT_any es E HE.out (some ⟨g, 0, none⟩) At c ct w HR1.out HR2.out hn
  rw [hl] at hk
  refine hk.mono ?_
  rintro e w1 ⟨rfl, b1⟩
  go_wp2_with fail
  go_ret
  exact ⟨rfl, b1⟩
end Go.Proofs.YtnlkmljdcmfogaaGreatDoor
namespace Go.Proofs.YtnlkmljdcmfogaaGreatDoor
open Go Go.RowKit
theorem intK : ElemK Tryz.prog 29 3 (.int .i64 0) 1 8 := ⟨Tryz.underlying29, by kernel_rfl, rfl, by decide⟩
/-- what markInts answers. -/
def mkI (k i : Int) : Int := -1000000 * (k + 1) - i
def marksI (n : Nat) : List Int := (List.range n).map fun i : Nat => mkI 90 (i : Int)
theorem marksI_succ (n : Nat) : marksI (n + 1) = marksI n ++ [mkI 90 (n : Int)] := by simp [marksI, List.range_succ]
theorem marksI_len (n : Nat) : (marksI n).length = n := by simp [marksI]
set_option maxRecDepth 100000 in
theorem markInts_any (k i : Int) (hk : 0 ≤ k) (hk2 : k ≤ 1000000) (hi : -1000000000 ≤ i) (hi2 : i ≤ 1000000000) (w : World) {m : Int} (H : Hid (mkI k i = m)) : Calls Tryz.prog 94 #[.int .i64 k, .int .i64 i] w fun e w' => e = .returned (.int .i64 m) ∧ w' = w := by
  have hx1 : IntKind.i64.wrap (k + 1) = k + 1 := by
    unfold IntKind.wrap
    simp [IntKind.bits, IntKind.signed]
    omega
  have hx2 : IntKind.i64.wrap (-1000000 * (k + 1)) = -1000000 * (k + 1) := by
    unfold IntKind.wrap
    simp [IntKind.bits, IntKind.signed]
    omega
  have hx3 : IntKind.i64.wrap (-1000000 * (k + 1) - i) = -1000000 * (k + 1) - i := by
    unfold IntKind.wrap
    simp [IntKind.bits, IntKind.signed]
    omega
  rw [← H.out]
  unfold mkI
  clear H
  go_enter Tryz.func94, Tryz.ntmps94
  go_wp2_with fail
  go_ret
  exact ⟨by rfl, rfl⟩
set_option maxRecDepth 100000 in
set_option maxHeartbeats 1000000 in
theorem fullI_any (ms : List Int) (At : Option Addr) (ct : Nat) (w : World) (hR : SlA w (.slice At ms.length ct) ms.length (icC ms)) (hn : ms.length ≤ 1100000) : Calls Tryz.prog 147 #[.slice At ms.length ct] w fun e w' => (∃ g c, e = .returned (.slice (some ⟨g, 0, none⟩) (ms.length + 16) c) ∧ w'.ownsRow w.heap.size 3 1 (.slice (some ⟨g, 0, none⟩) (ms.length + 16) c) (ms.length + 16) (icC (ms ++ marksI 16))) ∧ Below w.heap.size w w' := by
  have HR := Lib.hid hR
  clear hR
  go_enter Tryz.func147, Tryz.ntmps147
  go_wp2_with fail
  go_loopw [3, 4] (fun t3 t4 wr => ∃ i : Nat, i ≤ ms.length ∧ t4 = .int .i64 (i : Int) ∧ wr.ownsRow w.heap.size 3 1 t3 i (icC (ms.take i)) ∧ Below w.heap.size w wr) (fun _ t4 _ => ms.length - (intOf t4).toNat)
  case atStart => exact ⟨0, by omega, rfl, World.ownsRow_nil _ _ _ _, Below.refl _ _⟩
  case round =>
    obtain ⟨i, hi, rfl, hown, hB⟩ := hrel
    obtain ⟨AA, ca, rfl⟩ := ownk_form hown
    have j0 : (0 : Int) ≤ (i : Int) := by omega
    rcases Nat.lt_or_ge i ms.length with hin | hin
    · have i0 : decide ((i : Int) < (ms.length : Int)) = true := by rw [decide_eq_true_eq]; omega
      have i1 : (i : Int) < (ms.length : Int) := by omega
      have hE := HR.out.new hB
      obtain ⟨g, o, c, hvl, c0⟩ := ic_at hE hin
      obtain ⟨hA, hcc⟩ : At = some ⟨g, o, none⟩ ∧ ct = c := by injection hvl with e1 _ e3; exact ⟨e1, e3⟩
      subst hA hcc
      have hT : Hid (icC (ms.take (i + 1)) = icC (ms.take i) ++ [.int .i64 ms[i]]) := Lib.hid (by rw [List.take_add_one, List.getElem?_eq_getElem hin]; exact icC_snoc _ _)
      obtain ⟨x, hxe⟩ : ∃ x, ms[i] = x := ⟨_, rfl⟩
      rw [hxe] at c0 hT
      have hbs := hB.size
      clear hvl hE hxe
      go_wp2_with (at_builtin; refine wpList_appk rfl _ _ _ rfl intK _ _ _ _ rfl (hown.alloc _) _ _ _ _ rfl rfl (news_at _ _ (by simp) _ _) (by simp [Value.oneCell']) (by omega) (by omega) (hB.alloc hbs _) (by rw [World.size_alloc]; omega) ?_; intro v1 w1 ho1 hb1 hg1 hat1; obtain ⟨B1, q1, rfl⟩ := ownk_form ho1)
      go_roundw
      case rel => exact ⟨i + 1, by omega, by go_num, by rw [hT.out]; exact ho1, hb1⟩
      case measure => simp [intOf]; omega
    · have i0 : decide ((i : Int) < (ms.length : Int)) = false := by rw [decide_eq_false_iff_not]; omega
      obtain rfl : i = ms.length := by omega
      rw [List.take_length] at hown
      have HO : Hid (wr.ownsRow w.heap.size 3 1 (.slice AA ms.length ca) (ms.length + 0) (icC (ms ++ marksI 0))) := Lib.hid (by rw [show marksI 0 = [] from rfl, List.append_nil]; exact hown)
      clear hown
      go_wp2_with fail
      go_loopw [3, 5] (fun t3 t5 wv => ∃ j : Nat, j ≤ 16 ∧ t5 = .int .i64 (j : Int) ∧ wv.ownsRow w.heap.size 3 1 t3 (ms.length + j) (icC (ms ++ marksI j)) ∧ Below w.heap.size w wv) (fun _ t5 _ => 16 - (intOf t5).toNat)
      case atStart => exact ⟨0, by omega, rfl, HO.out, hB⟩
      case round =>
        clear HO hB
        obtain ⟨j, hj, rfl, hown, hB⟩ := hrel
        obtain ⟨A2, c2, rfl⟩ := ownk_form hown
        rcases Nat.lt_or_ge j 16 with hjn | hjn
        · have j1 : (j : Int) < 16 := by omega
          obtain ⟨y, hy⟩ : ∃ y, Hid (mkI 90 (j : Int) = y) := ⟨_, Lib.hid rfl⟩
          have hT : Hid (icC (ms ++ marksI (j + 1)) = icC (ms ++ marksI j) ++ [.int .i64 y]) := Lib.hid (by rw [marksI_succ, hy.out, ← List.append_assoc, icC_snoc])
          go_wp2_with (first | (go_at_call 94; refine (markInts_any _ _ (by omega) (by omega) (by omega) (by omega) _ hy).mono ?_; rintro e w1 ⟨rfl, rfl⟩; have hownW := hown; have hBW := hB; have hbs := hBW.size) | (at_builtin; refine wpList_appk rfl _ _ _ rfl intK _ _ _ _ rfl (hownW.alloc _) _ _ _ _ rfl rfl (news_at _ _ (by simp) _ _) (by simp [Value.oneCell']) (by omega) (by omega) (hBW.alloc hbs _) (by rw [World.size_alloc]; omega) ?_; intro v1 w2 ho1 hb2 hg1 hat1; obtain ⟨B1, q1, rfl⟩ := ownk_form ho1))
          go_roundw
          case rel => exact ⟨j + 1, by omega, by go_num, by rw [hT.out]; exact ho1, hb2⟩
          case measure => simp [intOf]; omega
        · obtain rfl : j = 16 := by omega
          obtain ⟨g, cap, hv, _⟩ := hown.form (by omega)
          rw [hv] at hown
          rw [hv]
          clear hv
          go_wp2_with fail
          go_ret
          exact ⟨⟨g, cap, rfl, hown⟩, hB⟩
set_option maxRecDepth 100000 in
theorem lentI_any (ms : List Int) (At : Option Addr) (ct : Nat) (w : World) (hR : SlA w (.slice At ms.length ct) ms.length (icC ms)) (hn : ms.length ≤ 1100000) : Calls Tryz.prog 83 #[.slice At ms.length ct] w fun e w' => (∃ g c, e = .returned (.slice (some ⟨g, 0, none⟩) ms.length c) ∧ ms.length + 16 ≤ c ∧ w'.ownsRow w.heap.size 3 1 (.slice (some ⟨g, 0, none⟩) (ms.length + 16) c) (ms.length + 16) (icC (ms ++ marksI 16))) ∧ Below w.heap.size w w' := by
  have HR := Lib.hid hR
  clear hR
  go_enter Tryz.func83, Tryz.ntmps83
  go_wp2_with fail
  refine (fullI_any ms At ct _ HR.out hn).mono ?_
  rintro e w1 ⟨⟨g, c, rfl, ho⟩, b1⟩
  have hc : ms.length + 16 ≤ c := by
    rcases own_two18 ho with ⟨h, _⟩ | ⟨b, c', h, hc⟩
    · cases h
    · simp only [Value.slice.injEq] at h
      omega
  have HO := Lib.hid ho
  have i1 : (0 : Int) ≤ (ms.length : Int) := by omega
  have i2 : (ms.length : Int) ≤ (c : Int) := by omega
  have i3 : ms.length ≤ c := by omega
  clear ho
  go_wp2_with fail
  go_ret
  exact ⟨⟨g, c, rfl, hc, HO.out⟩, b1⟩
theorem marksI_at (n i : Nat) (h : i < n) : (marksI n)[i]? = some (mkI 90 (i : Int)) := by simp [marksI, h]
theorem lentI_at (es : List Int) (i : Nat) (h : i < (es ++ marksI 16).length) : (es ++ marksI 16)[i] = if h2 : i < es.length then es[i] else mkI 90 ((i : Int) - (es.length : Int)) := by
  split
  · rename_i h2
    rw [List.getElem_append_left h2]
  · rename_i h2
    rw [List.getElem_append_right (by omega)]
    have h3 : i - es.length < (marksI 16).length := by rw [List.length_append] at h; omega
    have e := marksI_at 16 (i - es.length) (by rw [marksI_len] at h3; exact h3)
    rw [List.getElem?_eq_getElem h3] at e
    rw [Option.some.inj e]
    congr 1
    omega
set_option maxRecDepth 100000 in
set_option maxHeartbeats 1000000 in
theorem keptFullI_any (es E : List Int) (hE : E = es ++ marksI 16) (A1 At : Option Addr) (c1 ct : Nat) (w : World) (hR1 : SlA w (.slice A1 E.length c1) E.length (icC E)) (hR2 : SlA w (.slice At es.length ct) es.length (icC es)) (hn : es.length ≤ 1100000) : Calls Tryz.prog 153 #[.slice A1 E.length c1, .slice At es.length ct] w fun e w' => e = .returned (.bool true) ∧ Below w.heap.size w w' := by
  have hl : E.length = es.length + 16 := by rw [hE, List.length_append, marksI_len]
  have HE : Hid (∀ i (h : i < E.length), E[i] = if h2 : i < es.length then es[i] else mkI 90 ((i : Int) - (es.length : Int))) := Lib.hid (by subst hE; exact lentI_at es)
  have HR1 := Lib.hid hR1
  have HR2 := Lib.hid hR2
  have t0 : ((E.length : Int) != (es.length : Int) + 16) = false := by rw [hl]; simp
  have hl1 : E.length ≤ es.length + 16 := by omega
  have hl2 : es.length + 16 ≤ E.length := by omega
  clear hR1 hR2 hE hl
  go_enter Tryz.func153, Tryz.ntmps153
  go_wp2_with fail
  go_loopw [5, 6] (fun t5 _ wr => ∃ i : Nat, i ≤ E.length ∧ t5 = .int .i64 (i : Int) ∧ Below w.heap.size w wr) (fun t5 _ _ => E.length - (intOf t5).toNat)
  case atStart => exact ⟨0, by omega, rfl, Below.refl _ _⟩
  case round =>
    obtain ⟨i, hi, rfl, hB⟩ := hrel
    have j0 : (0 : Int) ≤ (i : Int) := by omega
    rcases Nat.lt_or_ge i E.length with hin | hin
    · have i0 : decide ((i : Int) < (E.length : Int)) = true := by rw [decide_eq_true_eq]; omega
      have i1 : (i : Int) < (E.length : Int) := by omega
      have hw : IntKind.i64.wrap ((i : Int) - (es.length : Int)) = (i : Int) - (es.length : Int) := by
        unfold IntKind.wrap
        simp [IntKind.bits, IntKind.signed]
        omega
      obtain ⟨y, hy⟩ : ∃ y, Hid (mkI 90 ((i : Int) - (es.length : Int)) = y) := ⟨_, Lib.hid rfl⟩
      have hEi := HE.out i hin
      obtain ⟨z, hz⟩ : ∃ z, Hid (E[i] = z) := ⟨_, Lib.hid rfl⟩
      have xn : (z == z) = true := beq_self_eq_true _
      go_wp2_with fail
      refine (markInts_any 90 ((i : Int) - (es.length : Int)) (by omega) (by omega) (by omega) (by omega) _ hy).mono ?_
      rintro e w1 ⟨rfl, rfl⟩
      have hbw := hB
      have HBW := Lib.hid hbw
      obtain ⟨g1, o1, c1', hv1, d0⟩ := ic_at (HR1.out.new hbw) hin
      rw [hz.out] at d0
      injection hv1 with hA1 _ hc1
      subst hA1 hc1
      clear hbw hB
      by_cases hlt : i < es.length
      · rw [dif_pos hlt, hz.out] at hEi
        have k0 : decide ((i : Int) < (es.length : Int)) = true := by rw [decide_eq_true_eq]; omega
        have k1 : (i : Int) < (es.length : Int) := by omega
        obtain ⟨g2, o2, c2', hv2, f0⟩ := ic_at (HR2.out.new HBW.out) hlt
        rw [← hEi] at f0
        injection hv2 with hA2 _ hc2
        subst hA2 hc2
        clear hEi
        go_wp2_with fail
        go_roundw
        case rel => exact ⟨i + 1, by omega, by go_num, HBW.out⟩
        case measure => simp [intOf]; omega
      · rw [dif_neg hlt, hz.out, hy.out] at hEi
        subst hEi
        have k0 : decide ((i : Int) < (es.length : Int)) = false := by rw [decide_eq_false_iff_not]; omega
        have k1 : ¬ (i < es.length) := hlt
        go_wp2_with fail
        go_roundw
        case rel => exact ⟨i + 1, by omega, by go_num, HBW.out⟩
        case measure => simp [intOf]; omega
    · have i0 : decide ((i : Int) < (E.length : Int)) = false := by rw [decide_eq_false_iff_not]; omega
      go_wp2_with fail
      go_ret
      exact ⟨rfl, hB⟩
set_option maxRecDepth 100000 in
theorem keptI_any (es : List Int) (g c : Nat) (At : Option Addr) (ct : Nat) (w : World) (ho : SlA w (.slice (some ⟨g, 0, none⟩) (es.length + 16) c) (es.length + 16) (icC (es ++ marksI 16))) (hc : es.length + 16 ≤ c) (hR2 : SlA w (.slice At es.length ct) es.length (icC es)) (hn : es.length ≤ 1100000) :
    Calls Tryz.prog 92 #[.slice (some ⟨g, 0, none⟩) es.length c, .slice At es.length ct] w fun e w' => e = .returned (.bool true) ∧ Below w.heap.size w w' := by
  obtain ⟨E, hE⟩ : ∃ E, E = es ++ marksI 16 := ⟨_, rfl⟩
  have hl : E.length = es.length + 16 := by rw [hE, List.length_append, marksI_len]
  have HR1 : Hid (SlA w (.slice (some ⟨g, 0, none⟩) E.length c) E.length (icC E)) := Lib.hid (by rw [← hE, ← hl] at ho; exact ho)
  have HR2 := Lib.hid hR2
  have HE := Lib.hid hE
  have t0 : ((es.length : Int) != (es.length : Int)) = false := by simp
  have i1 : (0 : Int) ≤ (es.length : Int) + 16 := by omega
  have i2 : (es.length : Int) + 16 ≤ (c : Int) := by omega
  clear hR2 hE ho
  go_enter Tryz.func92, Tryz.ntmps92
  go_wp2_with fail
  have hk := keptFullI_any es E HE.out (some ⟨g, 0, none⟩) At c ct w HR1.out HR2.out hn
  rw [hl] at hk
  refine hk.mono ?_
  rintro e w1 ⟨rfl, b1⟩
  go_wp2_with fail
  go_ret
  exact ⟨rfl, b1⟩
end Go.Proofs.YtnlkmljdcmfogaaGreatDoor
