/- strataref0.CopyEntries, SameEntries, walked; entries compared. -/
import Derived.Test.YtdjfakampjbgeaaGreatDoorMI
import Derived.Laws.StructEq
import Derived.BigQuiet
namespace Go.Proofs.YtdjfakampjbgeaaGreatDoor
open Go Go.RowKit

def enEq (a b : En) : Bool := (a.path == b.path) && ((a.kind == b.kind) && ((a.mode == b.mode) && ((a.data == b.data) && (a.link == b.link))))
theorem enEq_iff (a b : En) : enEq a b = decide (a = b) := by
  rw [Bool.eq_iff_iff]
  cases a; cases b
  simp [enEq]
set_option maxRecDepth 100000 in
set_option maxHeartbeats 1000000 in
theorem run_equalIn_en (a b : En) (w : World) : (Op.equalIn 10000 38 (.agg (enC a)) (.agg (enC b))).run Tryz.prog w = .ok (enEq a b) w := by
  rw [run_equalIn_struct w 9999 _ _ _ (by kernel_rfl) (by kernel_rfl)]
  simp only [Program.fieldsOf, Tryz.underlying38]
  unfold enEq
  cases h0 : a.path == b.path
  · simp [go_sem, enC, toList_bs, h0]
  cases h1 : a.kind == b.kind
  · simp [go_sem, enC, toList_bs, h0, h1]
  cases h2 : a.mode == b.mode
  · simp [go_sem, enC, toList_bs, h0, h1, h2]
  cases h3 : a.data == b.data
  · simp [go_sem, enC, toList_bs, h0, h1, h2, h3]
  cases h4 : a.link == b.link
  · simp [go_sem, enC, toList_bs, h0, h1, h2, h3, h4]
  simp [go_sem, enC, toList_bs, h0, h1, h2, h3, h4]
theorem run_eql_en (a b : En) (w : World) : (binOp .eql 38 (.agg (enC a)) (.agg (enC b))).run Tryz.prog w = .ok (.bool (enEq a b)) w := by
  rw [run_eql_struct, run_equalIn_en]; rfl
theorem run_neq_en (a b : En) (w : World) : (binOp .neq 38 (.agg (enC a)) (.agg (enC b))).run Tryz.prog w = .ok (.bool (!enEq a b)) w := by
  rw [run_neq_struct, run_equalIn_en]; rfl
set_option maxRecDepth 100000 in
set_option maxHeartbeats 2000000 in
theorem copy_any (es : List En) (At : Option Addr) (ct : Nat) (w : World) {S : Nat → Prop} (hR : RE w S (.slice At es.length ct) es) (hn : es.length ≤ 1100000) : Calls Tryz.prog 14 #[.slice At es.length ct] w fun e w' => (∃ A c, e = .returned (.slice A es.length c) ∧ w'.ownsRow w.heap.size 38 5 (.slice A es.length c) es.length (enCs es)) ∧ Below w.heap.size w w' := by
  have HR := Lib.hid hR
  clear hR
  go_enter Tryz.func14, Tryz.ntmps14
  go_wp2_with fail
  go_loopw [3, 4] (fun t3 t4 wr => ∃ i : Nat, i ≤ es.length ∧ t4 = .int .i64 (i : Int) ∧ wr.ownsRow w.heap.size 38 5 t3 i (enCs (es.take i)) ∧ Below w.heap.size w wr) (fun _ t4 _ => es.length - (intOf t4).toNat)
  case atStart => exact ⟨0, by omega, rfl, World.ownsRow_nil _ _ _ _, Below.refl _ _⟩
  case round =>
    obtain ⟨i, hi, rfl, hown, hB⟩ := hrel
    obtain ⟨AA, ca, rfl⟩ := ownk_form hown
    have j0 : (0 : Int) ≤ (i : Int) := by omega
    rcases Nat.lt_or_ge i es.length with hin | hin
    · have i0 : decide ((i : Int) < (es.length : Int)) = true := by rw [decide_eq_true_eq]; omega
      have i1 : (i : Int) < (es.length : Int) := by omega
      have hE := HR.out.below hB
      obtain ⟨g, o, c, hvl, c0, c1, c2, c3, c4, _⟩ := hE.at_ hin
      obtain ⟨hA, hcc⟩ : At = some ⟨g, o, none⟩ ∧ ct = c := by injection hvl with e1 _ e3; exact ⟨e1, e3⟩
      subst hA hcc
      have hT : Hid (enCs (es.take (i + 1)) = enCs (es.take i) ++ enL es[i]) := Lib.hid (by rw [List.take_add_one, List.getElem?_eq_getElem hin]; exact enCs_snoc _ _)
      obtain ⟨x, hxe⟩ : ∃ x, es[i] = x := ⟨_, rfl⟩
      rw [hxe] at c0 c1 c2 c3 c4 hT
      have hbs := hB.size
      clear hvl hE hxe
      go_wp2_with (at_builtin; refine wpList_appk rfl _ _ _ rfl entryK _ _ _ _ rfl (hown.alloc _) _ _ _ _ rfl rfl (news_at _ _ (by simp) _ _) (by simp [Value.oneCell']) (by omega) (by omega) (hB.alloc hbs _) (by rw [World.size_alloc]; omega) ?_; intro v1 w1 ho1 hb1 hg1 hat1; obtain ⟨B1, q1, rfl⟩ := ownk_form ho1)
      go_roundw
      case rel => exact ⟨i + 1, by omega, by go_num, by rw [hT.out]; exact ho1, hb1⟩
      case measure => simp [intOf]; omega
    · have i0 : decide ((i : Int) < (es.length : Int)) = false := by rw [decide_eq_false_iff_not]; omega
      obtain rfl : i = es.length := by omega
      go_wp2_with fail
      go_ret
      rw [List.take_length] at hown
      exact ⟨⟨AA, ca, rfl, hown⟩, hB⟩
/-- the cells of two entries. -/
theorem same_take {a b : List En} {i : Nat} (h1 : i < a.length) (h2 : i < b.length) : a.take (i + 1) = b.take (i + 1) ↔ a.take i = b.take i ∧ a[i] = b[i] := by
  rw [List.take_add_one, List.take_add_one, List.getElem?_eq_getElem h1, List.getElem?_eq_getElem h2]
  constructor
  · intro h
    have := List.append_inj' h rfl
    exact ⟨this.1, by simpa using this.2⟩
  · rintro ⟨h, e⟩
    rw [h, e]
set_option maxRecDepth 100000 in
set_option maxHeartbeats 4000000 in
theorem same_any (a b : List En) (A1 A2 : Option Addr) (c1 c2 : Nat) (w : World) {S1 S2 : Nat → Prop} (hR1 : RE w S1 (.slice A1 a.length c1) a) (hR2 : RE w S2 (.slice A2 b.length c2) b) (hn : a.length ≤ 1100000) {r : Bool} (H : Hid (decide (a = b) = r)) : Calls Tryz.prog 12 #[.slice A1 a.length c1, .slice A2 b.length c2] w fun e w' => e = .returned (.bool r) ∧ Below w.heap.size w w' := by
  have HR1 := Lib.hid hR1
  have HR2 := Lib.hid hR2
  clear hR1 hR2
  have hne := run_neq_en
  by_cases hl : a.length = b.length
  · have t0 : ((a.length : Int) != (b.length : Int)) = false := by rw [hl]; simp
    have HL := Lib.hid hl
    clear hl
    go_enter Tryz.func12, Tryz.ntmps12
    go_wp2_with fail
    go_loopw [5] (fun t5 wr => ∃ i : Nat, i ≤ a.length ∧ t5 = .int .i64 (i : Int) ∧ Hid (a.take i = b.take i) ∧ Below w.heap.size w wr) (fun t5 _ => a.length - (intOf t5).toNat)
    case atStart => exact ⟨0, by omega, rfl, Lib.hid (by simp), Below.refl _ _⟩
    case round =>
      obtain ⟨i, hi, rfl, HT, hB⟩ := hrel
      have j0 : (0 : Int) ≤ (i : Int) := by omega
      rcases Nat.lt_or_ge i a.length with hin | hin
      · have hin2 : i < b.length := by rw [← HL.out]; exact hin
        have i0 : decide ((i : Int) < (a.length : Int)) = true := by rw [decide_eq_true_eq]; omega
        have i1 : (i : Int) < (a.length : Int) := by omega
        have i2 : (i : Int) < (b.length : Int) := by omega
        obtain ⟨g, o, c, hvl, d0, d1, d2, d3, d4, _⟩ := (HR1.out.below hB).at_ hin
        obtain ⟨hA, hcc⟩ : A1 = some ⟨g, o, none⟩ ∧ c1 = c := by injection hvl with e1 _ e3; exact ⟨e1, e3⟩
        subst hA hcc
        obtain ⟨g', o', c', hvl', f0, f1, f2, f3, f4, _⟩ := (HR2.out.below hB).at_ hin2
        obtain ⟨hA', hcc'⟩ : A2 = some ⟨g', o', none⟩ ∧ c2 = c' := by injection hvl' with e1 _ e3; exact ⟨e1, e3⟩
        subst hA' hcc'
        have hst := same_take hin hin2
        obtain ⟨x, hx⟩ : ∃ x, a[i] = x := ⟨_, rfl⟩
        obtain ⟨y, hy⟩ : ∃ y, b[i] = y := ⟨_, rfl⟩
        rw [hx] at d0 d1 d2 d3 d4 hst
        rw [hy] at f0 f1 f2 f3 f4 hst
        have HST := Lib.hid hst
        have hxy := hne x y
        obtain ⟨q, hq⟩ : ∃ q, (!enEq x y) = q := ⟨_, rfl⟩
        rw [hq] at hxy
        have HQ : Hid (q = !decide (x = y)) := Lib.hid (by rw [← hq, enEq_iff])
        have BX := Below.refl wr.heap.size wr
        unfold enC at hxy
        clear hvl hvl' hx hy hst hne hq
        go_upto_region 6 with fail
        go_cut [25] (fun s25 wx => s25 = .bool q ∧ Below wr.heap.size wr wx)
        case first =>
          go_quiet (fail)
          go_wp2_with fail
          go_meet
          exact ⟨rfl, by first | exact BX | exact below_drewN BX _⟩
        case rest =>
          obtain ⟨rfl, bx⟩ := hcut
          have hB2 := below_of_below hB bx hB.size
          clear bx d0 d1 d2 d3 d4 f0 f1 f2 f3 f4 BX hxy
          cases q with
          | true =>
            have hR : Hid (r = false) := Lib.hid (by
              rw [← H.out, decide_eq_false_iff_not]
              intro e
              have hxy : x = y := ((HST.out).1 (by rw [e])).2
              have := HQ.out
              rw [hxy] at this
              simp at this)
            go_wp2_with fail
            go_ret
            exact ⟨by rw [hR.out]; rfl, hB2⟩
          | false =>
            have hT2 : Hid (a.take (i + 1) = b.take (i + 1)) := Lib.hid (HST.out.2 ⟨HT.out, by have := HQ.out; simpa using this⟩)
            go_wp2_with fail
            go_roundw
            case rel => exact ⟨i + 1, by omega, by go_num, hT2, hB2⟩
            case measure => simp [intOf]; omega
      · have i0 : decide ((i : Int) < (a.length : Int)) = false := by rw [decide_eq_false_iff_not]; omega
        have hR : Hid (r = true) := Lib.hid (by
          rw [← H.out, decide_eq_true_eq]
          have := HT.out
          rwa [List.take_of_length_le hin, List.take_of_length_le (by rw [← HL.out]; exact hin)] at this)
        go_wp2_with fail
        go_ret
        exact ⟨by rw [hR.out]; rfl, hB⟩
  · have t0 : ((a.length : Int) != (b.length : Int)) = true := by simp; omega
    have hR : Hid (r = false) := Lib.hid (by rw [← H.out, decide_eq_false_iff_not]; exact fun e => hl (by rw [e]))
    clear hl
    go_enter Tryz.func12, Tryz.ntmps12
    go_wp2_with fail
    go_ret
    exact ⟨by rw [hR.out]; rfl, Below.refl _ _⟩
end Go.Proofs.YtdjfakampjbgeaaGreatDoor
