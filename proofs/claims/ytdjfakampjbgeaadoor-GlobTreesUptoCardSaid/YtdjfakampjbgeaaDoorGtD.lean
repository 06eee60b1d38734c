/- stratalaw02.rises, below, walked. -/
import Derived.Test.YtdjfakampjbgeaaDoorGtC
namespace Go.Proofs.YtdjfakampjbgeaaDoor
open Go Go.RowKit

namespace Gl
/-- does the entry at i stand behind the one ahead of it, its directory ahead? -/
def behind (es : List En) (i : Nat) : Bool := match es[i]?, es[i - 1]? with
  | some e, some f => decide (i = 0) || decide (cmpL (cutL 47 f.path) (cutL 47 e.path) < 0)
  | _, _ => true
def housed (es : List En) (i : Nat) : Bool := match es[i]? with
  | some e => (parentL e.path).isEmpty || (es.take i).any fun f => (f.path == parentL e.path) && (f.kind == 1)
  | none => true
def risesL (es : List En) : Bool := (List.range es.length).all fun i => behind es i && housed es i
theorem behind_zero (es : List En) : behind es 0 = true := by
  unfold behind
  split <;> simp
theorem behind_at {es : List En} {i m : Nat} (hi : i < es.length) (hm : m < es.length) (e : i = m + 1) : behind es i = decide (cmpL (cutL 47 es[m].path) (cutL 47 es[i].path) < 0) := by
  have h1 : es[i]? = some es[i] := List.getElem?_eq_getElem hi
  have h2 : es[i - 1]? = some es[m] := by rw [show i - 1 = m by omega]; exact List.getElem?_eq_getElem hm
  have h3 : decide (i = 0) = false := by rw [decide_eq_false_iff_not]; omega
  unfold behind
  rw [h1, h2, h3]
  rfl
theorem rises_yes {es : List En} (h : ∀ j, j < es.length → behind es j = true ∧ housed es j = true) : risesL es = true := by
  rw [risesL, List.all_eq_true]
  intro j hj
  obtain ⟨a, b⟩ := h j (List.mem_range.1 hj)
  rw [a, b]; rfl
theorem rises_no {es : List En} {i : Nat} (hi : i < es.length) (h : behind es i = false ∨ housed es i = false) : risesL es = false := by
  rw [Bool.eq_false_iff]
  intro e
  have := List.all_eq_true.1 e i (List.mem_range.2 hi)
  rw [Bool.and_eq_true] at this
  rcases h with h | h
  · rw [h] at this; cases this.1
  · rw [h] at this; cases this.2
theorem rises_at {es : List En} (h : risesL es = true) {i : Nat} (hi : i < es.length) : behind es i = true ∧ housed es i = true := by
  have := List.all_eq_true.1 h i (List.mem_range.2 hi)
  rwa [Bool.and_eq_true] at this
end Gl
set_option maxRecDepth 100000 in
set_option maxHeartbeats 8000000 in
theorem rises_hid (es : List En) (At : Option Addr) (ct : Nat) (w : World) {S : Nat → Prop} (hR : RE w S (.slice At es.length ct) es) (hn : es.length ≤ 1100000) (hp : ∀ x ∈ es, x.path.length ≤ 1100000) {r : Bool} (H : Hid (Gl.risesL es = r)) : Calls Tryd.prog 29 #[.slice At es.length ct] w fun e w' => e = .returned (.bool r) ∧ Below w.heap.size w w' := by
  have HR := Lib.hid hR
  have HP := Lib.hid hp
  clear hR hp
  go_enter Tryd.func29, Tryd.ntmps29
  go_wp2_with fail
  go_loopw [3, 4, 5, 6] (fun t3 _ _ _ wr => ∃ i : Nat, i ≤ es.length ∧ t3 = .int .i64 (i : Int) ∧ Hid (∀ j, j < i → Gl.behind es j = true ∧ Gl.housed es j = true) ∧ Below w.heap.size w wr) (fun t3 _ _ _ _ => es.length - (intOf t3).toNat)
  case atStart => exact ⟨0, by omega, rfl, Lib.hid fun j hj => by omega, Below.refl _ _⟩
  case round =>
    obtain ⟨i, hi, rfl, HT, hB⟩ := hrel
    have j0 : (0 : Int) ≤ (i : Int) := by omega
    rcases Nat.lt_or_ge i es.length with hin | hin
    · have i0 : decide ((i : Int) < (es.length : Int)) = true := by rw [decide_eq_true_eq]; omega
      have i1 : (i : Int) < (es.length : Int) := by omega
      obtain ⟨g, o, c, hvl, c0, c1, _, _, _, _⟩ := (HR.out.below hB).at_ hin
      obtain ⟨hA, hcc⟩ : At = some ⟨g, o, none⟩ ∧ ct = c := by injection hvl with e1 _ e3; exact ⟨e1, e3⟩
      subst hA hcc
      have hpx := HP.out _ (List.getElem_mem hin)
      obtain ⟨q, hq⟩ : ∃ q, Hid (Gl.behind es i = !q) := ⟨!Gl.behind es i, Lib.hid (by simp)⟩
      have hgl : g < wr.heap.size := World.block_lt_of_cell? wr _ c0
      obtain ⟨x, hx⟩ : ∃ x, Hid (es[i] = x) := ⟨_, Lib.hid rfl⟩
      rw [hx.out] at c0 hpx
      have C0 := Lib.hid c0
      have HGL := Lib.hid hgl
      have HBr := Lib.hid hB
      have zx : (bs x.path).size ≤ 2000000 := by rw [bs_size]; omega
      clear c1 hvl hB
      go_upto_region 4 with fail
      go_cut [29] (fun s29 wx => s29 = .bool q ∧ Below wr.heap.size wr wx)
      case first =>
        by_cases h0 : i = 0
        · have hq0 : Hid (q = false) := Lib.hid (by
            have := hq.out
            rw [h0, Gl.behind_zero] at this
            cases q
            · rfl
            · cases this)
          have i4 : decide ((0 : Int) < (i : Int)) = false := by rw [decide_eq_false_iff_not]; omega
          have n4 : decide (0 < i) = false := by rw [decide_eq_false_iff_not]; omega
          have n5 : ¬ (0 < i) := by omega
          clear h0
          have BX := Below.refl wr.heap.size wr
          go_quiet (fail)
          go_wp2_with fail
          go_meet
          exact ⟨by rw [hq0.out], by first | exact BX | exact below_drewN BX _⟩
        · have i4 : decide ((0 : Int) < (i : Int)) = true := by rw [decide_eq_true_eq]; omega
          have i5 : (0 : Int) < (i : Int) := by omega
          have n5 : 0 < i := by omega
          obtain ⟨m, hm⟩ : ∃ m, i = m + 1 := ⟨i - 1, by omega⟩
          have hmn : m < es.length := by omega
          obtain ⟨g1, o1, c1, hvl, d0, _⟩ := (HR.out.below HBr.out).at_ hmn
          obtain ⟨hA, hcc⟩ : (⟨g, o, none⟩ : Addr) = ⟨g1, o1, none⟩ ∧ ct = c1 := by injection hvl with e1 _ e3; injection e1 with e1; exact ⟨e1, e3⟩
          injection hA with hA1 hA2
          subst hA1 hA2 hcc
          have hpy := HP.out _ (List.getElem_mem hmn)
          obtain ⟨r1, hr1⟩ : ∃ r1, Hid (Gl.cmpL (Gl.cutL 47 (bl (bs es[m].path))) (Gl.cutL 47 (bl (bs x.path))) = r1) := ⟨_, Lib.hid rfl⟩
          have HQ : Hid (q = decide (0 ≤ r1)) := Lib.hid (by
            have h1 := hq.out
            have h2 := hr1.out
            rw [bl_bs, bl_bs] at h2
            rw [Gl.behind_at hin hmn hm, hx.out, h2] at h1
            by_cases h : r1 < 0
            · rw [decide_eq_true h] at h1
              rw [decide_eq_false (by omega)]
              cases q
              · rfl
              · cases h1
            · rw [decide_eq_false h] at h1
              rw [decide_eq_true (by omega)]
              cases q
              · cases h1
              · rfl)
          have mw : IntKind.i64.wrap ((i : Int) - 1) = (m : Int) := by
            have : (i : Int) - 1 = (m : Int) := by omega
            rw [this]
            unfold IntKind.wrap
            simp [IntKind.bits, IntKind.signed]
            omega
          have m0 : (0 : Int) ≤ (m : Int) := by omega
          have m1 : (m : Int) < (es.length : Int) := by omega
          obtain ⟨y, hy⟩ : ∃ y, es[m] = y := ⟨_, rfl⟩
          rw [hy] at d0 hr1 hpy
          have zy : (bs y.path).size ≤ 2000000 := by rw [bs_size]; omega
          clear hvl h0 hm hpy hy
          go_region_held3 (fun w' => w'.cell? ⟨g, o + i * 5, none⟩ = some (.string (bs x.path)) ∧ w'.cell? ⟨g, o + m * 5, none⟩ = some (.string (bs y.path))) (exact ⟨c0, d0⟩) ((go_at_call 50; refine (compare_hid (bs y.path) (bs x.path) _ zy zx hr1).mono ?_; rintro e v1 ⟨rfl, b1⟩; have c0 := (b1.cell (p := ⟨g, o + i * 5, none⟩) hgl).trans c0; have d0 := (b1.cell (p := ⟨g, o + m * 5, none⟩) hgl).trans d0; have BX := below_of_below (by first | exact Below.refl wr.heap.size wr | exact (Below.refl wr.heap.size wr).drew) b1 (by first | exact Nat.le_refl _ | rfl)))
          go_wp2_with fail
          go_meet
          exact ⟨by rw [HQ.out], BX⟩
      case rest =>
        obtain ⟨rfl, bx⟩ := hcut
        have c0 := (bx.cell (p := ⟨g, o + i * 5, none⟩) HGL.out).trans C0.out
        have hB2 := below_of_below HBr.out bx HBr.out.size
        have HG0 : Hid (Gl.housed es i = ((Gl.parentL x.path).isEmpty || (es.take i).any fun f => (f.path == Gl.parentL x.path) && (f.kind == 1))) := Lib.hid (by rw [Gl.housed, List.getElem?_eq_getElem hin, hx.out])
        clear bx
        cases q with
        | true =>
          have hR : Hid (r = false) := Lib.hid (by rw [← H.out]; exact Gl.rises_no hin (.inl hq.out))
          go_wp2_with fail
          go_ret
          exact ⟨by rw [hR.out]; rfl, hB2⟩
        | false =>
          have HPA := fun wz => parent_any (bs x.path) wz zx
          rw [bl_bs] at HPA
          obtain ⟨pl, hpl⟩ : ∃ l, Gl.parentL x.path = l := ⟨_, rfl⟩
          rw [hpl] at HPA HG0
          obtain ⟨sp, hsp⟩ : ∃ s, bs pl = s := ⟨_, rfl⟩
          have tsp : sp.toList = pl := by rw [← hsp, toList_bs]
          rw [hsp] at HPA
          have HTS := Lib.hid tsp
          have HPB := Lib.hid HPA
          obtain ⟨b0, hb0⟩ : ∃ b, sp.toList.isEmpty = b := ⟨_, rfl⟩
          have HB0 : Hid (b0 = pl.isEmpty) := Lib.hid (by rw [← hb0, tsp])
          clear hpl hsp tsp HPA
          go_wp2_with (go_at_call 51; refine (HPB.out _).mono ?_; rintro e w1 ⟨rfl, rfl⟩)
          go_loopw [5, 6] (fun t5 t6 wv => ∃ (k : Nat) (b : Bool), k ≤ i ∧ t6 = .int .i64 (k : Int) ∧ t5 = .bool b ∧ Hid (b = (pl.isEmpty || (es.take k).any fun f => (f.path == pl) && (f.kind == 1))) ∧ Below w.heap.size w wv) (fun _ t6 _ => i - (intOf t6).toNat)
          case atStart => exact ⟨0, b0, by omega, rfl, by first | rfl | (rw [hb0]), Lib.hid (by rw [HB0.out]; simp), hB2⟩
          case round =>
            clear c0 hB2
            obtain ⟨k, b, hk, rfl, rfl, HK, hB⟩ := hrel
            have k0 : (0 : Int) ≤ (k : Int) := by omega
            cases b with
            | true =>
              have HH : Hid (Gl.housed es i = true) := Lib.hid (by
                rw [HG0.out]
                have h := HK.out.symm
                rw [Bool.or_eq_true] at h ⊢
                rcases h with h | h
                · exact .inl h
                · refine .inr ?_
                  rw [List.any_eq_true] at h ⊢
                  obtain ⟨f, hf, e⟩ := h
                  have : es.take k = (es.take i).take k := by rw [List.take_take, Nat.min_eq_left hk]
                  rw [this] at hf
                  exact ⟨f, List.mem_of_mem_take hf, e⟩)
              have HT2 : Hid (∀ j, j < i + 1 → Gl.behind es j = true ∧ Gl.housed es j = true) := Lib.hid fun j hj => by
                by_cases e : j = i
                · subst e; exact ⟨by rw [hq.out]; rfl, HH.out⟩
                · exact HT.out j (by omega)
              rcases Nat.lt_or_ge k i with hki | hki
              · have kk : decide ((k : Int) < (i : Int)) = true := by rw [decide_eq_true_eq]; omega
                go_wp2_with fail
                go_roundw
                case rel => exact ⟨i + 1, by omega, by go_num, HT2, hB⟩
                case measure => simp [intOf]; omega
              · have kk : decide ((k : Int) < (i : Int)) = false := by rw [decide_eq_false_iff_not]; omega
                have hki2 : ¬ (k < i) := by omega
                go_wp2_with fail
                go_roundw
                case rel => exact ⟨i + 1, by omega, by go_num, HT2, hB⟩
                case measure => simp [intOf]; omega
            | false =>
              rcases Nat.lt_or_ge k i with hki | hki
              · have kk : decide ((k : Int) < (i : Int)) = true := by rw [decide_eq_true_eq]; omega
                have kn : (k : Int) < (es.length : Int) := by omega
                have hkn : k < es.length := by omega
                obtain ⟨g1, o1, c1, hvl, d0, d1, _⟩ := (HR.out.below hB).at_ hkn
                obtain ⟨hA, hcc⟩ : (⟨g, o, none⟩ : Addr) = ⟨g1, o1, none⟩ ∧ ct = c1 := by injection hvl with e1 _ e3; injection e1 with e1; exact ⟨e1, e3⟩
                injection hA with hA1 hA2
                subst hA1 hA2 hcc
                have hany : ((es.take (k + 1)).any fun f => (f.path == pl) && (f.kind == 1)) = (((es.take k).any fun f => (f.path == pl) && (f.kind == 1)) || ((es[k].path == pl) && (es[k].kind == 1))) := by
                  rw [List.take_add_one, List.getElem?_eq_getElem hkn, List.any_append]
                  simp
                obtain ⟨y, hy⟩ : ∃ y, es[k] = y := ⟨_, rfl⟩
                rw [hy] at d0 d1 hany
                obtain ⟨sy, hsy⟩ : ∃ s, bs y.path = s := ⟨_, rfl⟩
                have tsy : sy.toList = y.path := by rw [← hsy, toList_bs]
                rw [hsy] at d0
                obtain ⟨e1, he1⟩ : ∃ b, (sy.toList == sp.toList) = b := ⟨_, rfl⟩
                obtain ⟨e2, he2⟩ : ∃ b, (y.kind == 1) = b := ⟨_, rfl⟩
                have HN : Hid ((e1 && e2) = (pl.isEmpty || (es.take (k + 1)).any fun f => (f.path == pl) && (f.kind == 1))) := Lib.hid (by
                  rw [hany, ← Bool.or_assoc, ← HK.out, ← he1, ← he2, tsy, HTS.out, Bool.false_or])
                clear hvl hany hy hsy tsy
                cases e1 with
                | true =>
                  go_wp2_with fail
                  go_roundw
                  case rel => exact ⟨k + 1, _, by omega, by go_num, rfl, HN, hB⟩
                  case measure => simp [intOf]; omega
                | false =>
                  go_wp2_with fail
                  go_roundw
                  case rel => exact ⟨k + 1, _, by omega, by go_num, rfl, HN, hB⟩
                  case measure => simp [intOf]; omega
              · have kk : decide ((k : Int) < (i : Int)) = false := by rw [decide_eq_false_iff_not]; omega
                have hki2 : ¬ (k < i) := by omega
                have hR : Hid (r = false) := Lib.hid (by
                  rw [← H.out]
                  refine Gl.rises_no hin (.inr ?_)
                  rw [HG0.out, ← show k = i by omega]
                  exact HK.out.symm)
                go_wp2_with fail
                go_ret
                exact ⟨by rw [hR.out]; rfl, hB⟩
    · have i0 : decide ((i : Int) < (es.length : Int)) = false := by rw [decide_eq_false_iff_not]; omega
      have hR : Hid (r = true) := Lib.hid (by rw [← H.out]; exact Gl.rises_yes fun j hj => HT.out j (by omega))
      go_wp2_with fail
      go_ret
      exact ⟨by rw [hR.out]; rfl, hB⟩
end Go.Proofs.YtdjfakampjbgeaaDoor
