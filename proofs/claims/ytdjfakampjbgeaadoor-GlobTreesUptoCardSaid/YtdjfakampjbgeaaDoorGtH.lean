/- GlobTrees' law. -/
import Derived.Test.YtdjfakampjbgeaaDoorMK
import Derived.Test.YtdjfakampjbgeaaDoorGoJ
import Derived.Test.YtdjfakampjbgeaaDoorGoU
namespace Go.Proofs.YtdjfakampjbgeaaDoor
open Go Go.RowKit

theorem enCs_take (es : List En) (k : Nat) : enCs (es.take k) = (enCs es).take (k * 5) := by
  induction es generalizing k with
  | nil => simp [enCs]
  | cons x es ih =>
    cases k with
    | zero => simp [enCs]
    | succ k =>
      have e : enCs (x :: es) = enL x ++ enCs es := rfl
      have e2 : enCs ((x :: es).take (k + 1)) = enL x ++ enCs (es.take k) := rfl
      have hl : (enL x).length = 5 := rfl
      have h5 : (k + 1) * 5 = (enL x).length + k * 5 := by rw [hl]; omega
      rw [e, e2, ih, h5, List.take_length_add_append]
theorem RE.take {w : World} {S : Nat → Prop} {A : Option Addr} {n c : Nat} {es : List En} (h : RC w S (.slice A n c) n (enCs es)) (k m : Nat) : RC w S (.slice A m c) m (enCs (es.take k)) := by
  obtain ⟨A', c', e, hc⟩ := h
  injection e with e1 e2 e3
  subst e1 e3
  refine ⟨A, c, rfl, fun j u hu => hc j u ?_⟩
  rw [enCs_take, List.getElem?_take] at hu
  split at hu
  · exact hu
  · cases hu
namespace Gl
theorem filter_at {α : Type} {p : α → Bool} : ∀ (l : List α) (i : Nat) (hi : i < l.length), p l[i] = true → (l.filter p)[((l.take i).filter p).length]? = some l[i]
  | [], _, h, _ => absurd h (by simp)
  | x :: l, 0, _, h => by
    have hx : p x = true := h
    simp [hx]
  | x :: l, i + 1, hi, h => by
    have ih := filter_at l i (by simpa using hi) (by simpa using h)
    rw [List.take_succ_cons, List.filter_cons, List.filter_cons]
    by_cases hx : p x = true
    · rw [if_pos hx, if_pos hx]
      simpa using ih
    · rw [if_neg hx, if_neg hx]
      simpa using ih
theorem filter_len {α : Type} {p : α → Bool} {l : List α} {i : Nat} (hi : i < l.length) : ((l.take (i + 1)).filter p).length = ((l.take i).filter p).length + (if p l[i] then 1 else 0) := by
  rw [List.take_add_one, List.getElem?_eq_getElem hi, List.filter_append, List.length_append, Option.toList_some, List.filter_cons]
  split <;> simp
end Gl
set_option maxRecDepth 100000 in
set_option maxHeartbeats 16000000 in
theorem lawTrees (s : ByteArray) (At : Option Addr) (ct : Nat) (es : List En) (w : World) (hs : s.size ≤ 1048576) {S : Nat → Prop} (hR : RE w S (.slice At es.length ct) es) (hc : es.length ≤ ct) (hp : ∀ x ∈ es, x.path.length ≤ 1100000) (hg : ErrVar w) (hm : Maxl w) :
    Calls Tryd.prog 8 #[.string s, .slice At es.length ct] w fun e w' => e = .returned (.bool true) ∧ Below w.heap.size w w' := by
  have HG := Lib.hid hg
  have HM := Lib.hid hm
  have HR := Lib.hid hR
  have HP := Lib.hid hp
  clear hg hm hR hp
  obtain ⟨R, H0⟩ : ∃ r, Hid (Gl.parseL (bl s) = r) := ⟨_, Lib.hid rfl⟩
  have lbl : Hid ((bl s).length ≤ 2000000) := Lib.hid (by rw [bl_length]; omega)
  go_enter Tryd.func8, Tryd.ntmps8
  go_wp2_with fail
  refine (parse_l s (by omega) _ HM.out H0).mono ?_
  rintro e w1 ⟨⟨vl, ve, rfl, hV⟩, b1⟩
  rcases R with ⟨n, k⟩ | rs
  · obtain ⟨rfl, rfl⟩ := hV
    have m1 := HM.out.below b1 HM.out.lt
    have G1 := HG.out.below b1 HG.out.lt
    go_wp2_with fail
    refine (works_any _ G1 m1).mono ?_
    rintro e w5 ⟨rfl, b5⟩
    go_wp2_with fail
    go_ret
    exact ⟨rfl, below_of_below b1 b5 b1.size⟩
  obtain ⟨L, rfl, rfl, hL⟩ := hV
  have HOK := Lib.hid (RsOk.of lbl.out H0.out)
  have HL := Lib.hid hL
  have HB1 := Lib.hid b1
  clear hL H0 lbl
  obtain ⟨T, hT⟩ : ∃ T, es.take 200 = T := ⟨_, rfl⟩
  have hRT := RE.take HR.out 200 T.length
  rw [hT] at hRT
  have HRT : Hid (RE w1 S (.slice At T.length ct) T) := Lib.hid (RC.below hRT b1)
  have lT : T.length ≤ 200 := by rw [← hT, List.length_take]; omega
  have hPT : Hid (∀ x ∈ T, x.path.length ≤ 1100000) := Lib.hid fun x hx => HP.out x (List.mem_of_mem_take (by rw [hT]; exact hx))
  have HT := Lib.hid hT
  clear hRT hT b1 HR
  have lT2 : T.length = min 200 es.length := by rw [← HT.out, List.length_take]
  obtain ⟨q2, hq2⟩ : ∃ q, decide ((200 : Int) < (es.length : Int)) = q := ⟨_, rfl⟩
  have hq3 : q2 = true ↔ 200 < es.length := by rw [← hq2, decide_eq_true_eq]; omega
  go_upto_if 26 with fail
  go_cut [1] (fun s1 wx => s1 = .slice At T.length ct ∧ wx = w1)
  case first =>
    cases q2 with
    | true =>
      have h2 := hq3.1 rfl
      have e1 : T.length = 200 := by omega
      have e2 : 200 ≤ ct := by omega
      have e3 : (200 : Int) ≤ (ct : Int) := by omega
      go_wp2_with fail
      go_meet
      exact ⟨by rw [e1], rfl⟩
    | false =>
      have h2 : ¬ 200 < es.length := fun h => by have := hq3.2 h; cases this
      have e1 : T.length = es.length := by omega
      go_wp2_with fail
      go_meet
      exact ⟨by rw [e1], rfl⟩
  case rest =>
    obtain ⟨rfl, rfl⟩ := hcut
    obtain ⟨r1, hr1⟩ : ∃ r, Hid (Gl.risesL T = r) := ⟨_, Lib.hid rfl⟩
    clear lT2 HT
    have l11 : T.length ≤ 1100000 := by omega
    go_wp2_with fail
    refine (rises_hid T At ct _ HRT.out l11 hPT.out hr1).mono ?_
    rintro e w2 ⟨rfl, b2⟩
    have HB2 := Lib.hid (below_of_below HB1.out b2 HB1.out.size)
    have HRT2 := Lib.hid (HRT.out.below b2)
    have HL2 := Lib.hid (HL.out.below b2)
    clear b2 HRT HL HB1
    cases r1 with
    | false =>
      have m2 := HM.out.below HB2.out HM.out.lt
      have G2 := HG.out.below HB2.out HG.out.lt
      go_wp2_with fail
      refine (works_any _ G2 m2).mono ?_
      rintro e w5 ⟨rfl, b5⟩
      go_wp2_with fail
      go_ret
      exact ⟨rfl, below_of_below HB2.out b5 HB2.out.size⟩
    | true =>
      obtain ⟨K, hK⟩ : ∃ K, Hid (Gl.keepL rs T = K) := ⟨_, Lib.hid rfl⟩
      have hKK : Hid (Gl.keepL rs K = K) := Lib.hid (by rw [← hK.out]; exact Gl.keep_keep rs T)
      have hrK : Hid (Gl.risesL K = true) := Lib.hid (by rw [← hK.out]; exact Gl.keep_rises hr1.out)
      have lK : K.length ≤ 200 := by rw [← hK.out]; exact Nat.le_trans (List.length_filter_le _ _) lT
      have hPK : Hid (∀ x ∈ K, x.path.length ≤ 1100000) := Lib.hid fun x hx => hPT.out x (by rw [← hK.out] at hx; exact (Gl.mem_keep.1 hx).1)
      have k11 : K.length ≤ 1100000 := by omega
      go_wp2_with fail
      refine (copy_any T At ct _ HRT2.out l11).mono ?_
      rintro e w3 ⟨⟨A3, c3, rfl, o3⟩, b3⟩
      have HB3 := Lib.hid (below_of_below HB2.out b3 HB2.out.size)
      have HRT3 := Lib.hid (HRT2.out.below b3)
      have HL3 := Lib.hid (HL2.out.below b3)
      have O3 : RE w3 (fun _ => True) (.slice A3 T.length c3) T := RC.own o3 fun _ _ => trivial
      have m3 := HM.out.below HB3.out HM.out.lt
      clear b3 o3 HRT2 HL2 HB2
      go_wp2_with fail
      refine (keep_any rs _ T A3 c3 _ HL3.out HOK.out.1 HOK.out.2 O3 l11 hPT.out m3 hK).mono ?_
      rintro e w4 ⟨⟨A4, c4, Bs4, rfl, hs4, o4⟩, b4⟩
      have HB4 := Lib.hid (below_of_below HB3.out b4 HB3.out.size)
      have HRT4 := Lib.hid (HRT3.out.below b4)
      have HL4 := Lib.hid (HL3.out.below b4)
      have O4 := Lib.hid (show RE w4 (fun _ => True) (.slice A4 K.length c4) K from RC.own o4 fun _ _ => trivial)
      clear b4 o4 O3 m3 HRT3 HL3 HB3 hs4
      go_wp2_with fail
      refine (copy_any K A4 c4 _ O4.out k11).mono ?_
      rintro e w5 ⟨⟨A5, c5, rfl, o5⟩, b5⟩
      have HB5 := Lib.hid (below_of_below HB4.out b5 HB4.out.size)
      have HRT5 := Lib.hid (HRT4.out.below b5)
      have HL5 := Lib.hid (HL4.out.below b5)
      have OK5 := Lib.hid (O4.out.below b5)
      have O5 : RE w5 (fun _ => True) (.slice A5 K.length c5) K := RC.own o5 fun _ _ => trivial
      have m5 := HM.out.below HB5.out HM.out.lt
      clear b5 o5 O4 HRT4 HL4 HB4
      go_wp2_with fail
      refine (keep_any rs _ K A5 c5 _ HL5.out HOK.out.1 HOK.out.2 O5 k11 hPK.out m5 hKK).mono ?_
      rintro e w6 ⟨⟨A6, c6, Bs6, rfl, hs6, o6⟩, b6⟩
      have HB6 := Lib.hid (below_of_below HB5.out b6 HB5.out.size)
      have HRT6 := Lib.hid (HRT5.out.below b6)
      have HL6 := Lib.hid (HL5.out.below b6)
      have OK6 := Lib.hid (OK5.out.below b6)
      have O6 := Lib.hid (show RE w6 (fun _ => True) (.slice A6 K.length c6) K from RC.own o6 fun _ _ => trivial)
      clear b6 o6 O5 m5 OK5 HRT5 HL5 HB5 hs6
      go_wp2_with fail
      refine (rises_hid K A4 c4 _ OK6.out k11 hPK.out hrK).mono ?_
      rintro e w7 ⟨rfl, b7⟩
      have HB7 := Lib.hid (below_of_below HB6.out b7 HB6.out.size)
      have HRT7 := Lib.hid (HRT6.out.below b7)
      have HL7 := Lib.hid (HL6.out.below b7)
      have OK7 := Lib.hid (OK6.out.below b7)
      have O7 := Lib.hid (O6.out.below b7)
      clear b7 OK6 O6 HRT6 HL6 HB6
      go_wp2_with fail
      refine (same_any K K A6 A4 c6 c4 _ O7.out OK7.out k11 (Lib.hid (decide_eq_true rfl))).mono ?_
      rintro e w8 ⟨rfl, b8⟩
      have HB8 := Lib.hid (below_of_below HB7.out b8 HB7.out.size)
      have HRT8 := Lib.hid (HRT7.out.below b8)
      have HL8 := Lib.hid (HL7.out.below b8)
      have OK8 := Lib.hid (OK7.out.below b8)
      have HM8 := Lib.hid (HM.out.below HB8.out HM.out.lt)
      have HG8 := Lib.hid (HG.out.below HB8.out HG.out.lt)
      clear b8 OK7 O7 HRT7 HL7 HB7 hKK hrK hPK HM HG hr1
      go_wp2_with fail
      go_loopw [9, 10] (fun t9 t10 wr => ∃ i a : Nat, i ≤ T.length ∧ a ≤ i ∧ t10 = .int .i64 (i : Int) ∧ t9 = .int .i64 (a : Int) ∧ Hid (((T.take i).filter (Gl.stayB rs T)).length = a) ∧ Below w8.heap.size w8 wr) (fun _ t10 _ => T.length - (intOf t10).toNat)
      case atStart => exact ⟨0, 0, by omega, by omega, rfl, rfl, Lib.hid (by simp), Below.refl _ _⟩
      case round =>
        obtain ⟨i, a, hi, ha, rfl, rfl, HA, hB⟩ := hrel
        have j0 : (0 : Int) ≤ (i : Int) := by omega
        have ja : (0 : Int) ≤ (a : Int) := by omega
        rcases Nat.lt_or_ge i T.length with hin | hin
        · have i0 : decide ((i : Int) < (T.length : Int)) = true := by rw [decide_eq_true_eq]; omega
          have i1 : (i : Int) < (T.length : Int) := by omega
          have HR9 := HRT8.out.below hB
          obtain ⟨g, o, c, hvl, c0, c1, c2, c3, c4', _⟩ := HR9.at_ hin
          obtain ⟨hA, hcc⟩ : At = some ⟨g, o, none⟩ ∧ ct = c := by injection hvl with e1 _ e3; exact ⟨e1, e3⟩
          subst hA hcc
          have hgl : g < wr.heap.size := World.block_lt_of_cell? wr _ c0
          have hpx := hPT.out _ (List.getElem_mem hin)
          have hstep := Gl.filter_len (p := Gl.stayB rs T) hin
          have hat := Gl.filter_at (p := Gl.stayB rs T) T i hin
          rw [HA.out] at hstep hat
          have hkl : T.filter (Gl.stayB rs T) = K := hK.out
          rw [hkl] at hat
          obtain ⟨x, hx⟩ : ∃ x, T[i] = x := ⟨_, rfl⟩
          rw [hx] at c0 c1 c2 c3 c4' hpx hstep hat
          have zx : (bs x.path).size ≤ 2000000 := by rw [bs_size]; omega
          obtain ⟨b2, hb2⟩ : ∃ b, Hid (Gl.outL rs (Gl.namesL (bl (bs x.path))) = b) := ⟨_, Lib.hid rfl⟩
          obtain ⟨b3, hb3⟩ : ∃ b, Hid (Gl.overL rs T (bl (bs x.path)) = b) := ⟨_, Lib.hid rfl⟩
          have hq : Gl.stayB rs T x = (!b2 || b3) := by rw [Gl.stay_over, Gl.inB, ← hb2.out, ← hb3.out, bl_bs]
          obtain ⟨q, hqq⟩ : ∃ q, Hid ((!b2 || b3) = q) := ⟨_, Lib.hid rfl⟩
          rw [hq, hqq.out] at hstep hat
          have HS := Lib.hid hstep
          have HAT := Lib.hid hat
          have hL9 := HL8.out.below hB
          have hM9 := HM8.out.below hB HM8.out.lt
          have HX := Lib.hid hx
          clear hvl hstep hat hx hq hkl
          have C0 := c0
          go_upto_region 18 with fail
          go_cut [11] (fun s11 wx => s11 = .bool q ∧ Below wr.heap.size wr wx)
          case first =>
            go_wp2_with fail
            refine (out_any rs _ (bs x.path) _ hL9 HOK.out.1 HOK.out.2 zx hM9 hb2).mono ?_
            rintro e w2 ⟨rfl, bx⟩
            have c0 := (bx.cell (p := ⟨g, o + i * 5, none⟩) hgl).trans c0
            cases b2 with
            | false =>
              go_wp2_with fail
              go_meet
              exact ⟨by rw [← hqq.out]; rfl, bx⟩
            | true =>
              have hL10 := hL9.below bx
              have hM10 := hM9.below bx hM9.lt
              have hR10 := HR9.below bx
              go_wp2_with fail
              refine (under_hid rs _ T (bs x.path) _ ct _ hL10 HOK.out.1 HOK.out.2 zx hR10 l11 hPT.out hM10 hb3).mono ?_
              rintro e w3 ⟨rfl, by3⟩
              go_wp2_with fail
              go_meet
              exact ⟨by rw [← hqq.out]; rfl, below_of_below bx by3 bx.size⟩
          case rest =>
            obtain ⟨rfl, bx⟩ := hcut
            have hB2 := below_of_below hB bx hB.size
            clear bx hB C0 c0 c1 c2 c3 c4' HR9 hL9 hM9 hb2 hb3 hqq hgl
            cases q with
            | false =>
              have HA2 : Hid (((T.take (i + 1)).filter (Gl.stayB rs T)).length = a) := Lib.hid HS.out
              go_upto_region 19 with fail
              go_cut [93] (fun s93 wx => s93 = .bool false ∧ Below w8.heap.size w8 wx)
              case first =>
                go_quiet (fail)
                go_wp2_with fail
                go_meet
                exact ⟨rfl, by first | exact hB2 | exact below_drewN hB2 _⟩
              case rest =>
                obtain ⟨rfl, hB3⟩ := hcut
                go_wp2_with fail
                go_roundw
                case rel => exact ⟨i + 1, a, by omega, by omega, by go_num, rfl, HA2, hB3⟩
                case measure => simp [intOf]; omega
            | true =>
              have HA2 : Hid (((T.take (i + 1)).filter (Gl.stayB rs T)).length = a + 1) := Lib.hid HS.out
              have hk := HAT.out rfl
              have hak : a < K.length := by
                rcases Nat.lt_or_ge a K.length with h | h
                · exact h
                · rw [List.getElem?_eq_none h] at hk
                  cases hk
              rw [List.getElem?_eq_getElem hak] at hk
              have hkx : K[a] = x := Option.some.inj hk
              obtain ⟨g2, o2, c2, hvl2, d0, d1, d2, d3, d4, _⟩ := (OK8.out.below hB2).at_ hak
              obtain ⟨hA2, hcc2⟩ : A4 = some ⟨g2, o2, none⟩ ∧ c4 = c2 := by injection hvl2 with e1 _ e3; exact ⟨e1, e3⟩
              subst hA2 hcc2
              rw [hkx] at d0 d1 d2 d3 d4
              have i2 : decide ((K.length : Int) ≤ (a : Int)) = false := by rw [decide_eq_false_iff_not]; omega
              have i3 : (a : Int) < (K.length : Int) := by omega
              have i4 : ¬ (K.length ≤ a) := by omega
              have xn : ∀ wz, (binOp .neq 54 (.agg (enC x)) (.agg (enC x))).run Tryd.prog wz = .ok (.bool false) wz := fun wz => by rw [run_neq_en, enEq_iff]; simp
              unfold enC at xn
              go_upto_region 19 with fail
              go_cut [93] (fun s93 wx => s93 = .bool false ∧ Below w8.heap.size w8 wx)
              case first =>
                obtain ⟨g1, o1, c1, hvl, c0, c1', c2', c3', c4', _⟩ := (HRT8.out.below hB2).at_ hin
                obtain ⟨hA1, hcc1⟩ : (⟨g, o, none⟩ : Addr) = ⟨g1, o1, none⟩ ∧ ct = c1 := by injection hvl with e1 _ e3; injection e1 with e1; exact ⟨e1, e3⟩
                injection hA1 with h1 h2
                subst h1 h2 hcc1
                rw [HX.out] at c0 c1' c2' c3' c4'
                clear hvl
                go_quiet (fail)
                go_wp2_with fail
                go_meet
                exact ⟨rfl, by first | exact hB2 | exact below_drewN hB2 _⟩
              case rest =>
                obtain ⟨rfl, hB3⟩ := hcut
                clear d0 d1 d2 d3 d4 xn
                go_wp2_with fail
                go_roundw
                case rel => exact ⟨i + 1, a + 1, by omega, by omega, by go_num, by go_num, HA2, hB3⟩
                case measure => simp [intOf]; omega
        · have i0 : decide ((i : Int) < (T.length : Int)) = false := by rw [decide_eq_false_iff_not]; omega
          obtain rfl : i = T.length := by omega
          have ea : a = K.length := by rw [← HA.out, List.take_length, ← hK.out]; rfl
          subst ea
          have hB9 := below_of_below HB8.out hB HB8.out.size
          have m9 := HM8.out.below hB HM8.out.lt
          have G9 := HG8.out.below hB HG8.out.lt
          go_wp2_with fail
          refine (works_any _ G9 m9).mono ?_
          rintro e w10 ⟨rfl, b10⟩
          go_wp2_with fail
          go_ret
          exact ⟨rfl, below_of_below hB9 b10 hB9.size⟩
end Go.Proofs.YtdjfakampjbgeaaDoor
