/- stratalaw02.GlobKeep, walked: true. (Printed by wip/genkeep.py.) -/
import Derived.Test.YtdjfakampjbgeaaGreatDoorKpA
namespace Go.Proofs.YtdjfakampjbgeaaGreatDoor
open Go Go.RowKit

set_option maxRecDepth 100000 in
set_option maxHeartbeats 16000000 in
theorem lawKeep (s : ByteArray) (At : Option Addr) (ct : Nat) (es : List En) (Au : Option Addr) (cu : Nat) (us : List En) (w : World) (hs : s.size ≤ 1048576) (hR : RE w (fun g => g < w.heap.size) (.slice At es.length ct) es) (hc : es.length ≤ ct) (hp : ∀ x ∈ es, x.path.length ≤ 1100000)
    (hRu : RE w (fun g => g < w.heap.size) (.slice Au us.length cu) us) (hcu : us.length ≤ cu) (hpu : ∀ x ∈ us, x.path.length ≤ 1100000) (hg : ErrVar w) (hm : Maxl w) :
    Calls Tryz.prog 3 #[.string s, .slice At es.length ct, .slice Au us.length cu] w fun e w' => e = .returned (.bool true) ∧ Below w.heap.size w w' := by
  have HG := Lib.hid hg
  have HM := Lib.hid hm
  have HR := Lib.hid hR
  have HU := Lib.hid hRu
  have HP := Lib.hid hp
  have HPu := Lib.hid hpu
  clear hg hm hR hRu hp hpu
  obtain ⟨R1, H1⟩ : ∃ r, Hid (Gl.parseL (bl s) = r) := ⟨_, Lib.hid rfl⟩
  have ff : (false != false) = false := rfl
  have tt : (true != true) = false := rfl
  go_enter Tryz.func3, Tryz.ntmps3
  go_wp2_with fail
  refine (refParse_v s (by omega) _ H1).mono ?_
  rintro e w1 ⟨⟨vr, N, K, rfl, hV1⟩, b1⟩
  have hm1 := HM.out.below b1 HM.out.lt
  go_wp2_with fail
  refine (parse_v s (by omega) _ hm1 H1).mono ?_
  rintro e w2 ⟨⟨vl, ve, rfl, hP1⟩, b2⟩
  have T1 := Lib.hid (two_lt (by omega) H1 hV1 hP1 b2)
  have B2 := below_of_below b1 b2 b1.size
  have G2 := HG.out.below B2 HG.out.lt
  clear hV1 hP1 b1 b2 hm1
  go_upto_region 3 with fail
  go_cut [44] (fun s44 wx => s44 = .bool false ∧ Below w2.heap.size w2 wx)
  case first =>
    rcases T1.out with ⟨h1, h2, rfl, rfl⟩ | ⟨B, A, c, rs, rfl, rfl, rfl, rfl, _, _, _, _⟩
    · have t1 : (N != 0) = true := by simp; omega
      have t2 : (N != N) = false := by simp
      go_wp2_with fail
      refine (num_fault N K 0 h1 h2 _).mono ?_
      rintro e w6 ⟨rfl, b6⟩
      go_wp2_with fail
      go_meet
      exact ⟨rfl, b6⟩
    · go_wp2_with fail
      refine (num_nil _).mono ?_
      rintro e w6 ⟨rfl, rfl⟩
      go_wp2_with fail
      go_meet
      exact ⟨rfl, Below.refl _ _⟩
  case rest =>
    obtain ⟨rfl, b3⟩ := hcut
    obtain ⟨w3, hw3⟩ : ∃ w3, wc = w3 := ⟨_, rfl⟩
    rw [hw3] at b3
    rw [hw3]
    have HB3 := Lib.hid (below_of_below B2 b3 B2.size)
    have T3 := Lib.hid (T1.out.below b3)
    have z3 := b3.size
    have z03 := HB3.out.size
    clear T1 b3 B2 G2 hw3
    rcases T3.out with ⟨h1, h2, rfl, rfl⟩ | ⟨B, A, c, rs, rfl, rfl, rfl, rfl, hL, hC, hz, ho⟩
    · have t1 : (N != 0) = true := by simp; omega
      have m3 := HM.out.below HB3.out HM.out.lt
      have G3 := HG.out.below HB3.out HG.out.lt
      go_wp2_with fail
      refine (works_any _ G3 m3).mono ?_
      rintro e w5 ⟨rfl, b5⟩
      go_wp2_with fail
      go_ret
      exact ⟨rfl, below_of_below HB3.out b5 HB3.out.size⟩
    · have HO := Lib.hid ho
      have fL3 := Lib.hid hL
      have fC3 := Lib.hid hC
      clear hL hC ho T3
      obtain ⟨T, hT⟩ : ∃ T, es.take 300 = T := ⟨_, rfl⟩
      have rT := RE.take HR.out 300 T.length
      rw [hT] at rT
      have fT3 : Hid (RE w3 (fun g => g < w.heap.size) (.slice At T.length ct) T) := Lib.hid (RC.below rT HB3.out)
      have lT : T.length = min 300 es.length := by rw [← hT, List.length_take]
      have PT : Hid (∀ x ∈ T, x.path.length ≤ 1100000) := Lib.hid fun x hx => HP.out x (List.mem_of_mem_take (by rw [hT]; exact hx))
      clear hT rT HR
      obtain ⟨U, hU⟩ : ∃ T, us.take 300 = T := ⟨_, rfl⟩
      have rU := RE.take HU.out 300 U.length
      rw [hU] at rU
      have fU3 : Hid (RE w3 (fun g => g < w.heap.size) (.slice Au U.length cu) U) := Lib.hid (RC.below rU HB3.out)
      have lU : U.length = min 300 us.length := by rw [← hU, List.length_take]
      have PU : Hid (∀ x ∈ U, x.path.length ≤ 1100000) := Lib.hid fun x hx => HPu.out x (List.mem_of_mem_take (by rw [hU]; exact hx))
      clear hU rU HU
      obtain ⟨qt, hqt⟩ : ∃ q, decide ((300 : Int) < (es.length : Int)) = q := ⟨_, rfl⟩
      have kqt : qt = true ↔ 300 < es.length := by rw [← hqt, decide_eq_true_eq]; omega
      go_upto_if 50 with fail
      go_cut [1] (fun s1 wx => s1 = .slice At T.length ct ∧ wx = w3)
      case first =>
        cases qt with
        | true =>
          have h2 := kqt.1 rfl
          have e1 : T.length = 300 := by omega
          have e2 : 300 ≤ ct := by omega
          have e3 : (300 : Int) ≤ (ct : Int) := by omega
          go_wp2_with fail
          go_meet
          exact ⟨by rw [e1], rfl⟩
        | false =>
          have h2 : ¬ 300 < es.length := fun h => by have := kqt.2 h; cases this
          have e1 : T.length = es.length := by omega
          go_wp2_with fail
          go_meet
          exact ⟨by rw [e1], rfl⟩
      case rest =>
        obtain ⟨rfl, hwc⟩ := hcut
        rw [hwc]
        clear hwc
        have lT1 : T.length ≤ 300 := by omega
        clear lT hqt kqt qt
        obtain ⟨qu, hqu⟩ : ∃ q, decide ((300 : Int) < (us.length : Int)) = q := ⟨_, rfl⟩
        have kqu : qu = true ↔ 300 < us.length := by rw [← hqu, decide_eq_true_eq]; omega
        go_upto_if 55 with fail
        go_cut [2] (fun s1 wx => s1 = .slice Au U.length cu ∧ wx = w3)
        case first =>
          cases qu with
          | true =>
            have h2 := kqu.1 rfl
            have e1 : U.length = 300 := by omega
            have e2 : 300 ≤ cu := by omega
            have e3 : (300 : Int) ≤ (cu : Int) := by omega
            go_wp2_with fail
            go_meet
            exact ⟨by rw [e1], rfl⟩
          | false =>
            have h2 : ¬ 300 < us.length := fun h => by have := kqu.2 h; cases this
            have e1 : U.length = us.length := by omega
            go_wp2_with fail
            go_meet
            exact ⟨by rw [e1], rfl⟩
        case rest =>
          obtain ⟨rfl, hwc⟩ := hcut
          rw [hwc]
          clear hwc
          have lU1 : U.length ≤ 300 := by omega
          clear lU hqu kqu qu
          have lT2 : T.length ≤ 1100000 := by omega
          have lU2 : U.length ≤ 1100000 := by omega
          obtain ⟨K1, hK1⟩ : ∃ K, Hid (Gl.keepL rs T = K) := ⟨_, Lib.hid rfl⟩
          obtain ⟨K2, hK2⟩ : ∃ K, Hid (Gl.keepL rs U = K) := ⟨_, Lib.hid rfl⟩
          have lK1 : K1.length ≤ 300 := by rw [← hK1.out]; exact Nat.le_trans (List.length_filter_le _ _) lT1
          have lK2 : K2.length ≤ 300 := by rw [← hK2.out]; exact Nat.le_trans (List.length_filter_le _ _) lU1
          have lK3 : K1.length ≤ 1100000 := by omega
          have lK4 : K2.length ≤ 1100000 := by omega
          go_wp2_with fail
          refine (refKeep_any rs A c T At ct _ fC3.out hz HO.out (Nat.le_refl _) fT3.out lT2 PT.out hK1).mono ?_
          rintro e w4 ⟨⟨Aw, cw, Bw, rfl, hBw, ow⟩, b4⟩
          have z4 := b4.size
          have fL4 := Lib.hid (fL3.out.below b4)
          have fC4 := Lib.hid (fC3.out.below b4)
          have HB4 := Lib.hid (below_of_below HB3.out b4 HB3.out.size)
          have fT4 := Lib.hid (fT3.out.below b4)
          have fU4 := Lib.hid (fU3.out.below b4)
          have fw4 : Hid (w4.ownsRow Bw 38 5 (.slice Aw K1.length cw) K1.length (enCs K1)) := Lib.hid ow
          have rw4 : Hid (∀ k, (Value.slice Aw K1.length cw).ownBlock = some k → k < w4.heap.size) := Lib.hid fun k hk => (ow.lt k hk).2
          clear fL3 fC3 HB3 fT3 fU3 b4 ow hBw
          go_wp2_with fail
          refine (lent_any T At ct _ fT4.out lT2).mono ?_
          rintro e w5 ⟨⟨g, cl, rfl, hcl, oe⟩, b5⟩
          have z5 := b5.size
          have fL5 := Lib.hid (fL4.out.below b5)
          have fC5 := Lib.hid (fC4.out.below b5)
          have HB5 := Lib.hid (below_of_below HB4.out b5 HB4.out.size)
          have fT5 := Lib.hid (fT4.out.below b5)
          have fU5 := Lib.hid (fU4.out.below b5)
          have fw5 := Lib.hid (own_below fw4.out b5)
          have fe5 := Lib.hid oe
          have rg5 : Hid (w4.heap.size ≤ g ∧ g < w5.heap.size) := Lib.hid (oe.lt g rfl)
          clear fL4 fC4 HB4 fT4 fU4 fw4 b5 oe
          have m6 := HM.out.below HB5.out HM.out.lt
          go_wp2_with fail
          refine (keep_any rs B T (some ⟨g, 0, none⟩) cl _ fL5.out hz HO.out (re_front fe5.out) lT2 PT.out m6 hK1).mono ?_
          rintro e w6 ⟨⟨Aa, ca, Ba, rfl, hBa, oa⟩, b6⟩
          have z6 := b6.size
          have fL6 := Lib.hid (fL5.out.below b6)
          have fC6 := Lib.hid (fC5.out.below b6)
          have HB6 := Lib.hid (below_of_below HB5.out b6 HB5.out.size)
          have fT6 := Lib.hid (fT5.out.below b6)
          have fU6 := Lib.hid (fU5.out.below b6)
          have fw6 := Lib.hid (own_below fw5.out b6)
          have fe6 := Lib.hid (own_below fe5.out b6)
          have fa6 : Hid (w6.ownsRow Ba 38 5 (.slice Aa K1.length ca) K1.length (enCs K1)) := Lib.hid oa
          have ra6 : Hid (∀ k, (Value.slice Aa K1.length ca).ownBlock = some k → w5.heap.size ≤ k ∧ k < w6.heap.size) := Lib.hid fun k hk => ⟨Nat.le_trans hBa (oa.lt k hk).1, (oa.lt k hk).2⟩
          clear fL5 fC5 HB5 fT5 fU5 fw5 fe5 b6 oa m6 hBa
          have m7 := HM.out.below HB6.out HM.out.lt
          go_wp2_with fail
          refine (keep_any rs B T (some ⟨g, 0, none⟩) cl _ fL6.out hz HO.out (re_front fe6.out) lT2 PT.out m7 hK1).mono ?_
          rintro e w7 ⟨⟨Ab, cb, Bb, rfl, hBb, ob⟩, b7⟩
          have z7 := b7.size
          have fL7 := Lib.hid (fL6.out.below b7)
          have fC7 := Lib.hid (fC6.out.below b7)
          have HB7 := Lib.hid (below_of_below HB6.out b7 HB6.out.size)
          have fT7 := Lib.hid (fT6.out.below b7)
          have fU7 := Lib.hid (fU6.out.below b7)
          have fw7 := Lib.hid (own_below fw6.out b7)
          have fe7 := Lib.hid (own_below fe6.out b7)
          have fa7 := Lib.hid (own_below fa6.out b7)
          have fb7 : Hid (w7.ownsRow Bb 38 5 (.slice Ab K1.length cb) K1.length (enCs K1)) := Lib.hid ob
          have rb7 : Hid (∀ k, (Value.slice Ab K1.length cb).ownBlock = some k → w6.heap.size ≤ k ∧ k < w7.heap.size) := Lib.hid fun k hk => ⟨Nat.le_trans hBb (ob.lt k hk).1, (ob.lt k hk).2⟩
          clear fL6 fC6 HB6 fT6 fU6 fw6 fe6 fa6 b7 ob m7 hBb
          go_wp2_with fail
          refine (lent_any U Au cu _ fU7.out lU2).mono ?_
          rintro e w8 ⟨⟨gu, clu, rfl, hclu, ou⟩, b8⟩
          have z8 := b8.size
          have fL8 := Lib.hid (fL7.out.below b8)
          have fC8 := Lib.hid (fC7.out.below b8)
          have HB8 := Lib.hid (below_of_below HB7.out b8 HB7.out.size)
          have fT8 := Lib.hid (fT7.out.below b8)
          have fU8 := Lib.hid (fU7.out.below b8)
          have fw8 := Lib.hid (own_below fw7.out b8)
          have fe8 := Lib.hid (own_below fe7.out b8)
          have fa8 := Lib.hid (own_below fa7.out b8)
          have fb8 := Lib.hid (own_below fb7.out b8)
          have fx8 := Lib.hid ou
          clear fL7 fC7 HB7 fT7 fU7 fw7 fe7 fa7 fb7 b8 ou
          have m9 := HM.out.below HB8.out HM.out.lt
          go_wp2_with fail
          refine (keep_any rs B U (some ⟨gu, 0, none⟩) clu _ fL8.out hz HO.out (re_front fx8.out) lU2 PU.out m9 hK2).mono ?_
          rintro e w9 ⟨⟨Ac, cc, Bc, rfl, hBc, oc⟩, b9⟩
          have z9 := b9.size
          have fL9 := Lib.hid (fL8.out.below b9)
          have fC9 := Lib.hid (fC8.out.below b9)
          have HB9 := Lib.hid (below_of_below HB8.out b9 HB8.out.size)
          have fT9 := Lib.hid (fT8.out.below b9)
          have fU9 := Lib.hid (fU8.out.below b9)
          have fw9 := Lib.hid (own_below fw8.out b9)
          have fe9 := Lib.hid (own_below fe8.out b9)
          have fa9 := Lib.hid (own_below fa8.out b9)
          have fb9 := Lib.hid (own_below fb8.out b9)
          have fx9 := Lib.hid (own_below fx8.out b9)
          have fc9 : Hid (w9.ownsRow Bc 38 5 (.slice Ac K2.length cc) K2.length (enCs K2)) := Lib.hid oc
          have rc9 : Hid (∀ k, (Value.slice Ac K2.length cc).ownBlock = some k → w8.heap.size ≤ k ∧ k < w9.heap.size) := Lib.hid fun k hk => ⟨Nat.le_trans hBc (oc.lt k hk).1, (oc.lt k hk).2⟩
          clear fL8 fC8 HB8 fT8 fU8 fw8 fe8 fa8 fb8 fx8 b9 oc m9 hBc
          clear fx9
          have m10 := HM.out.below HB9.out HM.out.lt
          go_wp2_with fail
          refine (keep_any rs B T (some ⟨g, 0, none⟩) cl _ fL9.out hz HO.out (re_front fe9.out) lT2 PT.out m10 hK1).mono ?_
          rintro e w10 ⟨⟨Ad, cd, Bd, rfl, hBd, od⟩, b10⟩
          have z10 := b10.size
          have fL10 := Lib.hid (fL9.out.below b10)
          have fC10 := Lib.hid (fC9.out.below b10)
          have HB10 := Lib.hid (below_of_below HB9.out b10 HB9.out.size)
          have fT10 := Lib.hid (fT9.out.below b10)
          have fU10 := Lib.hid (fU9.out.below b10)
          have fw10 := Lib.hid (own_below fw9.out b10)
          have fe10 := Lib.hid (own_below fe9.out b10)
          have fa10 := Lib.hid (own_below fa9.out b10)
          have fb10 := Lib.hid (own_below fb9.out b10)
          have fc10 := Lib.hid (own_below fc9.out b10)
          have fd10 : Hid (w10.ownsRow Bd 38 5 (.slice Ad K1.length cd) K1.length (enCs K1)) := Lib.hid od
          have rd10 : Hid (∀ k, (Value.slice Ad K1.length cd).ownBlock = some k → w9.heap.size ≤ k ∧ k < w10.heap.size) := Lib.hid fun k hk => ⟨Nat.le_trans hBd (od.lt k hk).1, (od.lt k hk).2⟩
          clear fL9 fC9 HB9 fT9 fU9 fw9 fe9 fa9 fb9 fc9 b10 od m10 hBd
          go_wp2_with fail
          refine (same_any K1 K1 Aa Aw ca cw _ (re_own fa10.out) (re_own fw10.out) lK3 (Lib.hid (decide_eq_true rfl))).mono ?_
          rintro e w11 ⟨rfl, b11⟩
          have z11 := b11.size
          have fL11 := Lib.hid (fL10.out.below b11)
          have fC11 := Lib.hid (fC10.out.below b11)
          have HB11 := Lib.hid (below_of_below HB10.out b11 HB10.out.size)
          have fT11 := Lib.hid (fT10.out.below b11)
          have fU11 := Lib.hid (fU10.out.below b11)
          have fw11 := Lib.hid (own_below fw10.out b11)
          have fe11 := Lib.hid (own_below fe10.out b11)
          have fa11 := Lib.hid (own_below fa10.out b11)
          have fb11 := Lib.hid (own_below fb10.out b11)
          have fc11 := Lib.hid (own_below fc10.out b11)
          have fd11 := Lib.hid (own_below fd10.out b11)
          clear fL10 fC10 HB10 fT10 fU10 fw10 fe10 fa10 fb10 fc10 fd10 b11
          go_wp2_with fail
          refine (same_any K1 K1 Ab Aw cb cw _ (re_own fb11.out) (re_own fw11.out) lK3 (Lib.hid (decide_eq_true rfl))).mono ?_
          rintro e w12 ⟨rfl, b12⟩
          have z12 := b12.size
          have fL12 := Lib.hid (fL11.out.below b12)
          have fC12 := Lib.hid (fC11.out.below b12)
          have HB12 := Lib.hid (below_of_below HB11.out b12 HB11.out.size)
          have fT12 := Lib.hid (fT11.out.below b12)
          have fU12 := Lib.hid (fU11.out.below b12)
          have fw12 := Lib.hid (own_below fw11.out b12)
          have fe12 := Lib.hid (own_below fe11.out b12)
          have fa12 := Lib.hid (own_below fa11.out b12)
          have fb12 := Lib.hid (own_below fb11.out b12)
          have fc12 := Lib.hid (own_below fc11.out b12)
          have fd12 := Lib.hid (own_below fd11.out b12)
          clear fL11 fC11 HB11 fT11 fU11 fw11 fe11 fa11 fb11 fc11 fd11 b12
          go_wp2_with fail
          refine (same_any K1 K1 Ad Aw cd cw _ (re_own fd12.out) (re_own fw12.out) lK3 (Lib.hid (decide_eq_true rfl))).mono ?_
          rintro e w13 ⟨rfl, b13⟩
          have z13 := b13.size
          have fL13 := Lib.hid (fL12.out.below b13)
          have fC13 := Lib.hid (fC12.out.below b13)
          have HB13 := Lib.hid (below_of_below HB12.out b13 HB12.out.size)
          have fT13 := Lib.hid (fT12.out.below b13)
          have fU13 := Lib.hid (fU12.out.below b13)
          have fw13 := Lib.hid (own_below fw12.out b13)
          have fe13 := Lib.hid (own_below fe12.out b13)
          have fa13 := Lib.hid (own_below fa12.out b13)
          have fb13 := Lib.hid (own_below fb12.out b13)
          have fc13 := Lib.hid (own_below fc12.out b13)
          have fd13 := Lib.hid (own_below fd12.out b13)
          clear fL12 fC12 HB12 fT12 fU12 fw12 fe12 fa12 fb12 fc12 fd12 b13
          go_wp2_with fail
          refine (kept_any T g cl At ct _ fe13.out hcl fT13.out lT2).mono ?_
          rintro e w14 ⟨rfl, b14⟩
          have z14 := b14.size
          have fL14 := Lib.hid (fL13.out.below b14)
          have fC14 := Lib.hid (fC13.out.below b14)
          have HB14 := Lib.hid (below_of_below HB13.out b14 HB13.out.size)
          have fT14 := Lib.hid (fT13.out.below b14)
          have fU14 := Lib.hid (fU13.out.below b14)
          have fw14 := Lib.hid (own_below fw13.out b14)
          have fe14 := Lib.hid (own_below fe13.out b14)
          have fa14 := Lib.hid (own_below fa13.out b14)
          have fb14 := Lib.hid (own_below fb13.out b14)
          have fc14 := Lib.hid (own_below fc13.out b14)
          have fd14 := Lib.hid (own_below fd13.out b14)
          clear fL13 fC13 HB13 fT13 fU13 fw13 fe13 fa13 fb13 fc13 fd13 b14
          go_wp2_with fail
          refine (refKeep_any rs A c U Au cu _ fC14.out hz HO.out (Nat.le_refl _) fU14.out lU2 PU.out hK2).mono ?_
          rintro e w15 ⟨⟨Ao, co, Bo, rfl, hBo, oo⟩, b15⟩
          have z15 := b15.size
          have fL15 := Lib.hid (fL14.out.below b15)
          have fC15 := Lib.hid (fC14.out.below b15)
          have HB15 := Lib.hid (below_of_below HB14.out b15 HB14.out.size)
          have fT15 := Lib.hid (fT14.out.below b15)
          have fU15 := Lib.hid (fU14.out.below b15)
          have fw15 := Lib.hid (own_below fw14.out b15)
          have fe15 := Lib.hid (own_below fe14.out b15)
          have fa15 := Lib.hid (own_below fa14.out b15)
          have fb15 := Lib.hid (own_below fb14.out b15)
          have fc15 := Lib.hid (own_below fc14.out b15)
          have fd15 := Lib.hid (own_below fd14.out b15)
          have fo15 : Hid (w15.ownsRow Bo 38 5 (.slice Ao K2.length co) K2.length (enCs K2)) := Lib.hid oo
          clear fL14 fC14 HB14 fT14 fU14 fw14 fe14 fa14 fb14 fc14 fd14 b15 oo hBo
          go_wp2_with fail
          refine (same_any K2 K2 Ac Ao cc co _ (re_own fc15.out) (re_own fo15.out) lK4 (Lib.hid (decide_eq_true rfl))).mono ?_
          rintro e w16 ⟨rfl, b16⟩
          have z16 := b16.size
          have fL16 := Lib.hid (fL15.out.below b16)
          have fC16 := Lib.hid (fC15.out.below b16)
          have HB16 := Lib.hid (below_of_below HB15.out b16 HB15.out.size)
          have fT16 := Lib.hid (fT15.out.below b16)
          have fU16 := Lib.hid (fU15.out.below b16)
          have fw16 := Lib.hid (own_below fw15.out b16)
          have fe16 := Lib.hid (own_below fe15.out b16)
          have fa16 := Lib.hid (own_below fa15.out b16)
          have fb16 := Lib.hid (own_below fb15.out b16)
          have fc16 := Lib.hid (own_below fc15.out b16)
          have fd16 := Lib.hid (own_below fd15.out b16)
          have fo16 := Lib.hid (own_below fo15.out b16)
          clear fL15 fC15 HB15 fT15 fU15 fw15 fe15 fa15 fb15 fc15 fd15 fo15 b16
          clear fo16 fU16 fT16 PT PU hclu
          have hnl : T.length ≤ cl := by omega
          go_wp2_with fail
          go_loopw [19] (fun t19 wr => ∃ i : Nat, i ≤ T.length ∧ t19 = .int .i64 (i : Int) ∧ Hid (wr.ownsRow w4.heap.size 38 5 (.slice (some ⟨g, 0, none⟩) (T.length + 16) cl) (T.length + 16) (enCs (List.replicate i wE ++ (T ++ marksE 16).drop i))) ∧ Hid (w16.grownBy wr (some g))) (fun t19 _ => T.length - (intOf t19).toNat)
          case atStart => exact ⟨0, by omega, rfl, fe16, Lib.hid (Ak.refl_grown _ _)⟩
          case round =>
            obtain ⟨i, hi, rfl, hown, hgr⟩ := hrel
            have j0 : (0 : Int) ≤ (i : Int) := by omega
            rcases Nat.lt_or_ge i T.length with hin | hin
            · have i0 : decide ((i : Int) < (T.length : Int)) = true := by rw [decide_eq_true_eq]; omega
              have i1 : (i : Int) < (T.length : Int) := by omega
              have hth : wr.there g (i * 5) 5 := fun r hr => by
                have hlt2 : i * 5 + r < (T.length + 16) * 5 := by omega
                refine ⟨?_, hown.out.frozenAt _⟩
                rw [hown.out.cellAt _ hlt2, List.getElem?_eq_getElem (by rw [hown.out.1]; exact hlt2)]
                rfl
              have ho2 := (Ak.own_setCells (enL wE) (i * 5) _ _ hown.out).1
              rw [put_over (T ++ marksE 16) wE i (by rw [List.length_append]; omega)] at ho2
              have HO2 := Lib.hid ho2
              have HG2 := Lib.hid (Ak.trans_grown hgr.out (setCells_grown (enL wE) (i * 5) wr g))
              clear ho2 hown hgr
              rw [over_set] at HO2 HG2
              obtain ⟨a0, a1, a2, a3, a4, d0, d1, d2, d3, d4, f0, f1, f2, f3, f4⟩ := five hth
              clear hth
              go_wp2_with fail
              go_roundw
              case rel => exact ⟨i + 1, by omega, by go_num, HO2, HG2⟩
              case measure => simp [intOf]; omega
            · have i0 : decide ((i : Int) < (T.length : Int)) = false := by rw [decide_eq_false_iff_not]; omega
              obtain rfl : i = T.length := by omega
              obtain ⟨R, hRd⟩ : ∃ R, List.replicate T.length wE = R := ⟨_, rfl⟩
              have hRl : R.length = T.length := by rw [← hRd, List.length_replicate]
              have PR : Hid (∀ x ∈ R, x.path.length ≤ 1100000) := Lib.hid (by rw [← hRd]; exact wE_path _)
              obtain ⟨w17, hw17⟩ : ∃ w17, wr = w17 := ⟨_, rfl⟩
              have ho17 := hown.out
              have hg17 := hgr.out
              rw [hRd, List.drop_left, ← hRl, hw17] at ho17
              rw [hw17] at hg17
              rw [hw17]
              have lR1 : R.length ≤ 300 := by omega
              rw [← hRl]
              clear hRd hRl hown hgr hin hi i0 hnl lT1 lT2 hw17 fe16
              have hng : ∀ k, k < w4.heap.size → k ≠ g := fun k hk e => by have := rg5.out; omega
              have z17 := hg17.size
              have fe17 := Lib.hid ho17
              have fL17 := Lib.hid (ListAt.grown fL16.out hg17 (fun b hb => hng b (by have : b < w2.heap.size := hb; omega)))
              have fC17 := Lib.hid (RC.grown fC16.out hg17 (fun b hb => hng b (by have : b < w2.heap.size := hb; omega)))
              have fw17 := Lib.hid (own_grown fw16.out hg17 (fun b hb => hng b (rw4.out b hb)))
              have fa17 := Lib.hid (own_grown fa16.out hg17 (fun b hb e => by have := ra6.out b hb; have := rg5.out; omega))
              have fb17 := Lib.hid (own_grown fb16.out hg17 (fun b hb e => by have := rb7.out b hb; have := rg5.out; omega))
              have fc17 := Lib.hid (own_grown fc16.out hg17 (fun b hb e => by have := rc9.out b hb; have := rg5.out; omega))
              have fd17 := Lib.hid (own_grown fd16.out hg17 (fun b hb e => by have := rd10.out b hb; have := rg5.out; omega))
              have HB17 := Lib.hid (HB16.out.grown hg17 HB16.out.size (fun k e => by cases e; have := rg5.out; omega))
              clear fL16 fC16 fw16 fa16 fb16 fc16 fd16 HB16 ho17 hg17 hng
              have lR2 : R.length ≤ 1100000 := by omega
              obtain ⟨F, hF⟩ : ∃ K, Hid (Gl.keepL rs R = K) := ⟨_, Lib.hid rfl⟩
              have lF : F.length ≤ 300 := by rw [← hF.out]; exact Nat.le_trans (List.length_filter_le _ _) lR1
              have lF2 : F.length ≤ 1100000 := by omega
              go_wp2_with fail
              refine (copy_any R (some ⟨g, 0, none⟩) cl _ (re_front fe17.out) lR2).mono ?_
              rintro e w18 ⟨⟨Av, cv, rfl, ov⟩, b18⟩
              have z18 := b18.size
              have fL18 := Lib.hid (fL17.out.below b18)
              have fC18 := Lib.hid (fC17.out.below b18)
              have HB18 := Lib.hid (below_of_below HB17.out b18 HB17.out.size)
              have fw18 := Lib.hid (own_below fw17.out b18)
              have fe18 := Lib.hid (own_below fe17.out b18)
              have fa18 := Lib.hid (own_below fa17.out b18)
              have fb18 := Lib.hid (own_below fb17.out b18)
              have fc18 := Lib.hid (own_below fc17.out b18)
              have fd18 := Lib.hid (own_below fd17.out b18)
              have fv18 := Lib.hid ov
              have rv18 : Hid (∀ k, (Value.slice Av R.length cv).ownBlock = some k → w17.heap.size ≤ k ∧ k < w18.heap.size) := Lib.hid fun k hk => ov.lt k hk
              clear fL17 fC17 HB17 fw17 fe17 fa17 fb17 fc17 fd17 b18 ov
              have m19 := HM.out.below HB18.out HM.out.lt
              go_wp2_with fail
              refine (keep_any rs B R (some ⟨g, 0, none⟩) cl _ fL18.out hz HO.out (re_front fe18.out) lR2 PR.out m19 hF).mono ?_
              rintro e w19 ⟨⟨Af, cf, Bf, rfl, hBf, of⟩, b19⟩
              have z19 := b19.size
              have fL19 := Lib.hid (fL18.out.below b19)
              have fC19 := Lib.hid (fC18.out.below b19)
              have HB19 := Lib.hid (below_of_below HB18.out b19 HB18.out.size)
              have fw19 := Lib.hid (own_below fw18.out b19)
              have fe19 := Lib.hid (own_below fe18.out b19)
              have fa19 := Lib.hid (own_below fa18.out b19)
              have fb19 := Lib.hid (own_below fb18.out b19)
              have fc19 := Lib.hid (own_below fc18.out b19)
              have fd19 := Lib.hid (own_below fd18.out b19)
              have fv19 := Lib.hid (own_below fv18.out b19)
              have ff19 : Hid (w19.ownsRow Bf 38 5 (.slice Af F.length cf) F.length (enCs F)) := Lib.hid of
              have rf19 : Hid (∀ k, (Value.slice Af F.length cf).ownBlock = some k → w18.heap.size ≤ k ∧ k < w19.heap.size) := Lib.hid fun k hk => ⟨Nat.le_trans hBf (of.lt k hk).1, (of.lt k hk).2⟩
              clear fL18 fC18 HB18 fw18 fe18 fa18 fb18 fc18 fd18 fv18 b19 of m19 hBf
              go_wp2_with fail
              refine (refKeep_any rs A c R Av cv _ fC19.out hz HO.out (Nat.le_refl _) (re_own fv19.out) lR2 PR.out hF).mono ?_
              rintro e w20 ⟨⟨Ag, cg, Bg, rfl, hBg, og⟩, b20⟩
              have z20 := b20.size
              have fL20 := Lib.hid (fL19.out.below b20)
              have fC20 := Lib.hid (fC19.out.below b20)
              have HB20 := Lib.hid (below_of_below HB19.out b20 HB19.out.size)
              have fw20 := Lib.hid (own_below fw19.out b20)
              have fe20 := Lib.hid (own_below fe19.out b20)
              have fa20 := Lib.hid (own_below fa19.out b20)
              have fb20 := Lib.hid (own_below fb19.out b20)
              have fc20 := Lib.hid (own_below fc19.out b20)
              have fd20 := Lib.hid (own_below fd19.out b20)
              have fv20 := Lib.hid (own_below fv19.out b20)
              have ff20 := Lib.hid (own_below ff19.out b20)
              have fg20 : Hid (w20.ownsRow Bg 38 5 (.slice Ag F.length cg) F.length (enCs F)) := Lib.hid og
              clear fL19 fC19 HB19 fw19 fe19 fa19 fb19 fc19 fd19 fv19 ff19 b20 og hBg
              go_wp2_with fail
              refine (same_any F F Af Ag cf cg _ (re_own ff20.out) (re_own fg20.out) lF2 (Lib.hid (decide_eq_true rfl))).mono ?_
              rintro e w21 ⟨rfl, b21⟩
              have z21 := b21.size
              have fL21 := Lib.hid (fL20.out.below b21)
              have fC21 := Lib.hid (fC20.out.below b21)
              have HB21 := Lib.hid (below_of_below HB20.out b21 HB20.out.size)
              have fw21 := Lib.hid (own_below fw20.out b21)
              have fe21 := Lib.hid (own_below fe20.out b21)
              have fa21 := Lib.hid (own_below fa20.out b21)
              have fb21 := Lib.hid (own_below fb20.out b21)
              have fc21 := Lib.hid (own_below fc20.out b21)
              have fd21 := Lib.hid (own_below fd20.out b21)
              have fv21 := Lib.hid (own_below fv20.out b21)
              have ff21 := Lib.hid (own_below ff20.out b21)
              have fg21 := Lib.hid (own_below fg20.out b21)
              clear fL20 fC20 HB20 fw20 fe20 fa20 fb20 fc20 fd20 fv20 ff20 fg20 b21
              go_wp2_with fail
              refine (same_any K1 K1 Aa Aw ca cw _ (re_own fa21.out) (re_own fw21.out) lK3 (Lib.hid (decide_eq_true rfl))).mono ?_
              rintro e w22 ⟨rfl, b22⟩
              have z22 := b22.size
              have fL22 := Lib.hid (fL21.out.below b22)
              have fC22 := Lib.hid (fC21.out.below b22)
              have HB22 := Lib.hid (below_of_below HB21.out b22 HB21.out.size)
              have fw22 := Lib.hid (own_below fw21.out b22)
              have fe22 := Lib.hid (own_below fe21.out b22)
              have fa22 := Lib.hid (own_below fa21.out b22)
              have fb22 := Lib.hid (own_below fb21.out b22)
              have fc22 := Lib.hid (own_below fc21.out b22)
              have fd22 := Lib.hid (own_below fd21.out b22)
              have fv22 := Lib.hid (own_below fv21.out b22)
              have ff22 := Lib.hid (own_below ff21.out b22)
              have fg22 := Lib.hid (own_below fg21.out b22)
              clear fL21 fC21 HB21 fw21 fe21 fa21 fb21 fc21 fd21 fv21 ff21 fg21 b22
              go_wp2_with fail
              refine (same_any K1 K1 Ab Aw cb cw _ (re_own fb22.out) (re_own fw22.out) lK3 (Lib.hid (decide_eq_true rfl))).mono ?_
              rintro e w23 ⟨rfl, b23⟩
              have z23 := b23.size
              have fL23 := Lib.hid (fL22.out.below b23)
              have fC23 := Lib.hid (fC22.out.below b23)
              have HB23 := Lib.hid (below_of_below HB22.out b23 HB22.out.size)
              have fw23 := Lib.hid (own_below fw22.out b23)
              have fe23 := Lib.hid (own_below fe22.out b23)
              have fa23 := Lib.hid (own_below fa22.out b23)
              have fb23 := Lib.hid (own_below fb22.out b23)
              have fc23 := Lib.hid (own_below fc22.out b23)
              have fd23 := Lib.hid (own_below fd22.out b23)
              have fv23 := Lib.hid (own_below fv22.out b23)
              have ff23 := Lib.hid (own_below ff22.out b23)
              have fg23 := Lib.hid (own_below fg22.out b23)
              clear fL22 fC22 HB22 fw22 fe22 fa22 fb22 fc22 fd22 fv22 ff22 fg22 b23
              have z0 := HB23.out.size
              obtain ⟨cls, hcls⟩ : ∃ cls : Array Value, cls = #[.slice Aa K1.length ca, .slice Ab K1.length cb, .slice Ac K2.length cc, .slice Ad K1.length cd, .slice Af F.length cf] := ⟨_, rfl⟩
              have hfam := fam5 (own_base (fa23.out.alloc (.cells cls 22)) (Nat.zero_le _)) (own_base (fb23.out.alloc (.cells cls 22)) (Nat.zero_le _)) (own_base (fc23.out.alloc (.cells cls 22)) (Nat.zero_le _)) (own_base (fd23.out.alloc (.cells cls 22)) (Nat.zero_le _)) (own_base (ff23.out.alloc (.cells cls 22)) (Nat.zero_le _)) (p := w6.heap.size) (q := w7.heap.size) (r := w9.heap.size) (s := w10.heap.size) (fun k hk => (ra6.out k hk).2) (fun k hk => rb7.out k hk) (fun k hk => by have := rc9.out k hk; omega) (fun k hk => by have := rd10.out k hk; omega) (fun k hk => by have := rf19.out k hk; omega) z7 (by omega) (by omega)
              have hap := apartE_any 0 5 5 w23.heap.size 0 cls _ _ _ _ _ hfam (heap_alloc_new w23 _) (by rw [hcls]; exact cls5 _ _ _ _ _) (by omega) (by omega) (fun j _ => of5 (P := fun n => n ≤ 1000000) (by omega) (by omega) (by omega) (by omega) (by omega) j) (Nat.zero_le _)
              rw [hcls] at hap
              have HAP := Lib.hid hap
              clear hfam hap hcls
              have fe24 := Lib.hid (fe23.out.alloc (.cells #[.slice Aa K1.length ca, .slice Ab K1.length cb, .slice Ac K2.length cc, .slice Ad K1.length cd, .slice Af F.length cf] 22))
              have fv24 := Lib.hid (fv23.out.alloc (.cells #[.slice Aa K1.length ca, .slice Ab K1.length cb, .slice Ac K2.length cc, .slice Ad K1.length cd, .slice Af F.length cf] 22))
              have HB24 := Lib.hid (HB23.out.alloc HB23.out.size (.cells #[.slice Aa K1.length ca, .slice Ab K1.length cb, .slice Ac K2.length cc, .slice Ad K1.length cd, .slice Af F.length cf] 22))
              have VB : Hid (∀ j k, (V5 (.slice Aa K1.length ca) (.slice Ab K1.length cb) (.slice Ac K2.length cc) (.slice Ad K1.length cd) (.slice Af F.length cf) j : Value).ownBlock = some k → w5.heap.size ≤ k ∧ (k < w16.heap.size ∨ w18.heap.size ≤ k)) := Lib.hid fun j => of5 (P := fun v : Value => ∀ k, v.ownBlock = some k → w5.heap.size ≤ k ∧ (k < w16.heap.size ∨ w18.heap.size ≤ k)) (fun k hk => by have := ra6.out k hk; omega) (fun k hk => by have := rb7.out k hk; omega) (fun k hk => by have := rc9.out k hk; omega) (fun k hk => by have := rd10.out k hk; omega) (fun k hk => by have := rf19.out k hk; omega) j
              go_wp2_with fail
              refine HAP.out.mono ?_
              rintro e w25 ⟨rfl, hfr⟩
              have fe25 := own_fr fe24.out hfr (fun b hb j _ e => by have h1 := VB.out j b e; have h2 := rg5.out; have h3 : g = b := Option.some.inj hb; omega)
              have fv25 := own_fr fv24.out hfr (fun b hb j _ e => by have h1 := VB.out j b e; have h2 := rv18.out b hb; omega)
              have HB25 := HB24.out.trans (hfr.to_below (B := w.heap.size) HB24.out.size (fun j _ b e => by have h1 := VB.out j b e; omega))
              go_wp2_with fail
              refine (same_any R R (some ⟨g, 0, none⟩) Av cl cv _ (re_front fe25) (re_own fv25) lR2 (Lib.hid (decide_eq_true rfl))).mono ?_
              rintro e w26 ⟨rfl, b26⟩
              go_wp2_with fail
              go_ret
              exact ⟨rfl, below_of_below HB25 b26 HB25.size⟩
end Go.Proofs.YtdjfakampjbgeaaGreatDoor
