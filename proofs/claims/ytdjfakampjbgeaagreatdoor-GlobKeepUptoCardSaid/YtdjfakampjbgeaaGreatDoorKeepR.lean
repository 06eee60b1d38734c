/- strataref02.Keep, walked. -/
import Derived.Test.YtdjfakampjbgeaaGreatDoorGoG
import Derived.Test.YtdjfakampjbgeaaGreatDoorMI
import Derived.Test.YtdjfakampjbgeaaGreatDoorBelow
namespace Go.Proofs.YtdjfakampjbgeaaGreatDoor
open Go Go.RowKit

/-- does an entry of the first k that is not out lie below? -/
def overK (rs : List Gl.Rl) (es : List En) (d : List UInt8) (k : Nat) : Bool := (es.take k).any fun y => Gl.inB rs y && Gl.belowP d y.path
theorem overK_succ {rs : List Gl.Rl} {es : List En} {d : List UInt8} {k : Nat} (h : k < es.length) : overK rs es d (k + 1) = (overK rs es d k || (Gl.inB rs es[k] && Gl.belowP d es[k].path)) := by
  unfold overK
  rw [List.take_add_one, List.getElem?_eq_getElem h, List.any_append]
  simp
theorem overK_mono {rs : List Gl.Rl} {es : List En} {d : List UInt8} {k : Nat} (h : overK rs es d k = true) : overK rs es d es.length = true := by
  unfold overK at h ⊢
  rw [List.take_length]
  rw [List.any_eq_true] at h ⊢
  obtain ⟨y, hy, e⟩ := h
  exact ⟨y, List.mem_of_mem_take hy, e⟩
theorem stay_overK (rs : List Gl.Rl) (es : List En) (x : En) : Gl.stayB rs es x = (Gl.inB rs x || overK rs es x.path es.length) := by
  unfold overK Gl.stayB
  rw [List.take_length]
set_option maxRecDepth 100000 in
set_option maxHeartbeats 16000000 in
theorem refKeep_any (rs : List Gl.Rl) (A : Option Addr) (c : Nat) (es : List En) (At : Option Addr) (ct : Nat) (w : World) {S S2 : Nat → Prop} (hL : RC w S (.slice A rs.length c) rs.length (rlC rs)) (hz : rs.length ≤ 256) {m : Nat} (hok : ∀ r ∈ rs, Gl.RlOk m r) (hm : m ≤ 2000000) (hR : RE w S2 (.slice At es.length ct) es) (hn : es.length ≤ 1100000) (hp : ∀ x ∈ es, x.path.length ≤ 1100000) {out : List En} (H : Hid (Gl.keepL rs es = out)) :
    Calls Tryz.prog 9 #[.slice A rs.length c, .slice At es.length ct] w fun e w' => (∃ A c Bs, e = .returned (.slice A out.length c) ∧ w.heap.size ≤ Bs ∧ w'.ownsRow Bs 38 5 (.slice A out.length c) out.length (enCs out)) ∧ Below w.heap.size w w' := by
  have HL := Lib.hid hL
  have HOK := Lib.hid hok
  have HR := Lib.hid hR
  have HP := Lib.hid hp
  clear hL hok hR hp
  have hmk := make_bf es.length (by omega)
  have HB1 := Lib.hid ((Below.refl w.heap.size w).alloc (Nat.le_refl _) (.cells (madeCells #[.bool false] es.length) 4))
  have HF1 : Hid (BF (w.alloc (.cells (madeCells #[.bool false] es.length) 4)) w.heap.size es.length (inU rs es 0)) := Lib.hid ((BF.new w es.length).congr fun i _ => (inU_zero rs es i).symm)
  go_enter Tryz.func9, Tryz.ntmps9
  go_wp2_with fail
  go_loopw [6] (fun t6 wr => ∃ i : Nat, i ≤ es.length ∧ t6 = .int .i64 (i : Int) ∧ Hid (BF wr w.heap.size es.length (inU rs es i)) ∧ Hid (Below w.heap.size w wr)) (fun t6 _ => es.length - (intOf t6).toNat)
  case atStart => exact ⟨0, by omega, rfl, HF1, HB1⟩
  case round =>
    clear HF1 HB1
    obtain ⟨i, hi, rfl, hF, hB⟩ := hrel
    have j0 : (0 : Int) ≤ (i : Int) := by omega
    rcases Nat.lt_or_ge i es.length with hin | hin
    · have i0 : decide ((i : Int) < (es.length : Int)) = true := by rw [decide_eq_true_eq]; omega
      have i1 : (i : Int) < (es.length : Int) := by omega
      obtain ⟨g, o, c1, hvl, c0, _⟩ := (HR.out.below hB.out).at_ hin
      obtain ⟨hA, hcc⟩ : At = some ⟨g, o, none⟩ ∧ ct = c1 := by injection hvl with e1 _ e3; exact ⟨e1, e3⟩
      subst hA hcc
      have hpx := HP.out _ (List.getElem_mem hin)
      have hin2 : inN rs es i = Gl.inB rs es[i] := inN_at hin
      obtain ⟨x, hxe⟩ : ∃ x, es[i] = x := ⟨_, rfl⟩
      rw [hxe] at c0 hpx hin2
      obtain ⟨b, hb⟩ : ∃ b, Hid (Gl.outL rs (Gl.namesL (bl (bs x.path))) = b) := ⟨_, Lib.hid rfl⟩
      have HIN : Hid (inN rs es i = !b) := Lib.hid (by rw [hin2, Gl.inB, ← hb.out, bl_bs])
      have hpz : (bs x.path).size ≤ 2000000 := by rw [bs_size]; omega
      have hL5 := HL.out.below hB.out
      clear hvl hxe hin2
      go_wp2_with fail
      refine (refOut_any rs A c (bs x.path) _ hL5 hz HOK.out hm hpz hb).mono ?_
      rintro e w6 ⟨rfl, b6⟩
      have hF6 := hF.out.below b6 hF.out.lt
      have hB6 := below_of_below hB.out b6 hB.out.size
      have cI := hF6.cell hin
      have fI := hF6.frozen i
      have hF7 := Lib.hid ((hF6.set_ i (!b)).congr (f' := inU rs es (i + 1)) fun j _ => inU_step rs es i (!b) HIN.out j)
      have hB7 := Lib.hid (hB6.setCell (p := ⟨w.heap.size, i, none⟩) (Nat.le_refl _) (.bool (!b)))
      clear hF6 hB6 b6 c0 hL5
      go_wp2_with fail
      go_roundw
      case rel => exact ⟨i + 1, by omega, by go_num, hF7, hB7⟩
      case measure => simp [intOf]; omega
    · have i0 : decide ((i : Int) < (es.length : Int)) = false := by rw [decide_eq_false_iff_not]; omega
      obtain rfl : i = es.length := by omega
      obtain ⟨w3, hw3⟩ : ∃ w3, wr = w3 := ⟨_, rfl⟩
      rw [hw3] at hF hB
      rw [hw3]
      have hfl := hF.out.lt
      clear hw3
      go_wp2_with fail
      go_loopw [7, 8] (fun t7 t8 wr => ∃ (i : Nat) (o : List En), i ≤ es.length ∧ o.length ≤ i ∧ t8 = .int .i64 (i : Int) ∧ Hid ((es.take i).filter (Gl.stayB rs es) = o) ∧ wr.ownsRow w3.heap.size 38 5 t7 o.length (enCs o) ∧ Below w3.heap.size w3 wr) (fun _ t8 _ => es.length - (intOf t8).toNat)
      case atStart => exact ⟨0, [], by omega, by simp, rfl, Lib.hid (by rw [List.take_zero]; rfl), World.ownsRow_nil _ _ _ _, Below.refl _ _⟩
      case round =>
        obtain ⟨i, o, hi, hol, rfl, HK, hown, hBw⟩ := hrel
        obtain ⟨AA, ca, rfl⟩ := ownk_form hown
        have j0 : (0 : Int) ≤ (i : Int) := by omega
        rcases Nat.lt_or_ge i es.length with hin | hin
        · have i0 : decide ((i : Int) < (es.length : Int)) = true := by rw [decide_eq_true_eq]; omega
          have i1 : (i : Int) < (es.length : Int) := by omega
          have hpx := HP.out _ (List.getElem_mem hin)
          have hIn := inU_all (rs := rs) hin
          have hSt := stay_overK rs es es[i]
          have hTk : (es.take (i + 1)).filter (Gl.stayB rs es) = o ++ if Gl.stayB rs es es[i] then [es[i]] else [] := by
            rw [List.take_add_one, List.getElem?_eq_getElem hin, List.filter_append, HK.out]
            congr 1
            rw [Option.toList_some, List.filter_cons]
            rfl
          have hFw := hF.out.below hBw hfl
          have HRw := HR.out.below (below_of_below hB.out hBw hB.out.size)
          obtain ⟨g, oo, c1, hvl, c0, c1', c2, c3, c4, _⟩ := HRw.at_ hin
          obtain ⟨hA, hcc⟩ : At = some ⟨g, oo, none⟩ ∧ ct = c1 := by injection hvl with e1 _ e3; exact ⟨e1, e3⟩
          subst hA hcc
          obtain ⟨x, hxe⟩ : ∃ x, es[i] = x := ⟨_, rfl⟩
          rw [hxe] at c0 c1' c2 c3 c4 hpx hIn hSt hTk
          obtain ⟨bi, hbi⟩ : ∃ b, Gl.inB rs x = b := ⟨_, rfl⟩
          have cI := hFw.cell hin
          rw [hIn, hbi] at cI
          rw [hbi] at hSt
          have HST := Lib.hid hSt
          have HTK := Lib.hid hTk
          have zx : (bs x.path).size ≤ 2000000 := by rw [bs_size]; omega
          have HFw := Lib.hid hFw
          have HRW := Lib.hid HRw
          have C0 := Lib.hid c0
          have C1 := Lib.hid c1'
          have C2 := Lib.hid c2
          have C3 := Lib.hid c3
          have C4 := Lib.hid c4
          have HOWN := Lib.hid hown
          have HBW := Lib.hid hBw
          clear hvl hxe hIn hbi hSt hTk hFw HRw c1' c2 c3 c4 hown hBw
          obtain ⟨wq, hwq⟩ : ∃ wq, wr = wq := ⟨_, rfl⟩
          rw [hwq] at HFw HRW C0 C1 C2 C3 C4 HOWN HBW c0 cI
          rw [hwq]
          clear hwq
          go_wp2_with fail
          go_loopw [9, 10] (fun t9 t10 wv => ∃ (k : Nat) (b : Bool), k ≤ es.length ∧ t10 = .int .i64 (k : Int) ∧ t9 = .bool b ∧ Hid (b = (bi || overK rs es x.path k)) ∧ Below wq.heap.size wq wv) (fun _ t10 _ => es.length - (intOf t10).toNat)
          case atStart => exact ⟨0, bi, by omega, rfl, rfl, Lib.hid (by simp [overK]), Below.refl _ _⟩
          case round =>
            obtain ⟨k, b, hk, rfl, rfl, HB, hBv⟩ := hrel
            have k0 : (0 : Int) ≤ (k : Int) := by omega
            have hgl : g < wq.heap.size := World.block_lt_of_cell? wq _ C0.out
            have hB2 := below_of_below HBW.out hBv HBW.out.size
            have hownv := own_below HOWN.out hBv
            have hbs := hB2.size
            cases b with
            | true =>
              have HS : Hid (Gl.stayB rs es x = true) := Lib.hid (by
                rw [HST.out]
                have h := HB.out.symm
                rw [Bool.or_eq_true] at h
                rcases h with h | h
                · rw [h]; rfl
                · rw [overK_mono h, Bool.or_true])
              have HT2 : Hid ((es.take (i + 1)).filter (Gl.stayB rs es) = o ++ [x]) := Lib.hid (by rw [HTK.out, HS.out]; rfl)
              have d0 := (hBv.cell (p := ⟨g, oo + i * 5, none⟩) hgl).trans C0.out
              have d1 := (hBv.cell (p := ⟨g, oo + i * 5 + 1, none⟩) hgl).trans C1.out
              have d2 := (hBv.cell (p := ⟨g, oo + i * 5 + 2, none⟩) hgl).trans C2.out
              have d3 := (hBv.cell (p := ⟨g, oo + i * 5 + 3, none⟩) hgl).trans C3.out
              have d4 := (hBv.cell (p := ⟨g, oo + i * 5 + 4, none⟩) hgl).trans C4.out
              have el : (o ++ [x]).length = o.length + 1 := by simp
              rcases Nat.lt_or_ge k es.length with hkn | hkn
              · have kk : decide ((k : Int) < (es.length : Int)) = true := by rw [decide_eq_true_eq]; omega
                go_wp2_with (at_builtin; refine wpList_appk rfl _ _ _ rfl entryK _ _ _ _ rfl (hownv.alloc _) _ _ _ _ rfl rfl (news_at _ _ (by simp) _ _) (by simp [Value.oneCell']) (by omega) (by omega) (hB2.alloc hbs _) (by rw [World.size_alloc]; omega) ?_; intro v1 w1 ho1 hb1 hg1 hat1; obtain ⟨B1, q1, rfl⟩ := ownk_form ho1)
                go_roundw
                case rel => exact ⟨i + 1, o ++ [x], by omega, by rw [el]; omega, by go_num, HT2, by rw [el, enCs_snoc]; exact ho1, hb1⟩
                case measure => simp [intOf]; omega
              · have kk : decide ((k : Int) < (es.length : Int)) = false := by rw [decide_eq_false_iff_not]; omega
                have kn : ¬ (k < es.length) := by omega
                go_wp2_with (at_builtin; refine wpList_appk rfl _ _ _ rfl entryK _ _ _ _ rfl (hownv.alloc _) _ _ _ _ rfl rfl (news_at _ _ (by simp) _ _) (by simp [Value.oneCell']) (by omega) (by omega) (hB2.alloc hbs _) (by rw [World.size_alloc]; omega) ?_; intro v1 w1 ho1 hb1 hg1 hat1; obtain ⟨B1, q1, rfl⟩ := ownk_form ho1)
                go_roundw
                case rel => exact ⟨i + 1, o ++ [x], by omega, by rw [el]; omega, by go_num, HT2, by rw [el, enCs_snoc]; exact ho1, hb1⟩
                case measure => simp [intOf]; omega
            | false =>
              have hbf := HB.out
              rcases Nat.lt_or_ge k es.length with hkn | hkn
              · have kk : decide ((k : Int) < (es.length : Int)) = true := by rw [decide_eq_true_eq]; omega
                have kn : (k : Int) < (es.length : Int) := by omega
                have hfw : w.heap.size < wq.heap.size := HFw.out.lt
                have cK := (HFw.out.below hBv hfw).cell hkn
                rw [inU_all hkn] at cK
                obtain ⟨g2, o2, c2', hvl, e0, _⟩ := (HRW.out.below hBv).at_ hkn
                obtain ⟨hA, hcc⟩ : (⟨g, oo, none⟩ : Addr) = ⟨g2, o2, none⟩ ∧ ct = c2' := by injection hvl with e1 _ e3; injection e1 with e1; exact ⟨e1, e3⟩
                injection hA with hA1 hA2
                subst hA1 hA2 hcc
                have d0 := (hBv.cell (p := ⟨g, oo + i * 5, none⟩) hgl).trans C0.out
                have hov := overK_succ (rs := rs) (d := x.path) hkn
                have hpy := HP.out _ (List.getElem_mem hkn)
                obtain ⟨y, hye⟩ : ∃ y, es[k] = y := ⟨_, rfl⟩
                rw [hye] at cK e0 hov hpy
                obtain ⟨bk, hbk⟩ : ∃ b, Gl.inB rs y = b := ⟨_, rfl⟩
                obtain ⟨b2, hb2⟩ : ∃ b, Hid (Gl.belowP (bl (bs x.path)) (bl (bs y.path)) = b) := ⟨_, Lib.hid rfl⟩
                rw [hbk] at cK hov
                have HN : Hid ((bk && b2) = (bi || overK rs es x.path (k + 1))) := Lib.hid (by
                  rw [hov, ← Bool.or_assoc, ← hbf, Bool.false_or, ← hb2.out, bl_bs, bl_bs])
                clear hvl hye hbk hov hbf
                cases bk with
                | false =>
                  go_upto_region 14 with fail
                  go_quiet (fail)
                  go_wp2_with fail
                  go_roundw
                  case rel => exact ⟨k + 1, _, by omega, by go_num, rfl, HN, by first | exact hBv | exact below_drewN hBv _⟩
                  case measure => simp [intOf]; omega
                | true =>
                  go_upto_region 14 with fail
                  go_quiet ((go_at_call 29; exact Calls.quiet_of_same ((below_hid (bs x.path) (bs y.path) _ zx hb2).mono fun _ _ h => ⟨h.1, h.2.symm⟩)))
                  go_wp2_with fail
                  go_roundw
                  case rel => exact ⟨k + 1, _, by omega, by go_num, rfl, HN, by first | exact hBv | exact below_drewN hBv _⟩
                  case measure => simp [intOf]; omega
              · have kk : decide ((k : Int) < (es.length : Int)) = false := by rw [decide_eq_false_iff_not]; omega
                have kn : ¬ (k < es.length) := by omega
                have HT2 : Hid ((es.take (i + 1)).filter (Gl.stayB rs es) = o) := Lib.hid (by
                  have e : k = es.length := by omega
                  rw [e] at hbf
                  rw [HTK.out, HST.out, ← hbf]
                  simp)
                clear hbf
                go_wp2_with fail
                go_roundw
                case rel => exact ⟨i + 1, o, by omega, by omega, by go_num, HT2, hownv, hB2⟩
                case measure => simp [intOf]; omega
        · have i0 : decide ((i : Int) < (es.length : Int)) = false := by rw [decide_eq_false_iff_not]; omega
          obtain rfl : i = es.length := by omega
          have ho : o = out := by rw [← HK.out, List.take_length, ← H.out]; rfl
          subst ho
          have hB9 := below_of_below hB.out hBw hB.out.size
          have hsz := hB.out.size
          go_wp2_with fail
          go_ret
          exact ⟨⟨AA, ca, w3.heap.size, rfl, hsz, hown⟩, hB9⟩
end Go.Proofs.YtdjfakampjbgeaaGreatDoor
