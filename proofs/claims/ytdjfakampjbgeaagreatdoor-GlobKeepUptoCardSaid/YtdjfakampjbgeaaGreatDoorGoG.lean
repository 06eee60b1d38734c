/- strataref02.Meets, Out, walked. -/
import Derived.Test.YtdjfakampjbgeaaGreatDoorGoF
namespace Go.Proofs.YtdjfakampjbgeaaGreatDoor
open Go Go.RowKit

theorem RC.rl {w : World} {S : Nat → Prop} {v : Value} {rs : List Gl.Rl} (h : RC w S v rs.length (rlC rs)) {j : Nat} (hj : j < rs.length) : ∃ g o c, v = .slice (some ⟨g, o, none⟩) rs.length c ∧ w.cell? ⟨g, o + j * 2, none⟩ = some (.bool rs[j].back) ∧ w.cell? ⟨g, o + j * 2 + 1, none⟩ = some (.string (bs rs[j].pat)) := by
  obtain ⟨A, c, rfl, hc⟩ := h
  obtain ⟨e0, e1⟩ := rlC_at rs j hj
  obtain ⟨g, o, rfl, _, d0⟩ := hc _ _ e0
  obtain ⟨g', o', e, _, d⟩ := hc _ _ e1
  injection e with e
  injection e with e2 e3
  subst e2 e3
  exact ⟨g, o, c, rfl, d0, by rw [Nat.add_assoc]; exact d⟩
set_option maxRecDepth 100000 in
set_option maxHeartbeats 4000000 in
theorem meets_any (bk : Bool) (q : List UInt8) (hq : q.length ≤ 2000000) {ps : List Gl.Pc} (HP : Hid (Gl.readL q = some ps)) (p : ByteArray) (hp : p.size ≤ 2000000) (w : World) {b : Bool} (H : Hid (Gl.meetsL ps (Gl.namesL (bl p)) = b)) :
    Calls Tryz.prog 56 #[.agg #[.bool bk, .string (bs q)], .string p] w fun e w' => e = .returned (.bool b) ∧ Below w.heap.size w w' := by
  obtain ⟨ns, hns⟩ : ∃ ns, Hid (Gl.namesL (bl p) = ns) := ⟨_, Lib.hid rfl⟩
  have hnl : ns.length ≤ 2000001 := by have := Gl.namesL_length (bl p); rw [hns.out, bl_length] at this; omega
  have hnx : Hid (∀ x ∈ ns, x.length ≤ 2000000) := Lib.hid fun x hx => by
    rw [← hns.out] at hx
    have := Gl.namesL_piece hx
    rw [bl_length] at this
    omega
  have H2 : Hid (Gl.meetsL ps ns = b) := by show _ = _; rw [← hns.out]; exact H.out
  have HP2 : Hid (Gl.readL (bl (bs q)) = some ps) := by show _ = _; rw [bl_bs]; exact HP.out
  have hqs : (bs q).size ≤ 2000000 := by rw [bs_size]; exact hq
  have hBA := (Below.refl w.heap.size w).alloc (Nat.le_refl _) (.cells #[.bool bk, .string (bs q)] 46)
  have hKA := Blk.new w 46 #[.bool bk, .string (bs q)]
  obtain ⟨wA, hwA⟩ : ∃ wA, w.alloc (.cells #[.bool bk, .string (bs q)] 46) = wA := ⟨_, rfl⟩
  rw [hwA] at hBA hKA
  have c1 : wA.cell? ⟨w.heap.size, 1, none⟩ = some (.string (bs q)) := hKA.cell 1
  have hlt : w.heap.size < wA.heap.size := hKA.lt
  have HWA := Lib.hid hwA
  have HBA := Lib.hid hBA
  clear hwA hBA hKA H HP
  go_enter Tryz.func56, Tryz.ntmps56
  go_upto_region 1 with fail
  rw [HWA.out]
  go_cut [5] (fun s5 wx => ∃ g, s5 = .slice (some ⟨g, 0, none⟩) (ns.length + 1) (ns.length + 1) ∧ BF wx g (ns.length + 1) (reachP ps ns) ∧ Below wA.heap.size wA wx)
  case first =>
    go_region_held3 (fun w' => w'.cell? ⟨w.heap.size, 1, none⟩ = some (.string (bs q))) (exact c1) (first | (go_at_call 40; refine (refNames_pat p hp _ hns).mono ?_; rintro e wN ⟨An, cn, rfl, hQ, hbN⟩; have c1 := (hbN.cell (p := ⟨w.heap.size, 1, none⟩) hlt).trans c1; have BN := below_of_below (by first | exact Below.refl wA.heap.size wA | exact (Below.refl wA.heap.size wA).drew) hbN (by first | exact Nat.le_refl _ | rfl); have hltN : w.heap.size < wN.heap.size := Nat.lt_of_lt_of_le hlt BN.size) | (go_at_call 83; refine (reached_any (bs q) hqs HP2 ns _ _ (S := fun g => wA.heap.size ≤ g ∧ g < wN.heap.size) (by first | exact hQ | exact RC.drew' hQ) hnl hnx).mono ?_; rintro e wR ⟨g, rfl, ⟨_, hG⟩, hbR⟩; have c1 := (hbR.cell (p := ⟨w.heap.size, 1, none⟩) hltN).trans c1; have BR := below_of_below BN hbR BN.size))
    go_wp2_with fail
    go_meet
    exact ⟨_, rfl, hG, BR⟩
  case rest =>
    obtain ⟨g, rfl, hG, bx⟩ := hcut
    have hB := below_of_below HBA.out bx HBA.out.size
    clear bx c1
    go_wp2_with fail
    go_loopw [6] (fun t6 wr => ∃ i : Nat, i ≤ ns.length + 1 ∧ t6 = .int .i64 (i : Int) ∧ Hid (∀ k, k < i → Gl.takesAll ps (ns.take k) = false) ∧ wc = wr) (fun t6 _ => ns.length + 1 - (intOf t6).toNat)
    case atStart => exact ⟨0, by omega, rfl, Lib.hid (fun k hk => by omega), by first | rfl | trivial⟩
    case round =>
      obtain ⟨i, hi, rfl, HN, rfl⟩ := hrel
      have j0 : (0 : Int) ≤ (i : Int) := by omega
      rcases Nat.lt_or_ge ns.length i with hin | hin
      · have k0 : decide ((i : Int) < (ns.length : Int) + 1) = false := by rw [decide_eq_false_iff_not]; omega
        have k0n : decide (i < ns.length + 1) = false := by rw [decide_eq_false_iff_not]; omega
        have hm : Hid (b = false) := by show _ = _; rw [← H2.out]; exact Gl.meets_false fun k hk => HN.out k (by omega)
        clear HN
        go_wp2_with fail
        go_ret
        exact ⟨by rw [hm.out]; rfl, hB⟩
      · have k0 : decide ((i : Int) < (ns.length : Int) + 1) = true := by rw [decide_eq_true_eq]; omega
        have k0n : decide (i < ns.length + 1) = true := by rw [decide_eq_true_eq]; omega
        have k1 : (i : Int) < (ns.length : Int) + 1 := by omega
        have c0 := hG.cell (i := i) (by omega)
        rw [reachP_takes] at c0
        obtain ⟨t, ht⟩ : ∃ t, Gl.takesAll ps (ns.take i) = t := ⟨_, rfl⟩
        rw [ht] at c0
        have HT := Lib.hid ht
        clear ht
        cases t with
        | true =>
          have hm : Hid (b = true) := by show _ = _; rw [← H2.out]; exact Gl.meets_true hin HT.out
          clear HN
          go_wp2_with fail
          go_ret
          exact ⟨by rw [hm.out]; rfl, hB⟩
        | false =>
          have HN2 : Hid (∀ k, k < i + 1 → Gl.takesAll ps (ns.take k) = false) := Lib.hid fun k hk => by
            by_cases h : k = i
            · rw [h]; exact HT.out
            · exact HN.out k (by omega)
          clear HN
          go_wp2_with fail
          go_roundw
          case rel => exact ⟨i + 1, by omega, by go_num, HN2, by first | rfl | trivial⟩
          case measure => simp [intOf]; omega
set_option maxRecDepth 100000 in
set_option maxHeartbeats 4000000 in
theorem refOut_any (rs : List Gl.Rl) (A : Option Addr) (c : Nat) (p : ByteArray) (w : World) {S : Nat → Prop} (hL : RC w S (.slice A rs.length c) rs.length (rlC rs)) (hr : rs.length ≤ 256) {m : Nat} (hok : ∀ r ∈ rs, Gl.RlOk m r) (hm : m ≤ 2000000) (hp : p.size ≤ 2000000) {b : Bool} (H : Hid (Gl.outL rs (Gl.namesL (bl p)) = b)) :
    Calls Tryz.prog 28 #[.slice A rs.length c, .string p] w fun e w' => e = .returned (.bool b) ∧ Below w.heap.size w w' := by
  have HL := Lib.hid hL
  have HOK := Lib.hid hok
  clear hL hok
  obtain ⟨ns, hns⟩ : ∃ ns, Hid (Gl.namesL (bl p) = ns) := ⟨_, Lib.hid rfl⟩
  have H2 : Hid (Gl.outL rs ns = b) := by show _ = _; rw [← hns.out]; exact H.out
  clear H
  go_enter Tryz.func28, Tryz.ntmps28
  go_wp2_with fail
  go_loopw [5, 6] (fun t5 t6 wr => ∃ (i : Nat) (o : Bool), i ≤ rs.length ∧ t5 = .bool o ∧ t6 = .int .i64 (i : Int) ∧ Hid (Gl.outL (rs.take i) ns = o) ∧ Below w.heap.size w wr) (fun _ t6 _ => rs.length - (intOf t6).toNat)
  case atStart => exact ⟨0, false, by omega, rfl, rfl, rfl, Below.refl _ _⟩
  case round =>
    obtain ⟨i, ob, hi, rfl, rfl, HO, hB⟩ := hrel
    have j0 : (0 : Int) ≤ (i : Int) := by omega
    rcases Nat.lt_or_ge i rs.length with hin | hin
    · have i0 : decide ((i : Int) < (rs.length : Int)) = true := by rw [decide_eq_true_eq]; omega
      have i1 : (i : Int) < (rs.length : Int) := by omega
      have hL := HL.out.below hB
      obtain ⟨g, o, c', hvl, c0, c1⟩ := hL.rl hin
      obtain ⟨hA, hcc⟩ : A = some ⟨g, o, none⟩ ∧ c = c' := by injection hvl with e1 _ e3; exact ⟨e1, e3⟩
      subst hA hcc
      have hok := HOK.out _ (List.getElem_mem hin)
      have hql : rs[i].pat.length ≤ 2000000 := Nat.le_trans hok.2 hm
      have HP : Hid (Gl.readL rs[i].pat = some rs[i].ps) := Lib.hid hok.1
      obtain ⟨bk, hbk⟩ : ∃ bk, rs[i].back = bk := ⟨_, rfl⟩
      obtain ⟨q, hq⟩ : ∃ q, rs[i].pat = q := ⟨_, rfl⟩
      obtain ⟨t, ht⟩ : ∃ t, Gl.meetsL rs[i].ps ns = t := ⟨_, rfl⟩
      have hT : Hid (Gl.meetsL rs[i].ps (Gl.namesL (bl p)) = t) := by show _ = _; rw [hns.out]; exact ht
      have HS : Hid (Gl.outL (rs.take (i + 1)) ns = if t then !bk else ob) := by
        show _ = _
        rw [Gl.outL_take hin, ht, hbk, HO.out]
      rw [hbk] at c0
      rw [hq] at c1 hql HP
      have hlt : g < wr.heap.size := World.block_lt_of_cell? wr _ c0
      have HC0 := Lib.hid c0
      have HB := Lib.hid hB
      clear hvl hL hok hbk hq ht HO hB
      cases t with
      | true =>
        go_wp2_with fail
        refine (meets_any bk q hql HP p hp _ hT).mono ?_
        rintro e w2 ⟨rfl, b2⟩
        have c0 := (b2.cell (p := ⟨g, o + i * 2, none⟩) hlt).trans HC0.out
        have hB2 := below_of_below HB.out b2 HB.out.size
        clear b2 c1
        go_wp2_with fail
        go_roundw
        case rel => exact ⟨i + 1, !bk, by omega, by first | rfl | (cases bk <;> rfl), by go_num, HS, hB2⟩
        case measure => simp [intOf]; omega
      | false =>
        go_wp2_with fail
        refine (meets_any bk q hql HP p hp _ hT).mono ?_
        rintro e w2 ⟨rfl, b2⟩
        have hB2 := below_of_below HB.out b2 HB.out.size
        clear b2 c1 c0
        go_wp2_with fail
        go_roundw
        case rel => exact ⟨i + 1, ob, by omega, rfl, by go_num, HS, hB2⟩
        case measure => simp [intOf]; omega
    · have i0 : decide ((i : Int) < (rs.length : Int)) = false := by rw [decide_eq_false_iff_not]; omega
      have hR : Hid (ob = b) := by show _ = _; rw [← HO.out, List.take_of_length_le hin, H2.out]
      clear HO
      go_wp2_with fail
      go_ret
      exact ⟨by rw [hR.out]; rfl, hB⟩
end Go.Proofs.YtdjfakampjbgeaaGreatDoor
