/- stratalaw14.LexRemarks: the law. -/
import Derived.Test.YtpgnfianffjpnaaGreatDoorLyB
import Derived.Test.YtpgnfianffjpnaaGreatDoorLyG
import Derived.Test.YtpgnfianffjpnaaGreatDoorPick
namespace Go.Proofs.YtpgnfianffjpnaaGreatDoor
open Go Go.RowKit
namespace Lx
theorem dirI_ge {x : Bs} : (0 ≤ dirI x) ↔ (dirP x).isSome = true := by
  unfold dirI
  cases h : dirP x with
  | none => simp
  | some p =>
    have := dir_le h
    simp
    omega
/-- the first i lines, one more put in ahead of line p. -/
def insL (p : Nat) (mo : Bs) (L : List Bs) (i : Nat) : List Bs := if p < i then L.take p ++ mo :: (L.take i).drop p else L.take i
theorem ins_lt {p i : Nat} {mo : Bs} {L : List Bs} (h : i < p) (hi : i < L.length) : insL p mo L (i + 1) = insL p mo L i ++ [L[i]] := by
  rw [insL, insL, if_neg (by omega), if_neg (by omega), List.take_succ_eq_append_getElem hi]
theorem ins_eq {i : Nat} {mo : Bs} {L : List Bs} (hi : i < L.length) : insL i mo L (i + 1) = (insL i mo L i ++ [mo]) ++ [L[i]] := by
  rw [insL, insL, if_pos (by omega), if_neg (by omega), List.take_succ_eq_append_getElem hi, List.drop_append_of_le_length (by rw [List.length_take]; omega), List.drop_eq_nil_of_le (by rw [List.length_take]; omega)]
  simp
theorem ins_gt {p i : Nat} {mo : Bs} {L : List Bs} (h : p < i) (hi : i < L.length) : insL p mo L (i + 1) = insL p mo L i ++ [L[i]] := by
  rw [insL, insL, if_pos (by omega), if_pos h, List.take_succ_eq_append_getElem hi, List.drop_append_of_le_length (by rw [List.length_take]; omega)]
  simp
theorem ins_end {p : Nat} {mo : Bs} {L : List Bs} (h : p < L.length) : insL p mo L L.length = L.take p ++ mo :: L.drop p := by
  rw [insL, if_pos h, List.take_length]
theorem ins_end2 {mo : Bs} {L : List Bs} : insL L.length mo L L.length ++ [mo] = L.take L.length ++ mo :: L.drop L.length := by
  rw [insL, if_neg (by omega), List.drop_length]
theorem ins_len {p i : Nat} {mo : Bs} {L : List Bs} (hi : i ≤ L.length) : (insL p mo L i).length ≤ i + 1 := by
  rw [insL]
  split
  · simp; omega
  · rw [List.length_take]; omega
end Lx
theorem mo_facts (mo : List UInt8) (h : mo = [32, 32, 35, 32, 110, 111, 116, 101, 92] ∨ mo = [32, 9]) : Lx.nothingL mo = true ∧ Lx.dirP mo = none ∧ (∀ c ∈ mo, c ≠ 10) ∧ Lx.cr mo = mo ∧ Lx.V mo 0 = true ∧ mo.length ≤ 10 := by
  rcases h with rfl | rfl <;> exact ⟨by decide, by decide, by decide, by decide, by decide, by decide⟩
set_option maxRecDepth 100000 in
set_option maxHeartbeats 4000000 in
theorem lawRemarks (s : List UInt8) (at_ : Int) (em : Bool) (w : World) (hs : s.length ≤ 1100000) (ha1 : -9223372036854775808 ≤ at_) (ha2 : at_ ≤ 9223372036854775807) (hT : Tabs w) (hv : ErrVar w) (hm : Maxl w) :
    Calls Tryz.prog 5 #[.string (bs s), .int .i64 at_, .bool em] w fun e w' => e = .returned (.bool true) ∧ Below w.heap.size w w' := by
  have HE := Lib.hid (Env.mk hT hv hm)
  have HZ := Lib.hid (bs_size s)
  clear hT hv hm
  obtain ⟨L, hL⟩ : ∃ L, Hid (Lx.fileL s = L) := ⟨_, Lib.hid rfl⟩
  obtain ⟨N, hN⟩ : ∃ N, L.length = N := ⟨_, rfl⟩
  have hNle : N ≤ 1100001 := by have := Lx.fileL_count s; rw [hL.out, hN] at this; omega
  have hxl : ∀ x ∈ L, x.length ≤ 1100000 := fun x hx => by rw [← hL.out] at hx; have := Lx.fileL_len hx; omega
  have HXL := Lib.hid hxl
  have HN := Lib.hid hN
  clear hN hxl
  go_enter Tryz.func5, Tryz.ntmps5
  go_wp2_with fail
  refine (cut14_any s (by omega) _ hL).mono ?_
  rintro e w1 ⟨⟨A, c, rfl, hown⟩, p1⟩
  have HLS := Lib.hid (Ls.own hown)
  have HP1 := Lib.hid p1
  have HE1 := Lib.hid (HE.out.new p1)
  rw [HN.out]
  clear hown p1
  have HS0 : Hid (∀ x ∈ L.take 0, (Lx.dirP x).isSome = true) := Lib.hid fun x hx => by simp at hx
  go_wp2_with fail
  go_loopw [8] (fun t8 wr => ∃ n : Nat, n ≤ N ∧ t8 = .int .i64 (n : Int) ∧ Hid (∀ x ∈ L.take n, (Lx.dirP x).isSome = true) ∧ Hid (Below w1.heap.size w1 wr)) (fun t8 _ => N - (intOf t8).toNat)
  case atStart => exact ⟨0, by omega, rfl, HS0, Lib.hid (Below.refl _ _)⟩
  case round =>
    clear HS0
    rename World => wr
    obtain ⟨n, hn, rfl, HS, HB⟩ := hrel
    have j0 : (0 : Int) ≤ (n : Int) := by omega
    obtain ⟨q, hq⟩ : ∃ q, Hid (((L[n]?).any fun x => (Lx.dirP x).isSome) = q) := ⟨_, Lib.hid rfl⟩
    go_upto_region 3 with fail
    go_cut [31] (fun s31 wx => s31 = .bool q ∧ Hid (Below w1.heap.size w1 wx))
    case first =>
      rcases Nat.lt_or_ge n N with hin | hin
      · have i0 : decide ((n : Int) < (N : Int)) = true := by rw [decide_eq_true_eq]; omega
        have i1 : (n : Int) < (N : Int) := by omega
        have hiL : n < L.length := by rw [HN.out]; exact hin
        obtain ⟨g, rfl, hg, hcell⟩ := (HLS.out.below HB.out (Nat.le_refl _)) (by omega)
        obtain ⟨x, hx⟩ : ∃ x, L[n] = x := ⟨_, rfl⟩
        have hxi : L[n]? = some x := by rw [List.getElem?_eq_getElem hiL, hx]
        have hci := hcell n x hxi
        have hxx : x.length ≤ 2000000 := by have := HXL.out x (by rw [← hx]; exact List.getElem_mem hiL); omega
        obtain ⟨v, hvv⟩ : ∃ v, Hid (Lx.dirI x = v) := ⟨_, Lib.hid rfl⟩
        obtain ⟨y, hy⟩ : ∃ y, decide ((0 : Int) ≤ v) = y := ⟨_, rfl⟩
        have HY : Hid (y = q) := by
          show _ = _
          rw [← hy, ← hq.out, hxi, Option.any_some, ← hvv.out, Bool.eq_iff_iff, decide_eq_true_eq]
          exact Lx.dirI_ge
        clear hcell hxi hx hiL
        cases y <;> (
          go_wp2_with fail
          refine (directive14_any x hxx _ hvv).mono ?_
          rintro e w2 ⟨rfl, b2⟩
          have HB2 := Lib.hid (below_of_below HB.out b2 HB.out.size)
          go_wp2_with fail
          go_meet
          exact ⟨by rw [← HY.out], HB2⟩)
      · have i0 : decide ((n : Int) < (N : Int)) = false := by rw [decide_eq_false_iff_not]; omega
        have HF : Hid (q = false) := by show _ = _; rw [← hq.out, List.getElem?_eq_none (by rw [HN.out]; exact hin)]; rfl
        go_wp2_with fail
        go_meet
        exact ⟨by rw [HF.out], HB⟩
    case rest =>
      rename World => w2
      obtain ⟨rfl, HB2⟩ := hcut
      clear HB
      cases q with
      | true =>
        have hnN : n < N := by
          rcases Nat.lt_or_ge n N with h | h
          · exact h
          · have := hq.out
            rw [List.getElem?_eq_none (by rw [HN.out]; exact h)] at this
            cases this
        have HS2 : Hid (∀ x ∈ L.take (n + 1), (Lx.dirP x).isSome = true) := Lib.hid fun x hx => by
          have hiL : n < L.length := by rw [HN.out]; exact hnN
          rw [List.take_succ_eq_append_getElem hiL] at hx
          rcases List.mem_append.1 hx with hx | hx
          · exact HS.out x hx
          · rw [List.mem_singleton] at hx
            have := hq.out
            rw [List.getElem?_eq_getElem hiL, Option.any_some, ← hx] at this
            exact this
        clear hq HS
        go_wp2_with fail
        go_roundw
        case rel => exact ⟨n + 1, by omega, by go_num, HS2, HB2⟩
        case measure => simp [intOf]; omega
      | false =>
        have HEN := Lib.hid (HE1.out.new HB2.out)
        have HPN := Lib.hid (below_of_below HP1.out HB2.out HP1.out.size)
        have HLS2 := Lib.hid (HLS.out.below HB2.out (Nat.le_refl _))
        clear HB2 HLS
        obtain ⟨RES, hRES⟩ : ∃ R, Hid (Lx.linesL s = R) := ⟨_, Lib.hid rfl⟩
        cases RES with
        | inl z =>
          go_wp2_with fail
          refine (lines_call s (by omega) _ HEN.out hRES).mono ?_
          rintro e w3 ⟨hA, p3⟩
          have hr := lns_err hA
          subst hr
          have HE3 := Lib.hid (HEN.out.new p3)
          have HP3 := Lib.hid (below_of_below HPN.out p3 HPN.out.size)
          clear hA p3
          go_wp2_with fail
          refine (works_call _ HE3.out).mono ?_
          rintro e w4 ⟨rfl, p4⟩
          go_wp2_with fail
          go_ret
          exact ⟨by first | rfl | trivial, below_of_below HP3.out p4 HP3.out.size⟩
        | inr el =>
          obtain ⟨ee, ls⟩ := el
          go_wp2_with fail
          refine (lines_call s (by omega) _ HEN.out hRES).mono ?_
          rintro e w3 ⟨hA, p3⟩
          obtain ⟨A3, c3, hr, hLL⟩ := lns_ok hA
          subst hr
          have HE3 := Lib.hid (HEN.out.new p3)
          have HP3 := Lib.hid (below_of_below HPN.out p3 HPN.out.size)
          have HLS3 := Lib.hid (HLS2.out.below p3 (Nat.le_refl _))
          have HLL := Lib.hid hLL
          obtain ⟨K, hK⟩ : ∃ K, ls.length = K := ⟨_, rfl⟩
          have HK := Lib.hid hK
          rw [hK]
          clear hA p3 hLL HLS2 hK
          obtain ⟨b1, e1⟩ : ∃ b, decide ((60000 : Int) < ((bs s).size : Int)) = b := ⟨_, rfl⟩
          obtain ⟨b2, e2⟩ : ∃ b, decide ((4000 : Int) < (N : Int)) = b := ⟨_, rfl⟩
          cases b1 with
          | true =>
            go_wp2_with fail
            refine (works_call _ HE3.out).mono ?_
            rintro e w4 ⟨rfl, p4⟩
            go_wp2_with fail
            go_ret
            exact ⟨by first | rfl | trivial, below_of_below HP3.out p4 HP3.out.size⟩
          | false =>
            have hs6 : s.length ≤ 60000 := by rw [decide_eq_false_iff_not] at e1; have := HZ.out; omega
            rcases Nat.lt_or_ge 4000 N with hN4 | hN4
            · obtain rfl : b2 = true := by rw [← e2, decide_eq_true_eq]; omega
              go_wp2_with fail
              refine (works_call _ HE3.out).mono ?_
              rintro e w4 ⟨rfl, p4⟩
              go_wp2_with fail
              go_ret
              exact ⟨by first | rfl | trivial, below_of_below HP3.out p4 HP3.out.size⟩
            · obtain rfl : b2 = false := by rw [← e2, decide_eq_false_iff_not]; omega
              have hm1 : (1 : Int) ≤ (N : Int) - (n : Int) + 1 := by omega
              have hm2 : (N : Int) - (n : Int) + 1 ≤ 1000000000 := by omega
              have hw1 : IntKind.i64.wrap ((N : Int) - (n : Int)) = (N : Int) - (n : Int) := IntWalk.i64_in _ (by omega)
              have hw2 : IntKind.i64.wrap ((N : Int) - (n : Int) + 1) = (N : Int) - (n : Int) + 1 := IntWalk.i64_in _ (by omega)
              obtain ⟨pk, hpk⟩ : ∃ p, pick at_ ((N : Int) - (n : Int) + 1) = p := ⟨_, rfl⟩
              obtain ⟨hp1, hp2⟩ := pick_range at_ ((N : Int) - (n : Int) + 1) hm1
              rw [hpk] at hp1 hp2
              have HPK := Lib.hid hpk
              clear hpk
              go_wp2_with fail
              refine (pick_any at_ ((N : Int) - (n : Int) + 1) hm2 hm1 ha1 ha2 _).mono ?_
              rintro e w4 ⟨rfl, rfl⟩
              rw [HPK.out]
              obtain ⟨p, hp⟩ : ∃ p : Nat, (n : Int) + pk = (p : Int) := ⟨((n : Int) + pk).toNat, by omega⟩
              have hw3 : IntKind.i64.wrap ((n : Int) + pk) = (p : Int) := by rw [IntWalk.i64_in _ (by omega)]; exact hp
              have hpN : p ≤ N := by omega
              have hnp : n ≤ p := by omega
              have HBD := Lib.hid (lines_bound hRES.out)
              go_upto_region 9 with fail
              try rw [hp]
              clear hp hw1 hw2 hw3 hp1 hp2 hm1 hm2
              go_wp2_with fail
              have hcall := within_any w3 (ls := ls) (v := .slice A3 K c3) (by have := HLL.out; rw [HK.out] at this; exact this) HBD.out.2 HBD.out.1 (Af := A) (cf := c) hpN (by omega)
              refine hcall.mono ?_
              rintro e w5 ⟨⟨b, rfl, hb⟩, rfl⟩
              cases b with
              | true =>
                clear hb hcall
                go_wp2_with fail
                refine (works_call _ HE3.out).mono ?_
                rintro e w4 ⟨rfl, p4⟩
                go_wp2_with fail
                go_ret
                exact ⟨by first | rfl | trivial, below_of_below HP3.out p4 HP3.out.size⟩
              | false =>
                have HIN := Lib.hid (hb rfl)
                clear hb hcall
                obtain ⟨mo, hmo⟩ : ∃ mo : List UInt8, (if em then [32, 9] else [32, 32, 35, 32, 110, 111, 116, 101, 92]) = mo := ⟨_, rfl⟩
                have hmf := mo_facts mo (by rw [← hmo]; cases em <;> simp)
                have HMO := Lib.hid hmo
                have HMF := Lib.hid hmf
                clear hmo hmf
                go_upto_if 67 with fail
                go_cut [12] (fun s12 wx => s12 = .string (bs mo) ∧ w3 = wx)
                case first =>
                  cases em with
                  | true =>
                    have HMV : Hid (bs mo = ⟨#[32, 9]⟩) := by show _ = _; rw [← HMO.out]; rfl
                    go_wp2_with fail
                    go_meet
                    exact ⟨by rw [HMV.out], by first | rfl | trivial⟩
                  | false =>
                    have HMV : Hid (bs mo = ⟨#[32, 32, 35, 32, 110, 111, 116, 101, 92]⟩) := by show _ = _; rw [← HMO.out]; rfl
                    go_wp2_with fail
                    go_meet
                    exact ⟨by rw [HMV.out], by first | rfl | trivial⟩
                case rest =>
                  obtain ⟨rfl, rfl⟩ := hcut
                  -- what the law says of the file with the line put in
                  have HLAW : Hid (∃ ls', Lx.linesL (Lx.fileOf (L.take p ++ mo :: L.drop p)) = .inr (ee, ls') ∧ ls.map Lx.lk = ls'.map Lx.lk) := by
                    obtain ⟨f1, f2, f3, f4, f5, f6⟩ := HMF.out
                    have hpl : (L.take p).length = p := by rw [List.length_take, HN.out]; omega
                    refine Lib.hid (Lx.remark_lines hRES.out hs6 (by rw [hL.out, HN.out]; exact hN4) f1 f2 f3 f4 f5 f6 (by rw [hL.out, List.take_append_drop]) (fun k hk => ?_) (by rw [hpl]; exact HIN.out))
                    rw [hpl]
                    refine Nat.le_trans ?_ hnp
                    rw [hL.out] at hk
                    rcases Nat.lt_or_ge n k with h | h
                    · exfalso
                      have hqf := hq.out
                      rcases Lx.dirs_is hk with ⟨rfl, _⟩ | ⟨rfl, x, r, p2, hx, hpx, _⟩
                      · omega
                      · obtain rfl : n = 0 := by omega
                        rw [hx] at hqf
                        simp [hpx] at hqf
                    · exact h
                  obtain ⟨G, hG⟩ : ∃ G, L.take p ++ mo :: L.drop p = G := ⟨_, rfl⟩
                  rw [hG] at HLAW
                  have hGl : (Lx.fileOf G).length ≤ 1000000 := by
                    have htot := Lx.tot_file s
                    have h6 := HMF.out.2.2.2.2.2
                    rw [hL.out] at htot
                    rw [← hG, Lx.fileOf_len, Lx.tot_app, Lx.tot_cons]
                    have h7 : Lx.tot L = Lx.tot (L.take p) + Lx.tot (L.drop p) := by rw [← Lx.tot_app, List.take_append_drop]
                    rw [List.length_append, List.length_cons, List.length_take, List.length_drop, HN.out]
                    omega
                  have HG := Lib.hid hG
                  have HGL := Lib.hid hGl
                  have hbm := bs_size mo
                  clear hG hGl HIN HBD HMO hbm
                  have HI0 : Hid ([] = Lx.insL p mo L 0) := Lib.hid (by unfold Lx.insL; simp)
                  go_wp2_with fail
                  go_loopw [13, 14] (fun t13 t14 wr => ∃ (i : Nat) (out : List (List UInt8)), i ≤ N ∧ t14 = .int .i64 (i : Int) ∧ Hid (out = Lx.insL p mo L i) ∧ out.length ≤ i + 1 ∧ wr.ownsRow w3.heap.size 9 1 t13 out.length (sc out) ∧ Below w3.heap.size w3 wr) (fun _ t14 _ => N - (intOf t14).toNat)
                  case atStart => exact ⟨0, [], by omega, rfl, HI0, by simp, World.ownsRow_nil _ _ _ _, Below.refl _ _⟩
                  case round =>
                    clear HI0
                    rename World => wq
                    obtain ⟨i, out, hi, rfl, HO, hol, hown, hB⟩ := hrel
                    obtain ⟨AA, cc, rfl⟩ := own_form hown
                    have hbs := hB.size
                    have j0 : (0 : Int) ≤ (i : Int) := by omega
                    rcases Nat.lt_or_ge i N with hin | hin
                    · have i0 : decide ((i : Int) < (N : Int)) = true := by rw [decide_eq_true_eq]; omega
                      have i1 : (i : Int) < (N : Int) := by omega
                      have hiL : i < L.length := by rw [HN.out]; exact hin
                      have hls0 := HLS3.out
                      obtain ⟨g, rfl, hg, hcell0⟩ := hls0 (by omega)
                      obtain ⟨x, hx⟩ : ∃ x, L[i] = x := ⟨_, rfl⟩
                      have hxi : L[i]? = some x := by rw [List.getElem?_eq_getElem hiL, hx]
                      have hci0 := hcell0 i x hxi
                      have hci : wq.cell? ⟨g, i, none⟩ = some (.string (bs x)) := by rw [← hci0]; exact hB.cell (p := ⟨g, i, none⟩) hg
                      by_cases hip : i = p
                      · subst hip
                        have t1 : ((i : Int) == (i : Int)) = true := by simp
                        have HO2 : Hid ((out ++ [mo]) ++ [x] = Lx.insL i mo L (i + 1)) := by show _ = _; rw [Lx.ins_eq hiL, HO.out, hx]
                        have holi : out.length ≤ i := by
                          rw [HO.out, Lx.insL, if_neg (by omega), List.length_take]
                          exact Nat.min_le_left _ _
                        clear hcell0 hxi hx hiL HO
                        go_upto_region 20 with (at_builtin; refine wpList_app rfl _ _ _ rfl strK _ _ _ _ rfl (hown.alloc _) _ _ _ _ rfl rfl (news_alloc _ _ _) (one_of_all rfl) (by omega) (by omega) (hB.alloc hbs _) (by simp; omega) ?_; intro v1 w5 hown1 hb1 hg1 hat1)
                        have hown1' : w5.ownsRow w3.heap.size 9 1 v1 (out ++ [mo]).length (sc (out ++ [mo])) := by rw [sc_append, List.length_append]; exact hown1
                        obtain ⟨A5, c5, rfl⟩ := own_form hown1'
                        have hol1 : (out ++ [mo]).length ≤ i + 1 := by rw [List.length_append, List.length_singleton]; omega
                        obtain ⟨o1, ho1⟩ : ∃ o1, out ++ [mo] = o1 := ⟨_, rfl⟩
                        rw [ho1] at HO2 hown1' hol1
                        try rw [ho1]
                        have hci5 : w5.cell? ⟨g, i, none⟩ = some (.string (bs x)) := by rw [← hci0]; exact hb1.cell (p := ⟨g, i, none⟩) hg
                        have hbs1 := hb1.size
                        clear hown1 hg1 hat1 hown hB hbs hci ho1
                        go_wp2_with (at_builtin; refine wpList_app rfl _ _ _ rfl strK _ _ _ _ rfl (hown1'.alloc _) _ _ _ _ rfl rfl (news_alloc _ _ _) (one_of_all rfl) (by omega) (by omega) (hb1.alloc hbs1 _) (by simp; omega) ?_; intro v2 w6 hown2 hb2 hg2 hat2)
                        go_roundw
                        case rel => exact ⟨i + 1, o1 ++ [x], by omega, by go_num, HO2, by rw [List.length_append, List.length_singleton]; omega, by rw [sc_append, List.length_append]; exact hown2, hb2⟩
                        case measure => simp [intOf]; omega
                      · have t1 : ((i : Int) == (p : Int)) = false := by rw [beq_eq_false_iff_ne]; omega
                        have t2 : (i == p) = false := by rw [beq_eq_false_iff_ne]; omega
                        have HO2 : Hid (out ++ [x] = Lx.insL p mo L (i + 1)) := by
                          show _ = _
                          rcases Nat.lt_or_ge i p with h | h
                          · rw [Lx.ins_lt h hiL, HO.out, hx]
                          · rw [Lx.ins_gt (by omega) hiL, HO.out, hx]
                        clear hcell0 hxi hx hiL HO
                        have hol2 : (out ++ [x]).length ≤ i + 1 + 1 := by rw [List.length_append, List.length_singleton]; omega
                        go_wp2_with (at_builtin; refine wpList_app rfl _ _ _ rfl strK _ _ _ _ rfl (hown.alloc _) _ _ _ _ rfl rfl (news_alloc _ _ _) (one_of_all rfl) (by omega) (by omega) (hB.alloc hbs _) (by simp; omega) ?_; intro v1 w5 hown1 hb1 hg1 hat1)
                        go_roundw
                        case rel => exact ⟨i + 1, out ++ [x], by omega, by go_num, HO2, hol2, by rw [sc_append, List.length_append]; exact hown1, hb1⟩
                        case measure => simp [intOf]; omega
                    · have i0 : decide ((i : Int) < (N : Int)) = false := by rw [decide_eq_false_iff_not]; omega
                      obtain rfl : i = N := by omega
                      obtain ⟨q2, hq2⟩ : ∃ q2, decide (p = i) = q2 := ⟨_, rfl⟩
                      have HQ2 := Lib.hid hq2
                      clear hq2
                      go_upto_region 21 with fail
                      go_cut [91] (fun s91 wx => s91 = .bool q2 ∧ wq = wx)
                      case first =>
                        by_cases hpi : p = i
                        · have HF : Hid (q2 = true) := by show _ = _; rw [← HQ2.out, decide_eq_true_eq]; exact hpi
                          have t1 : ((p : Int) == (i : Int)) = true := by rw [hpi]; simp
                          have t2 : (p == i) = true := by rw [hpi]; simp
                          clear hpi
                          go_wp2_with fail
                          go_meet
                          exact ⟨by rw [HF.out], by first | rfl | trivial⟩
                        · have HF : Hid (q2 = false) := by show _ = _; rw [← HQ2.out, decide_eq_false_iff_not]; exact hpi
                          have t1 : ((p : Int) == (i : Int)) = false := by rw [beq_eq_false_iff_ne]; omega
                          have t2 : (p == i) = false := by rw [beq_eq_false_iff_ne]; exact hpi
                          go_wp2_with fail
                          go_meet
                          exact ⟨by rw [HF.out], by first | rfl | trivial⟩
                      case rest =>
                        obtain ⟨rfl, rfl⟩ := hcut
                        go_upto_if 91 with fail
                        go_cut [13] (fun s13 wx => ∃ A c, s13 = .slice A G.length c ∧ wx.ownsRow w3.heap.size 9 1 (.slice A G.length c) G.length (sc G) ∧ Hid (Below w3.heap.size w3 wx))
                        case first =>
                          cases q2 with
                          | true =>
                            have hpi := of_decide_eq_true HQ2.out
                            have HO2 : Hid (out ++ [mo] = G) := by
                              show _ = _
                              rw [HO.out, ← HG.out, hpi, ← HN.out]
                              exact Lx.ins_end2
                            clear hpi
                            go_wp2_with (at_builtin; refine wpList_app rfl _ _ _ rfl strK _ _ _ _ rfl (hown.alloc _) _ _ _ _ rfl rfl (news_alloc _ _ _) (one_of_all rfl) (by omega) (by omega) (hB.alloc hbs _) (by simp; omega) ?_; intro v1 w5 hown1 hb1 hg1 hat1)
                            have hown1' : w5.ownsRow w3.heap.size 9 1 v1 (out ++ [mo]).length (sc (out ++ [mo])) := by rw [sc_append, List.length_append]; exact hown1
                            rw [HO2.out] at hown1'
                            obtain ⟨A5, c5, rfl⟩ := own_form hown1'
                            go_meet
                            exact ⟨A5, c5, by first | rfl | trivial, hown1', Lib.hid hb1⟩
                          | false =>
                            have hpi := of_decide_eq_false HQ2.out
                            have HO2 : Hid (out = G) := by
                              show _ = _
                              rw [HO.out, ← HG.out, ← HN.out]
                              exact Lx.ins_end (by rw [HN.out]; omega)
                            rw [HO2.out] at hown
                            rw [HO2.out]
                            go_wp2_with fail
                            go_meet
                            exact ⟨AA, cc, by first | rfl | trivial, hown, Lib.hid hB⟩
                        case rest =>
                          rename World => w6
                          obtain ⟨A6, c6, rfl, hown6, HB6⟩ := hcut
                          have HG6 := Lib.hid (Ls.own hown6)
                          have HE6 := Lib.hid (HE3.out.new HB6.out)
                          have HP6 := Lib.hid (below_of_below HP3.out HB6.out HP3.out.size)
                          have HL6 := Lib.hid (HLL.out.new HB6.out)
                          obtain ⟨ls', hl', hal⟩ := HLAW.out
                          have HL' := Lib.hid hl'
                          have HAL := Lib.hid hal
                          clear hown hown6 hB hbs HO HQ2 hl' hal HLAW HLL
                          obtain ⟨T, hT⟩ : ∃ T, Hid (Lx.fileOf G = T) := ⟨_, Lib.hid rfl⟩
                          go_wp2_with fail
                          refine (file_any w6 HG6.out HGL.out hT).mono ?_
                          rintro e w7 ⟨rfl, rfl⟩
                          rw [hT.out] at HL'
                          have hTl : T.length ≤ 2000000 := by rw [← hT.out]; have := HGL.out; omega
                          go_wp2_with fail
                          refine (lines_call T hTl _ HE6.out HL').mono ?_
                          rintro e w7 ⟨hA, p7⟩
                          obtain ⟨A7, c7, hr, hL7⟩ := lns_ok hA
                          subst hr
                          have HE7 := Lib.hid (HE6.out.new p7)
                          have HP7 := Lib.hid (below_of_below HP6.out p7 HP6.out.size)
                          have HA7 := Lib.hid (HL6.out.new p7)
                          have HB7 := Lib.hid hL7
                          have HBD := Lib.hid (lines_bound hRES.out)
                          have heb : ee.toNat < 256 := UInt8.toNat_lt _
                          clear hA p7 hL7
                          go_wp2_with fail
                          have hcall := alike_any w7 (va := .slice A3 K c3) (vb := .slice A7 ls'.length c7) (by have := HA7.out; rw [HK.out] at this; exact this) HB7.out HAL.out HBD.out.1 (fun l hl => (HBD.out.2 l hl).2)
                          refine hcall.mono ?_
                          rintro e w8 ⟨rfl, p8⟩
                          have HE8 := Lib.hid (HE7.out.new p8)
                          have HP8 := Lib.hid (below_of_below HP7.out p8 HP7.out.size)
                          clear p8 hcall
                          go_wp2_with fail
                          refine (works_call _ HE8.out).mono ?_
                          rintro e w9 ⟨rfl, p9⟩
                          go_wp2_with fail
                          go_ret
                          exact ⟨by first | rfl | trivial, below_of_below HP8.out p9 HP8.out.size⟩
end Go.Proofs.YtpgnfianffjpnaaGreatDoor
