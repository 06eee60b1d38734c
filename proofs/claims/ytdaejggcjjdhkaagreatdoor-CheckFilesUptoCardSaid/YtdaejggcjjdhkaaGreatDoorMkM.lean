/- strataref18: pairs, Opens, words, walked. -/
import Derived.Test.YtdaejggcjjdhkaaGreatDoorMkJ
import Derived.Test.YtdaejggcjjdhkaaGreatDoorCkRi
import Derived.Test.YtdaejggcjjdhkaaGreatDoorMkB
import Derived.Test.YtdaejggcjjdhkaaGreatDoorMkC
import Derived.Deep.DeepCutAuto
namespace Go.Proofs.YtdaejggcjjdhkaaGreatDoor
open Go Go.RowKit
set_option maxRecDepth 100000 in
set_option maxHeartbeats 2000000 in
theorem pairs18_any (m : SM) (w : World) (hok : m.Ok w) (hn : m.s.words.length + m.s.exec.length + m.s.pairs.length + m.s.docs.length ≤ 1050000) (hL : ∀ t ∈ Ck.textsL m.s, t.length ≤ 1050000) (e : UInt8) {x : Nat} (H : Hid (Ck.pairsL m.s.op e m.s.pairs = x)) : Calls Tryz.prog 85 #[.agg #[.int .i64 m.s.op, .int .i64 m.s.line, .string (bs m.s.from_), .string (bs m.s.mode), .bool m.s.force, m.vp, .bool m.s.bare, m.vw, m.vd, m.ve], .int .u8 (e.toNat : Int)] w fun r w' => r = .returned (.int .i64 (x : Int)) ∧ Below w.heap.size w w' := by
  obtain ⟨s, vp, vw, vd, ve⟩ := m
  have hcp : SlA w vp s.pairs.length (prC s.pairs) := hok.cp
  have hcw : SlA w vw s.words.length (sc s.words) := hok.cw
  have hcd : SlA w vd s.docs.length (doC s.docs) := hok.cd
  have hce : SlA w ve s.exec.length (sc s.exec) := hok.ce
  dsimp only at hn hL H ⊢
  clear hok
  obtain ⟨Ap, kp, rfl⟩ := hcp.form
  obtain ⟨Aw, kw, rfl⟩ := hcw.form
  obtain ⟨Ad, kd, rfl⟩ := hcd.form
  obtain ⟨Ae, ke, rfl⟩ := hce.form
  have hal := (Below.refl w.heap.size w).alloc (Nat.le_refl _) (.cells #[.int .i64 s.op, .int .i64 s.line, .string (bs s.from_), .string (bs s.mode), .bool s.force, .slice Ap s.pairs.length kp, .bool s.bare, .slice Aw s.words.length kw, .slice Ad s.docs.length kd, .slice Ae s.exec.length ke] 41)
  have hk := Blk.new w 41 #[.int .i64 s.op, .int .i64 s.line, .string (bs s.from_), .string (bs s.mode), .bool s.force, .slice Ap s.pairs.length kp, .bool s.bare, .slice Aw s.words.length kw, .slice Ad s.docs.length kd, .slice Ae s.exec.length ke]
  obtain ⟨w1, hw1⟩ : ∃ x, w.alloc (.cells #[.int .i64 s.op, .int .i64 s.line, .string (bs s.from_), .string (bs s.mode), .bool s.force, .slice Ap s.pairs.length kp, .bool s.bare, .slice Aw s.words.length kw, .slice Ad s.docs.length kd, .slice Ae s.exec.length ke] 41) = x := ⟨_, rfl⟩
  rw [hw1] at hal hk
  have HW1 := Lib.hid hw1
  have HAL := Lib.hid hal
  have HK := Lib.hid hk
  have HP1 := Lib.hid (hcp.new hal)
  have HV1 := Lib.hid (hcw.new hal)
  have HD1 := Lib.hid (hcd.new hal)
  have HE1 := Lib.hid (hce.new hal)
  have HL := Lib.hid hL
  clear hw1 hal hk hcp hcw hcd hce hL
  obtain ⟨x3, e3⟩ : ∃ b, (s.op == 3) = b := ⟨_, rfl⟩
  have e3n : (s.op != 3) = !x3 := by rw [bne, e3]
  have heb : e.toNat < 256 := UInt8.toNat_lt _
  have H0 : Hid (Ck.pairsL s.op e (s.pairs.drop 0) = x) := Lib.hid (by rw [List.drop_zero]; exact H.out)
  have HLK : Hid (∀ p ∈ s.pairs, p.key.length ≤ 1050000 ∧ p.val.length ≤ 1050000) := Lib.hid (fun p hp => ⟨HL.out _ (by simp only [Ck.textsL, List.mem_append, List.mem_flatMap]; exact .inl (.inr ⟨p, hp, by simp⟩)), HL.out _ (by simp only [Ck.textsL, List.mem_append, List.mem_flatMap]; exact .inl (.inr ⟨p, hp, by simp⟩))⟩)
  have hpn : s.pairs.length ≤ 1050000 := by omega
  clear H HL
  go_enter Tryz.func85, Tryz.ntmps85
  go_upto_region 1 with fail
  rw [HW1.out]
  clear HW1
  go_wp2_with fail
  go_loopw [5] (fun t5 wr => ∃ i : Nat, i ≤ s.pairs.length ∧ t5 = .int .i64 (i : Int) ∧ Hid (Ck.pairsL s.op e (s.pairs.drop i) = x) ∧ Hid (Below w1.heap.size w1 wr)) (fun t5 _ => s.pairs.length - (intOf t5).toNat)
  case atStart => exact ⟨0, by omega, rfl, H0, Lib.hid (Below.refl _ _)⟩
  case round =>
    clear H0
    rename World => wr
    obtain ⟨i, hi, rfl, HR, HB⟩ := hrel
    have j0 : (0 : Int) ≤ (i : Int) := by omega
    have HKr := Lib.hid (HK.out.below HB.out HK.out.lt)
    have b0 : wr.cell? ⟨w.heap.size, 0, none⟩ = some (Value.int .i64 s.op) := HKr.out.cell 0
    have b5 : wr.cell? ⟨w.heap.size, 5, none⟩ = some (Value.slice Ap s.pairs.length kp) := HKr.out.cell 5
    have HBW := Lib.hid (below_of_below HAL.out HB.out HAL.out.size)
    rcases Nat.lt_or_ge i s.pairs.length with hin | hin
    · have i0 : decide ((i : Int) < (s.pairs.length : Int)) = true := by rw [decide_eq_true_eq]; omega
      have i1 : (i : Int) < (s.pairs.length : Int) := by omega
      obtain ⟨g, o, c, hv, c0, c1⟩ := pr_at (HP1.out.new HB.out) hin
      injection hv with hA _ hcc
      subst hA hcc
      have hR := HR.out
      rw [List.drop_eq_getElem_cons hin] at hR
      have hlk := HLK.out _ (List.getElem_mem hin)
      obtain ⟨P, hP⟩ : ∃ P, s.pairs[i] = P := ⟨_, rfl⟩
      rw [hP] at hR c0 c1 hlk
      obtain ⟨key, val⟩ := P
      dsimp only at c0 c1 hlk
      obtain ⟨hkl, hvl⟩ := hlk
      obtain ⟨lb, hlb⟩ : ∃ b, Hid (Ck.labelR key = b) := ⟨_, Lib.hid rfl⟩
      obtain ⟨vb, hvb⟩ : ∃ b, Hid (Ck.varR key = b) := ⟨_, Lib.hid rfl⟩
      obtain ⟨n, hn2⟩ : ∃ n, Hid (Ck.wordL e val = n) := ⟨_, Lib.hid rfl⟩
      obtain ⟨bad, hbad⟩ : ∃ b, Hid ((x3 && !lb || !x3 && !vb) = b) := ⟨_, Lib.hid rfl⟩
      have HR2 : Hid (x = if bad then 8 else if n ≠ 0 then n else Ck.pairsL s.op e (s.pairs.drop (i + 1))) := Lib.hid (by
        rw [← hR]
        show (if (if s.op = 3 then Ck.labelR key else Ck.varR key) = false then 8 else if Ck.wordL e val ≠ 0 then Ck.wordL e val else Ck.pairsL s.op e (s.pairs.drop (i + 1))) = _
        rw [hlb.out, hvb.out, hn2.out, ← hbad.out]
        cases x3 with
        | true => rw [if_pos (beq_iff_eq.1 e3)]; cases lb <;> rfl
        | false => rw [if_neg (beq_eq_false_iff_ne.1 e3)]; cases vb <;> rfl)
      clear hR hP HR
      go_upto_region 5 with fail
      go_cut [38] from 21 to 37 (fun sy wx => sy = .bool bad ∧ wr = wx)
      case first =>
        as_aux_lemma =>
        cases x3 with
        | true =>
          go_wp2_with fail
          refine (label18_any key (by omega) wr hlb).mono ?_
          rintro a wv ⟨rfl, rfl⟩
          cases lb <;> (
            go_wp2_with fail
            go_meet
            exact ⟨by rw [← hbad.out]; rfl, by first | rfl | trivial⟩)
        | false =>
          go_wp2_with fail
          refine (variable18_any key (by omega) wr hvb).mono ?_
          rintro a wv ⟨rfl, rfl⟩
          cases vb <;> (
            go_wp2_with fail
            go_meet
            exact ⟨by rw [← hbad.out]; rfl, by first | rfl | trivial⟩)
      case rest =>
        obtain ⟨rfl, rfl⟩ := hcut
        clear hbad
        cases bad with
        | true =>
          go_wp2_with fail
          go_ret
          exact ⟨by rw [HR2.out]; rfl, HBW.out⟩
        | false =>
          have HWD := Lib.hid (word18_any val (by omega) e wr hn2)
          go_wp2_with fail
          refine HWD.out.mono ?_
          rintro a w5 ⟨rfl, hb5⟩
          have HB5 := Lib.hid (HB.out.trans (hb5.mono HB.out.size))
          have HBW5 := Lib.hid (below_of_below HBW.out hb5 HBW.out.size)
          clear hb5 HWD c0 c1 b0 b5
          rcases Nat.eq_zero_or_pos n with hn0 | hn0
          · subst hn0
            go_wp2_with fail
            go_roundw
            case rel => exact ⟨i + 1, by omega, by go_num, Lib.hid (by rw [HR2.out]; rfl), HB5⟩
            case measure => simp [intOf]; omega
          · have k0 : ((n : Int) == 0) = false := by rw [beq_eq_false_iff_ne]; omega
            have k1 : (n == 0) = false := by rw [beq_eq_false_iff_ne]; omega
            have k2 : ((n : Int) != 0) = true := by rw [bne, k0]; rfl
            have HF : Hid (x = n) := Lib.hid (by rw [HR2.out]; show (if n ≠ 0 then n else _) = n; rw [if_pos (by omega)])
            go_wp2_with fail
            go_ret
            exact ⟨by rw [HF.out]; rfl, HBW5.out⟩
    · have i0 : decide ((i : Int) < (s.pairs.length : Int)) = false := by rw [decide_eq_false_iff_not]; omega
      have e0n : decide (i < s.pairs.length) = false := by rw [decide_eq_false_iff_not]; omega
      have HF : Hid (x = 0) := Lib.hid (by rw [← HR.out, List.drop_eq_nil_of_le hin]; rfl)
      go_wp2_with fail
      go_ret
      exact ⟨by rw [HF.out]; rfl, HBW.out⟩
end Go.Proofs.YtdaejggcjjdhkaaGreatDoor
namespace Go.Proofs.YtdaejggcjjdhkaaGreatDoor
open Go Go.RowKit
/-- may it stand in a document's name? -/
def opC (c : UInt8) : Bool := Ex.letter c || Ck.digit c
theorem opOk_is (t : List UInt8) : Ck.opOk t = (t.all opC && (decide (1 ≤ t.length) && decide (t.length ≤ 96))) := by
  have e1 : ∀ d : UInt8, (Ck.small d || Ck.digit d || true && Ck.big d || ([95] : List UInt8).contains d) = opC d := fun d => by
    rw [Ck.has1]
    unfold opC Ex.letter
    cases Ck.small d <;> cases Ck.digit d <;> cases Ck.big d <;> cases (d == 95) <;> rfl
  unfold Ck.opOk Ck.ofL
  rw [show (fun d : UInt8 => Ck.small d || Ck.digit d || true && Ck.big d || ([95] : List UInt8).contains d) = opC from funext e1]
  have e2 : (!t.isEmpty) = decide (1 ≤ t.length) := by cases t <;> simp
  rw [← e2]
  cases t.all opC <;> cases t.isEmpty <;> cases decide (t.length ≤ 96) <;> rfl
theorem open_at {s : List UInt8} (h : Ck.opening s = true) : 2 ≤ s.length ∧ s.take 2 = [60, 60] := by
  unfold Ck.opening at h
  rw [beq_iff_eq] at h
  have := congrArg List.length h
  rw [List.length_take] at this
  exact ⟨by have e : ([60, 60] : List UInt8).length = 2 := rfl; omega, h⟩
set_option maxRecDepth 100000 in
set_option maxHeartbeats 2000000 in
theorem opens18_any (s : List UInt8) (hs : s.length ≤ 2000000) (ho : Ck.opening s = true) (w : World) {t : List UInt8} {q ok : Bool} (HT : Hid (Ck.opT (Ck.opU (s.drop 2)) = t)) (HQ : Hid (Ck.opQ (Ck.opU (s.drop 2)) = q)) (HO : Hid (Ck.opOk t = ok)) :
    Calls Tryz.prog 126 #[.string (bs s)] w fun r w' => (∃ t' q', r = .returned (.tuple #[.string (bs t'), .bool q', .bool ok]) ∧ (ok = true → t' = t ∧ q' = q)) ∧ Below w.heap.size w w' := by
  obtain ⟨h2, h3⟩ := open_at ho
  obtain ⟨v, hv⟩ : ∃ v, s.drop 2 = v := ⟨_, rfl⟩
  obtain ⟨u, hu⟩ : ∃ u, Ck.opU v = u := ⟨_, rfl⟩
  rw [hv, hu] at HT HQ
  have hvl : v.length + 2 = s.length := by rw [← hv, List.length_drop]; omega
  have hul : u.length ≤ v.length := by
    rw [← hu, Ck.opU]; split
    · rw [List.length_drop]; omega
    · omega
  have hzs : (bs s).size = s.length := bs_size s
  have hzv : (bs v).size = v.length := bs_size v
  have HZU : Hid ((bs u).size = u.length) := Lib.hid (bs_size u)
  have i0 : decide (((bs s).size : Int) < 2) = false := by rw [decide_eq_false_iff_not]; omega
  have i0n : decide ((bs s).size < 2) = false := by rw [decide_eq_false_iff_not]; omega
  have s1 : ∀ wx, (Instr.slice 9 (.string (bs s)) none (some (.int .i64 2)) none).run Tryz.prog wx = .ok (.string (bs [60, 60])) wx := by
    have := slice_to s 2 2 rfl h2
    rwa [h3] at this
  have s2 : ∀ wx, (Instr.slice 9 (.string (bs s)) (some (.int .i64 2)) none none).run Tryz.prog wx = .ok (.string (bs v)) wx := by
    have := slice_from s 2 2 rfl h2
    rwa [hv] at this
  have hzs2 : (bs s).size ≤ 2000000 := by omega
  have HZV := Lib.hid hzv
  have e60 : ((bs [60, 60]).toList == [60, 60]) = true := by rw [bs_list]; rfl
  clear ho h3 hv hzs hzv
  go_enter Tryz.func126, Tryz.ntmps126
  go_upto_region 4 with fail
  have hzv := HZV.out
  clear i0 i0n s1 s2 hzs2 HZV e60
  obtain ⟨zv, ezv⟩ : ∃ b, (bs v).toList.isEmpty = b := ⟨_, rfl⟩
  obtain ⟨da, hda⟩ : ∃ b, Hid (decide (v.head? = some 45) = b) := ⟨_, Lib.hid rfl⟩
  go_cut [23] from 17 to 22 (fun sy wx => sy = .bool da ∧ w = wx)
  case first =>
    as_aux_lemma =>
    cases v with
    | nil =>
      have hzz : zv = true := by rw [← ezv, bs_list]; rfl
      subst hzz
      have HF : Hid (da = false) := Lib.hid (by rw [← hda.out]; rfl)
      go_wp2_with fail
      go_meet
      exact ⟨by rw [HF.out], by first | rfl | trivial⟩
    | cons c r =>
      have hzz : zv = false := by rw [← ezv, bs_list]; rfl
      subst hzz
      have q1 : 0 < (bs (c :: r)).size := by rw [hzv]; simp
      have q2 : (0 : Int) < ((bs (c :: r)).size : Int) := by omega
      have q3 : (bs (c :: r))[0]'q1 = c := by have := bs_at (c :: r) 0 q1; exact (Option.some.inj this).symm
      have hcb : c.toNat < 256 := UInt8.toNat_lt _
      obtain ⟨x, ex⟩ : ∃ x, ((c.toNat : Int) == 45) = x := ⟨_, rfl⟩
      have HF : Hid (da = x) := Lib.hid (by
        rw [← hda.out, ← ex, show (45 : Int) = (((45 : UInt8).toNat : Nat) : Int) from rfl, eq_int']
        rw [List.head?_cons, Bool.eq_iff_iff, decide_eq_true_eq, beq_iff_eq]
        exact ⟨fun h => Option.some.inj h, fun h => congrArg _ h⟩)
      clear hzv
      cases x <;> (
        go_wp2_with fail
        go_meet
        exact ⟨by rw [HF.out], by first | rfl | trivial⟩)
  case rest =>
    obtain ⟨rfl, rfl⟩ := hcut
    go_upto_if 23 with fail
    go_cut [0] from 24 to 25 (fun sy wx => sy = .string (bs u) ∧ w = wx)
    case first =>
      as_aux_lemma =>
      cases da with
      | true =>
        have hd := of_decide_eq_true hda.out
        have hul2 : v.drop 1 = u := by rw [← hu, Ck.opU, if_pos hd]
        have hv1 : 1 ≤ v.length := by
          cases v with
          | nil => cases hd
          | cons _ _ => simp
        have s1 : ∀ wx, (Instr.slice 9 (.string (bs v)) (some (.int .i64 1)) none none).run Tryz.prog wx = .ok (.string (bs u)) wx := by
          have := slice_from v 1 1 rfl hv1
          rwa [hul2] at this
        have hz1 : (1 : Int) ≤ ((bs v).size : Int) := by omega
        clear hzv
        go_wp2_with fail
        go_meet
        exact ⟨rfl, by first | rfl | trivial⟩
      | false =>
        have hd := of_decide_eq_false hda.out
        have hul2 : v = u := by rw [← hu, Ck.opU, if_neg hd]
        go_wp2_with fail
        go_meet
        exact ⟨by rw [← hul2], by first | rfl | trivial⟩
    case rest =>
      obtain ⟨rfl, rfl⟩ := hcut
      clear ezv hda hu hzv
      have hul9 : u.length ≤ 2000000 := by omega
      clear hul hvl
      go_upto_region 6 with fail
      go_cut [5] from 26 to 48 (fun s31 wx => s31 = .bool q ∧ ∃ n, w.drewN n = wx)
      case first =>
        rcases Nat.lt_or_ge u.length 2 with h2 | h2
        · have n0 : decide ((2 : Int) ≤ ((bs u).size : Int)) = false := by have := HZU.out; rw [decide_eq_false_iff_not]; omega
          have HF : Hid (q = false) := Lib.hid (by rw [← HQ.out, Ck.opQ, decide_eq_false (by omega)]; rfl)
          go_quiet (fail)
          go_wp2_with fail
          go_meet
          exact ⟨by rw [HF.out], _, rfl⟩
        · obtain ⟨m, hm⟩ : ∃ m, u.length = m + 1 := ⟨u.length - 1, by omega⟩
          have n0 : decide ((2 : Int) ≤ ((bs u).size : Int)) = true := by have := HZU.out; rw [decide_eq_true_eq]; omega
          have n1 : 0 < (bs u).size := by have := HZU.out; omega
          have n2 : (0 : Int) < ((bs u).size : Int) := by omega
          have z3 : IntKind.i64.wrap (((bs u).size : Int) - 1) = (m : Int) := by have := HZU.out; rw [IntWalk.i64_in _ (by omega)]; omega
          have z4 : m < (bs u).size := by have := HZU.out; omega
          have z5 : (m : Int) < ((bs u).size : Int) := by omega
          have z6 : (0 : Int) ≤ (m : Int) := by omega
          obtain ⟨c, hc⟩ : ∃ c, (bs u)[0]'n1 = c := ⟨_, rfl⟩
          obtain ⟨d, hd⟩ : ∃ d, (bs u)[m]'z4 = d := ⟨_, rfl⟩
          have hcb : c.toNat < 256 := UInt8.toNat_lt _
          have hdb : d.toNat < 256 := UInt8.toNat_lt _
          obtain ⟨x1, e1⟩ : ∃ x, ((c.toNat : Int) == 34) = x := ⟨_, rfl⟩
          obtain ⟨x2, e2⟩ : ∃ x, ((c.toNat : Int) == 39) = x := ⟨_, rfl⟩
          obtain ⟨x3, e3⟩ : ∃ x, ((d.toNat : Int) == (c.toNat : Int)) = x := ⟨_, rfl⟩
          have HF : Hid (q = ((x1 || x2) && x3)) := Lib.hid (by
            have a1 : (c == 34) = x1 := by rw [← e1, show (34 : Int) = (((34 : UInt8).toNat : Nat) : Int) from rfl, eq_int']
            have a2 : (c == 39) = x2 := by rw [← e2, show (39 : Int) = (((39 : UInt8).toNat : Nat) : Int) from rfl, eq_int']
            have a3 : (d == c) = x3 := by rw [← e3, eq_int']
            have h0 : u.head? = some c := by rw [List.head?_eq_getElem?]; exact (bs_at u 0 n1).trans (by rw [hc])
            have hl : u.getLast? = some d := by rw [List.getLast?_eq_getElem?, hm, Nat.add_sub_cancel]; exact (bs_at u m z4).trans (by rw [hd])
            have so : ∀ a b : UInt8, (some a == some b) = (a == b) := fun a b => rfl
            rw [← HQ.out, Ck.opQ, decide_eq_true h2, h0, hl, so, so, so, a1, a2, a3, Bool.true_and])
          cases x1 <;> cases x2 <;> cases x3 <;> (
            go_quiet (fail)
            go_wp2_with fail
            go_meet
            exact ⟨by rw [HF.out]; rfl, _, rfl⟩)
      case rest =>
        obtain ⟨rfl, nq, rfl⟩ := hcut
        have htl : t.length ≤ u.length := by
          rw [← HT.out, Ck.opT]
          split
          · rw [List.length_dropLast, List.length_drop]; omega
          · omega
        go_upto_if 49 with fail
        go_cut [0] from 50 to 54 (fun sy wx => sy = .string (bs t) ∧ w.drewN nq = wx)
        case first =>
          as_aux_lemma =>
          cases q with
          | false =>
            have ht : u = t := by have := HT.out; rw [Ck.opT, HQ.out] at this; exact this
            go_wp2_with fail
            go_meet
            exact ⟨by rw [ht], by first | rfl | trivial⟩
          | true =>
            have hu2 : 2 ≤ u.length := by
              have h := HQ.out
              rw [Ck.opQ, Bool.and_eq_true, Bool.and_eq_true, decide_eq_true_eq] at h
              exact h.1.1
            have ht : (u.drop 1).dropLast = t := by have := HT.out; rw [Ck.opT, HQ.out] at this; exact this
            obtain ⟨m, hm⟩ : ∃ m, u.length = m + 1 := ⟨u.length - 1, by omega⟩
            have z3 : IntKind.i64.wrap (((bs u).size : Int) - 1) = (m : Int) := by have := HZU.out; rw [IntWalk.i64_in _ (by omega)]; omega
            have sl : ∀ wx, (Instr.slice 9 (.string (bs u)) (some (.int .i64 1)) (some (.int .i64 (m : Int))) none).run Tryz.prog wx = .ok (.string (bs t)) wx := by
              have h := slice_lit (bs u) 1 m 1 (m : Int) rfl rfl (by omega) (by rw [bs_size]; omega)
              rw [ext_bs, bl_bs] at h
              have e4 : (u.drop 1).take (m - 1) = t := by
                rw [← ht, List.dropLast_eq_take, List.length_drop, hm, Nat.add_sub_cancel]
              rw [e4] at h
              exact h
            clear ht
            go_wp2_with fail
            go_meet
            exact ⟨rfl, by first | rfl | trivial⟩
        case rest =>
          obtain ⟨rfl, rfl⟩ := hcut
          have htl2 : t.length ≤ 2000000 := by omega
          have HOK : Hid (ok = (t.all opC && (decide (1 ≤ t.length) && decide (t.length ≤ 96)))) := Lib.hid (by rw [← HO.out, opOk_is])
          have hzt : (bs t).size = t.length := bs_size t
          have HZT := Lib.hid hzt
          have hzt2 : (bs t).size ≤ 2000000 := by omega
          have H0 : Hid ((t.take 0).all opC = true) := Lib.hid rfl
          have HB := Lib.hid (below_drewN (Below.refl w.heap.size w) nq)
          obtain ⟨w2, hw2⟩ : ∃ y, w.drewN nq = y := ⟨_, rfl⟩
          rw [hw2] at HB
          rw [hw2]
          clear hw2 hzt HT HQ HO HZU htl h2 hul9
          go_wp2_with fail
          go_loopw [6] (fun t6 wr => ∃ i : Nat, i ≤ t.length ∧ t6 = .int .i64 (i : Int) ∧ Hid ((t.take i).all opC = true) ∧ w2 = wr) (fun t6 _ => t.length - (intOf t6).toNat)
          case atStart => exact ⟨0, by omega, rfl, H0, by first | rfl | trivial⟩
          case round =>
            clear H0
            obtain ⟨i, hi, rfl, HR, rfl⟩ := hrel
            have j0 : (0 : Int) ≤ (i : Int) := by omega
            rcases Nat.lt_or_ge i t.length with hin | hin
            · have hin2 : i < (bs t).size := by rw [HZT.out]; exact hin
              have i0 : decide ((i : Int) < ((bs t).size : Int)) = true := by rw [decide_eq_true_eq]; omega
              have i1 : (i : Int) < ((bs t).size : Int) := by omega
              obtain ⟨c, hc⟩ : ∃ c, (bs t)[i]'hin2 = c := ⟨_, rfl⟩
              have HC : Hid (t[i]? = some c) := Lib.hid (by rw [bs_at t i hin2, hc])
              have hcb : c.toNat < 256 := UInt8.toNat_lt _
              have HSN : Hid ((t.take (i + 1)).all opC = ((t.take i).all opC && opC c)) := Lib.hid (by
                rw [List.take_add_one, HC.out, List.all_append]; simp)
              obtain ⟨bl, hbl⟩ : ∃ b, Hid ((Ck.small c || Ck.big c) = b) := ⟨_, Lib.hid rfl⟩
              obtain ⟨bd, hbd⟩ : ∃ b, Hid (Ck.digit c = b) := ⟨_, Lib.hid rfl⟩
              obtain ⟨bu, ebu⟩ : ∃ b, ((c.toNat : Int) == 95) = b := ⟨_, rfl⟩
              have ebn : ((c.toNat : Int) != 95) = !bu := by rw [bne, ebu]
              have HY : Hid (opC c = (bl || bu || bd)) := Lib.hid (by
                have a1 : (c == 95) = bu := by rw [← ebu, show (95 : Int) = (((95 : UInt8).toNat : Nat) : Int) from rfl, eq_int']
                rw [opC, Ex.letter, hbl.out, hbd.out, a1])
              obtain ⟨bad, hbad⟩ : ∃ b, Hid ((!bl && !bd && !bu) = b) := ⟨_, Lib.hid rfl⟩
              have HYB : Hid (opC c = !bad) := Lib.hid (by rw [HY.out, ← hbad.out]; cases bl <;> cases bd <;> cases bu <;> rfl)
              go_upto_region 12 with fail
              go_cut [78] from 61 to 77 (fun sy wx => sy = .bool bad ∧ w2 = wx)
              case first =>
                as_aux_lemma =>
                go_wp2_with fail
                refine (letter18_any c w2 hbl).mono ?_
                rintro a wv ⟨rfl, rfl⟩
                cases bl with
                | true =>
                  go_wp2_with fail
                  go_meet
                  exact ⟨by rw [← hbad.out]; rfl, by first | rfl | trivial⟩
                | false =>
                  go_wp2_with fail
                  refine (digit18_any c w2 hbd).mono ?_
                  rintro a wv ⟨rfl, rfl⟩
                  cases bd with
                  | true =>
                    go_wp2_with fail
                    go_meet
                    exact ⟨by rw [← hbad.out]; rfl, by first | rfl | trivial⟩
                  | false =>
                    cases bu <;> (
                      go_wp2_with fail
                      go_meet
                      exact ⟨by rw [← hbad.out]; rfl, by first | rfl | trivial⟩)
              case rest =>
                obtain ⟨rfl, rfl⟩ := hcut
                cases bad with
                | true =>
                  have HF : Hid (ok = false) := Lib.hid (by
                    rw [HOK.out]
                    have : t.all opC = false := by
                      rw [← Bool.not_eq_true, List.all_eq_true]
                      intro h
                      have h1 := h c (List.mem_of_getElem? HC.out)
                      rw [HYB.out] at h1
                      cases h1
                    rw [this]; rfl)
                  go_wp2_with fail
                  go_ret3
                  exact ⟨⟨[], false, by rw [HF.out]; rfl, fun h => by rw [HF.out] at h; cases h⟩, HB.out⟩
                | false =>
                  go_wp2_with fail
                  go_roundw
                  case rel => exact ⟨i + 1, by omega, by go_num, Lib.hid (by rw [HSN.out, HR.out, HYB.out]; rfl), by first | rfl | trivial⟩
                  case measure => simp [intOf]; omega
            · have i0 : decide ((i : Int) < ((bs t).size : Int)) = false := by rw [decide_eq_false_iff_not]; have := HZT.out; omega
              have e0n : decide (i < (bs t).size) = false := by rw [decide_eq_false_iff_not]; have := HZT.out; omega
              obtain ⟨k1, e1⟩ : ∃ b, decide (1 ≤ t.length) = b := ⟨_, rfl⟩
              obtain ⟨k2, e2⟩ : ∃ b, decide (t.length ≤ 96) = b := ⟨_, rfl⟩
              have f1 : decide ((1 : Int) ≤ ((bs t).size : Int)) = k1 := by rw [← e1, decide_eq_decide]; have := HZT.out; omega
              have f2 : decide (((bs t).size : Int) ≤ 96) = k2 := by rw [← e2, decide_eq_decide]; have := HZT.out; omega
              have f1n : decide (1 ≤ (bs t).size) = k1 := by rw [← e1, decide_eq_decide]; have := HZT.out; omega
              have f2n : decide ((bs t).size ≤ 96) = k2 := by rw [← e2, decide_eq_decide]; have := HZT.out; omega
              have HF : Hid (ok = (k1 && k2)) := Lib.hid (by
                rw [HOK.out, ← e1, ← e2]
                have h := HR.out
                rw [List.take_of_length_le hin] at h
                rw [h, Bool.true_and])
              clear e1 e2
              cases k1 <;> cases k2 <;> (
                go_wp2_with fail
                go_ret3
                exact ⟨⟨t, q, by rw [HF.out]; rfl, fun _ => ⟨rfl, rfl⟩⟩, HB.out⟩)
end Go.Proofs.YtdaejggcjjdhkaaGreatDoor
namespace Go.Proofs.YtdaejggcjjdhkaaGreatDoor
open Go Go.RowKit
set_option maxRecDepth 100000 in
set_option maxHeartbeats 4000000 in
theorem words18_any (m : SM) (w : World) (hok : m.Ok w) (hn : m.s.words.length + m.s.exec.length + m.s.pairs.length + m.s.docs.length ≤ 1050000) (hL : ∀ t ∈ Ck.textsL m.s, t.length ≤ 1050000) (e : UInt8) {x : Nat} (H : Hid (Ck.bodyL m.s e = x)) : Calls Tryz.prog 86 #[.agg #[.int .i64 m.s.op, .int .i64 m.s.line, .string (bs m.s.from_), .string (bs m.s.mode), .bool m.s.force, m.vp, .bool m.s.bare, m.vw, m.vd, m.ve], .int .u8 (e.toNat : Int)] w fun r w' => r = .returned (.int .i64 (x : Int)) ∧ Below w.heap.size w w' := by
  obtain ⟨s, vp, vw, vd, ve⟩ := m
  have hcp : SlA w vp s.pairs.length (prC s.pairs) := hok.cp
  have hcw : SlA w vw s.words.length (sc s.words) := hok.cw
  have hcd : SlA w vd s.docs.length (doC s.docs) := hok.cd
  have hce : SlA w ve s.exec.length (sc s.exec) := hok.ce
  dsimp only at hn hL H ⊢
  clear hok
  obtain ⟨Ap, kp, rfl⟩ := hcp.form
  obtain ⟨Aw, kw, rfl⟩ := hcw.form
  obtain ⟨Ad, kd, rfl⟩ := hcd.form
  obtain ⟨Ae, ke, rfl⟩ := hce.form
  have hal := (Below.refl w.heap.size w).alloc (Nat.le_refl _) (.cells #[.int .i64 s.op, .int .i64 s.line, .string (bs s.from_), .string (bs s.mode), .bool s.force, .slice Ap s.pairs.length kp, .bool s.bare, .slice Aw s.words.length kw, .slice Ad s.docs.length kd, .slice Ae s.exec.length ke] 41)
  have hk := Blk.new w 41 #[.int .i64 s.op, .int .i64 s.line, .string (bs s.from_), .string (bs s.mode), .bool s.force, .slice Ap s.pairs.length kp, .bool s.bare, .slice Aw s.words.length kw, .slice Ad s.docs.length kd, .slice Ae s.exec.length ke]
  obtain ⟨w1, hw1⟩ : ∃ x, w.alloc (.cells #[.int .i64 s.op, .int .i64 s.line, .string (bs s.from_), .string (bs s.mode), .bool s.force, .slice Ap s.pairs.length kp, .bool s.bare, .slice Aw s.words.length kw, .slice Ad s.docs.length kd, .slice Ae s.exec.length ke] 41) = x := ⟨_, rfl⟩
  rw [hw1] at hal hk
  have HW1 := Lib.hid hw1
  have HAL := Lib.hid hal
  have HK := Lib.hid hk
  have HP1 := Lib.hid (hcp.new hal)
  have HV1 := Lib.hid (hcw.new hal)
  have HD1 := Lib.hid (hcd.new hal)
  have HE1 := Lib.hid (hce.new hal)
  have HL := Lib.hid hL
  clear hw1 hal hk hcp hcw hcd hce hL
  obtain ⟨x5, e5⟩ : ∃ b, (s.op == 5) = b := ⟨_, rfl⟩
  have e5n : (s.op != 5) = !x5 := by rw [bne, e5]
  have heb : e.toNat < 256 := UInt8.toNat_lt _
  have H0 : Hid (x = Ck.bodyW e s.docs (Ck.wordsL s.op e (s.words.drop 0) (s.docs.drop 0))) := Lib.hid (by rw [List.drop_zero, List.drop_zero, ← H.out, Ck.bodyL_eq])
  have HLW : Hid (∀ p ∈ s.words, p.length ≤ 1050000) := Lib.hid (fun p hp => HL.out _ (by simp only [Ck.textsL, List.mem_append]; exact .inl (.inl (.inl (.inr hp)))))
  have HLD : Hid (∀ d ∈ s.docs, d.name.length ≤ 1050000 ∧ d.text.length ≤ 1050000) := Lib.hid (fun p hp => ⟨HL.out _ (by simp only [Ck.textsL, List.mem_append, List.mem_flatMap]; exact .inr ⟨p, hp, by simp⟩), HL.out _ (by simp only [Ck.textsL, List.mem_append, List.mem_flatMap]; exact .inr ⟨p, hp, by simp⟩)⟩)
  have hwn : s.words.length ≤ 1050000 := by omega
  have hdn : s.docs.length ≤ 1050000 := by omega
  clear H HL
  go_enter Tryz.func86, Tryz.ntmps86
  go_upto_region 1 with fail
  rw [HW1.out]
  clear HW1
  go_wp2_with fail
  go_loopw [5, 6] (fun t5 t6 wr => ∃ i j : Nat, i ≤ s.words.length ∧ j ≤ s.docs.length ∧ t5 = .int .i64 (j : Int) ∧ t6 = .int .i64 (i : Int) ∧ Hid (x = Ck.bodyW e s.docs (Ck.wordsL s.op e (s.words.drop i) (s.docs.drop j))) ∧ Hid (Below w1.heap.size w1 wr)) (fun _ t6 _ => s.words.length - (intOf t6).toNat)
  case atStart => exact ⟨0, 0, by omega, by omega, rfl, rfl, H0, Lib.hid (Below.refl _ _)⟩
  case round =>
    clear H0
    rename World => wr
    obtain ⟨i, j, hi, hj, rfl, rfl, HR, HB⟩ := hrel
    have j0 : (0 : Int) ≤ (i : Int) := by omega
    have j1 : (0 : Int) ≤ (j : Int) := by omega
    have HKr := Lib.hid (HK.out.below HB.out HK.out.lt)
    have b0 : wr.cell? ⟨w.heap.size, 0, none⟩ = some (Value.int .i64 s.op) := HKr.out.cell 0
    have b7 : wr.cell? ⟨w.heap.size, 7, none⟩ = some (Value.slice Aw s.words.length kw) := HKr.out.cell 7
    have b8 : wr.cell? ⟨w.heap.size, 8, none⟩ = some (Value.slice Ad s.docs.length kd) := HKr.out.cell 8
    have HBW := Lib.hid (below_of_below HAL.out HB.out HAL.out.size)
    rcases Nat.lt_or_ge i s.words.length with hin | hin
    · have i0 : decide ((i : Int) < (s.words.length : Int)) = true := by rw [decide_eq_true_eq]; omega
      have i1 : (i : Int) < (s.words.length : Int) := by omega
      obtain ⟨g, o, c, hv, c0⟩ := sc_at (HV1.out.new HB.out) hin
      injection hv with hA _ hcc
      subst hA hcc
      have hR := HR.out
      rw [List.drop_eq_getElem_cons hin] at hR
      have hwl := HLW.out _ (List.getElem_mem hin)
      obtain ⟨wd, hwd⟩ : ∃ P, s.words[i] = P := ⟨_, rfl⟩
      rw [hwd] at hR c0 hwl
      have HRR := Lib.hid hR
      obtain ⟨op, hop⟩ : ∃ b, Hid (Ck.opening wd = b) := ⟨_, Lib.hid rfl⟩
      obtain ⟨pl, hpl⟩ : ∃ b, Hid ((!(x5 && op)) = b) := ⟨_, Lib.hid rfl⟩
      have HZW := Lib.hid (bs_size wd)
      have hzw2 : (bs wd).size ≤ 2000000 := by rw [bs_size]; omega
      clear hR hwd HR
      go_upto_region 6 with fail
      go_cut [39] from 27 to 38 (fun sy wx => sy = .bool pl ∧ wr = wx)
      case first =>
        as_aux_lemma =>
        cases x5 with
        | false =>
          go_wp2_with fail
          go_meet
          exact ⟨by rw [← hpl.out]; rfl, by first | rfl | trivial⟩
        | true =>
          rcases Nat.lt_or_ge wd.length 2 with h2 | h2
          · have q0 : decide (((bs wd).size : Int) < 2) = true := by rw [decide_eq_true_eq]; have := HZW.out; omega
            have q1 : decide ((bs wd).size < 2) = true := by rw [decide_eq_true_eq]; have := HZW.out; omega
            have HF : Hid (op = false) := Lib.hid (by
              rw [← hop.out, ← Bool.not_eq_true]
              intro h
              have := (open_at h).1
              omega)
            go_wp2_with fail
            go_meet
            exact ⟨by rw [← hpl.out, HF.out]; rfl, by first | rfl | trivial⟩
          · have q0 : decide (((bs wd).size : Int) < 2) = false := by rw [decide_eq_false_iff_not]; have := HZW.out; omega
            have q1 : decide ((bs wd).size < 2) = false := by rw [decide_eq_false_iff_not]; have := HZW.out; omega
            have sl := slice_to wd 2 2 rfl h2
            obtain ⟨T, hT⟩ : ∃ T, wd.take 2 = T := ⟨_, rfl⟩
            rw [hT] at sl
            obtain ⟨z, ez⟩ : ∃ b, ((bs T).toList == [60, 60]) = b := ⟨_, rfl⟩
            have HF : Hid (op = z) := Lib.hid (by rw [← hop.out, ← ez, bs_list, Ck.opening, hT])
            clear hT
            cases z <;> (
              go_wp2_with fail
              go_meet
              exact ⟨by rw [← hpl.out, HF.out]; rfl, by first | rfl | trivial⟩)
      case rest =>
        obtain ⟨rfl, rfl⟩ := hcut
        cases pl with
        | true =>
          obtain ⟨n, hn2⟩ : ∃ n, Hid (Ck.wordL e wd = n) := ⟨_, Lib.hid rfl⟩
          have HR2 : Hid (x = Ck.bodyW e s.docs (if n ≠ 0 then .inl n else Ck.wordsL s.op e (s.words.drop (i + 1)) (s.docs.drop j))) := Lib.hid (by
            rw [HRR.out, Ck.wordsL_plain (by
              have h := hpl.out
              rw [Bool.not_eq_true', Bool.and_eq_false_iff] at h
              rcases h with h | h
              · rw [h] at e5; exact .inl (beq_eq_false_iff_ne.1 e5)
              · exact .inr (hop.out.trans h)), hn2.out])
          have HWD := Lib.hid (word18_any wd (by omega) e wr hn2)
          go_wp2_with fail
          refine HWD.out.mono ?_
          rintro a w5 ⟨rfl, hb5⟩
          have HB5 := Lib.hid (HB.out.trans (hb5.mono HB.out.size))
          have HBW5 := Lib.hid (below_of_below HBW.out hb5 HBW.out.size)
          clear hb5 HWD c0 b0 b7 b8
          rcases Nat.eq_zero_or_pos n with hn0 | hn0
          · subst hn0
            go_wp2_with fail
            go_roundw
            case rel => exact ⟨i + 1, j, by omega, hj, by first | rfl | trivial, by go_num, Lib.hid (by rw [HR2.out]; rfl), HB5⟩
            case measure => simp [intOf]; omega
          · have k0 : ((n : Int) == 0) = false := by rw [beq_eq_false_iff_ne]; omega
            have k1 : (n == 0) = false := by rw [beq_eq_false_iff_ne]; omega
            have k2 : ((n : Int) != 0) = true := by rw [bne, k0]; rfl
            have HF : Hid (x = n) := Lib.hid (by rw [HR2.out, if_pos (by omega)]; rfl)
            go_wp2_with fail
            go_ret
            exact ⟨by rw [HF.out]; rfl, HBW5.out⟩
        | false =>
          have hxo : x5 = true ∧ op = true := by have h := hpl.out; rw [Bool.not_eq_false', Bool.and_eq_true] at h; exact h
          have h5 : Hid (s.op = 5) := Lib.hid (by rw [hxo.1] at e5; exact beq_iff_eq.1 e5)
          have ho : Hid (Ck.opening wd = true) := Lib.hid (hop.out.trans hxo.2)
          obtain ⟨mm, hm⟩ : ∃ mm, s.words.length = mm + 1 := ⟨s.words.length - 1, by omega⟩
          have z3 : IntKind.i64.wrap ((s.words.length : Int) - 1) = (mm : Int) := by rw [IntWalk.i64_in _ (by omega)]; omega
          have HM := Lib.hid hm
          have hmi : i ≤ mm := by omega
          clear hm hxo
          rcases Nat.lt_or_ge i mm with him | him
          · have k0 : ((i : Int) == (mm : Int)) = false := by rw [beq_eq_false_iff_ne]; omega
            have k1 : (i == mm) = false := by rw [beq_eq_false_iff_ne]; omega
            have hrn : Hid (s.words.drop (i + 1) ≠ []) := Lib.hid (by rw [Ne, List.drop_eq_nil_iff]; have := HM.out; omega)
            obtain ⟨t, ht⟩ : ∃ t, Hid (Ck.opT (Ck.opU (wd.drop 2)) = t) := ⟨_, Lib.hid rfl⟩
            obtain ⟨q, hq⟩ : ∃ t, Hid (Ck.opQ (Ck.opU (wd.drop 2)) = t) := ⟨_, Lib.hid rfl⟩
            obtain ⟨ok, hok⟩ : ∃ b, Hid (Ck.opOk t = b) := ⟨_, Lib.hid rfl⟩
            have HOE : Hid (Ck.opensL (wd.drop 2) = if ok then some (t, q) else none) := Lib.hid (by rw [Ck.opens_eq, ht.out, hq.out, hok.out])
            have HOC := Lib.hid (opens18_any wd (by omega) ho.out wr ht hq hok)
            go_upto_region 12 with fail
            clear z3 k0 k1
            go_wp2_with fail
            refine HOC.out.mono ?_
            rintro a w5 ⟨⟨t', q', rfl, htq⟩, hb5⟩
            have HB5 := Lib.hid (HB.out.trans (hb5.mono HB.out.size))
            have HBW5 := Lib.hid (below_of_below HBW.out hb5 HBW.out.size)
            have HK5 := Lib.hid (HKr.out.below hb5 HKr.out.lt)
            clear hb5 HOC c0 b0 b7 b8
            have b8 : w5.cell? ⟨w.heap.size, 8, none⟩ = some (Value.slice Ad s.docs.length kd) := HK5.out.cell 8
            go_upto_region 13 with fail
            go_cut [86] from 58 to 85 (fun sy wx => (∃ bad, sy = .bool bad ∧ Hid (x = if bad then 26 else Ck.bodyW e s.docs (Ck.wordsL s.op e (s.words.drop (i + 1)) (s.docs.drop (j + 1)))) ∧ (bad = false → j < s.docs.length)) ∧ w5 = wx)
            case first =>
              as_aux_lemma =>
              cases ok with
              | false =>
                have HF : Hid (x = 26) := Lib.hid (by rw [HRR.out, Ck.wordsL_none h5.out ho.out hrn.out (by rw [HOE.out]; rfl)]; rfl)
                go_wp2_with fail
                go_meet
                exact ⟨⟨true, by first | rfl | trivial, Lib.hid (by rw [HF.out]; rfl), fun h => by cases h⟩, by first | rfl | trivial⟩
              | true =>
                obtain ⟨rfl, rfl⟩ := htq rfl
                rcases Nat.lt_or_ge j s.docs.length with hjn | hjn
                · have k0 : ((j : Int) == (s.docs.length : Int)) = false := by rw [beq_eq_false_iff_ne]; omega
                  have k1 : (j == s.docs.length) = false := by rw [beq_eq_false_iff_ne]; omega
                  have k2 : (j : Int) < (s.docs.length : Int) := by omega
                  obtain ⟨g2, o2, c2, hv2, d0, d1, d2, d3⟩ := do_at (HD1.out.new HB5.out) hjn
                  injection hv2 with hA2 _ hc2
                  subst hA2 hc2
                  have hdr : s.docs.drop j = s.docs[j] :: s.docs.drop (j + 1) := List.drop_eq_getElem_cons hjn
                  obtain ⟨D, hD⟩ : ∃ D, s.docs[j] = D := ⟨_, rfl⟩
                  rw [hD] at d0 d1 hdr
                  obtain ⟨dn, dr, dl, dt⟩ := D
                  dsimp only at d0 d1
                  have HDR := Lib.hid hdr
                  clear hD hdr d2 d3
                  obtain ⟨nm, enm⟩ : ∃ b, ((bs dn).toList == (bs t').toList) = b := ⟨_, rfl⟩
                  have HNM : Hid (decide (dn = t') = nm) := Lib.hid (by rw [← enm, bs_list, bs_list, Bool.eq_iff_iff, decide_eq_true_eq, beq_iff_eq])
                  have HF : Hid (x = if nm && (dr == q') then Ck.bodyW e s.docs (Ck.wordsL s.op e (s.words.drop (i + 1)) (s.docs.drop (j + 1))) else 26) := Lib.hid (by
                    rw [HRR.out, HDR.out]
                    by_cases hh : dn = t' ∧ dr = q'
                    · rw [Ck.wordsL_hit h5.out ho.out hrn.out (by rw [HOE.out]; rfl) hh.1 hh.2, if_pos]
                      rw [← HNM.out, hh.1, hh.2, Bool.and_eq_true]
                      exact ⟨by simp, by simp⟩
                    · rw [Ck.wordsL_miss h5.out ho.out hrn.out (by rw [HOE.out]; rfl) hh, if_neg]
                      · rfl
                      · rw [← HNM.out, Bool.and_eq_true, decide_eq_true_eq, beq_iff_eq]
                        exact hh)
                  cases nm <;> cases dr <;> cases q' <;> (
                    go_wp2_with fail
                    go_meet
                    exact ⟨⟨_, by first | rfl | trivial, Lib.hid (by rw [HF.out]; rfl), fun _ => hjn⟩, by first | rfl | trivial⟩)
                · have k0 : ((j : Int) == (s.docs.length : Int)) = true := by rw [beq_iff_eq]; omega
                  have k1 : (j == s.docs.length) = true := by rw [beq_iff_eq]; omega
                  have HF : Hid (x = 26) := Lib.hid (by rw [HRR.out, List.drop_eq_nil_of_le hjn, Ck.wordsL_empty h5.out ho.out hrn.out]; rfl)
                  go_wp2_with fail
                  go_meet
                  exact ⟨⟨true, by first | rfl | trivial, Lib.hid (by rw [HF.out]; rfl), fun h => by cases h⟩, by first | rfl | trivial⟩
            case rest =>
              obtain ⟨⟨bad, rfl, HRB, hjb⟩, rfl⟩ := hcut
              cases bad with
              | true =>
                go_wp2_with fail
                go_ret
                exact ⟨by rw [HRB.out]; rfl, HBW5.out⟩
              | false =>
                have hjn := hjb rfl
                go_wp2_with fail
                go_roundw
                case rel => exact ⟨i + 1, j + 1, by omega, by omega, by go_num, by go_num, Lib.hid (by rw [HRB.out]; rfl), HB5⟩
                case measure => simp [intOf]; omega
          · have k0 : ((i : Int) == (mm : Int)) = true := by rw [beq_iff_eq]; omega
            have k1 : (i == mm) = true := by rw [beq_iff_eq]; omega
            have HF : Hid (x = 4) := Lib.hid (by
              rw [HRR.out, Ck.wordsL_last h5.out ho.out (by rw [List.drop_eq_nil_iff]; have := HM.out; omega)]
              rfl)
            go_wp2_with fail
            go_ret
            exact ⟨by rw [HF.out]; rfl, HBW.out⟩
    · have i0 : decide ((i : Int) < (s.words.length : Int)) = false := by rw [decide_eq_false_iff_not]; omega
      have e0n : decide (i < s.words.length) = false := by rw [decide_eq_false_iff_not]; omega
      have HR2 : Hid (x = Ck.bodyW e s.docs (.inr (s.docs.drop j))) := Lib.hid (by rw [HR.out, List.drop_eq_nil_of_le hin]; rfl)
      clear HR
      rcases Nat.lt_or_ge j s.docs.length with hjn | hjn
      · have k0 : decide ((j : Int) < (s.docs.length : Int)) = true := by rw [decide_eq_true_eq]; omega
        have k1 : decide (j < s.docs.length) = true := by rw [decide_eq_true_eq]; omega
        have HF : Hid (x = 26) := Lib.hid (by rw [HR2.out, List.drop_eq_getElem_cons hjn]; rfl)
        go_wp2_with fail
        go_ret
        exact ⟨by rw [HF.out]; rfl, HBW.out⟩
      · have k0 : decide ((j : Int) < (s.docs.length : Int)) = false := by rw [decide_eq_false_iff_not]; omega
        have k1 : decide (j < s.docs.length) = false := by rw [decide_eq_false_iff_not]; omega
        have HD0 : Hid (x = Ck.docsL e (s.docs.drop 0)) := Lib.hid (by rw [HR2.out, List.drop_eq_nil_of_le hjn, List.drop_zero]; rfl)
        clear HR2
        go_upto_region 18 with fail
        clear i0 e0n k0 k1 b0 b7 b8 j0 j1
        go_wp2_with fail
        go_loopw [12] (fun t12 wx => ∃ k : Nat, k ≤ s.docs.length ∧ t12 = .int .i64 (k : Int) ∧ Hid (x = Ck.docsL e (s.docs.drop k)) ∧ Hid (Below w1.heap.size w1 wx)) (fun t12 _ => s.docs.length - (intOf t12).toNat)
        case atStart => exact ⟨0, by omega, rfl, HD0, HB⟩
        case round =>
          clear HD0 HB HBW HKr
          rename World => ws
          obtain ⟨k, hk, rfl, HR, HB⟩ := hrel
          have j0 : (0 : Int) ≤ (k : Int) := by omega
          have HKr := Lib.hid (HK.out.below HB.out HK.out.lt)
          have b8 : ws.cell? ⟨w.heap.size, 8, none⟩ = some (Value.slice Ad s.docs.length kd) := HKr.out.cell 8
          have HBW := Lib.hid (below_of_below HAL.out HB.out HAL.out.size)
          rcases Nat.lt_or_ge k s.docs.length with hkn | hkn
          · have i0 : decide ((k : Int) < (s.docs.length : Int)) = true := by rw [decide_eq_true_eq]; omega
            have i1 : (k : Int) < (s.docs.length : Int) := by omega
            obtain ⟨g2, o2, c2, hv2, d0, d1, d2, d3⟩ := do_at (HD1.out.new HB.out) hkn
            injection hv2 with hA2 _ hc2
            subst hA2 hc2
            have hR := HR.out
            rw [List.drop_eq_getElem_cons hkn] at hR
            have hdl := (HLD.out _ (List.getElem_mem hkn)).2
            obtain ⟨D, hD⟩ : ∃ D, s.docs[k] = D := ⟨_, rfl⟩
            rw [hD] at d1 d3 hR hdl
            obtain ⟨dn, dr, dl, dt⟩ := D
            dsimp only at d1 d3 hdl
            obtain ⟨n, hn2⟩ : ∃ n, Hid (Ck.docL e dt = n) := ⟨_, Lib.hid rfl⟩
            have hne := doc_err e dt
            rw [hn2.out] at hne
            have HR2 : Hid (x = if dr = false ∧ n ≠ 0 then n else Ck.docsL e (s.docs.drop (k + 1))) := Lib.hid (by
              rw [hR]
              show (if dr = false ∧ Ck.docL e dt ≠ 0 then Ck.docL e dt else Ck.docsL e (s.docs.drop (k + 1))) = _
              rw [hn2.out])
            clear hR hD HR d0 d2
            cases dr with
            | true =>
              go_wp2_with fail
              go_roundw
              case rel => exact ⟨k + 1, by omega, by go_num, Lib.hid (by rw [HR2.out, if_neg (by simp)]), HB⟩
              case measure => simp [intOf]; omega
            | false =>
              have HDC := Lib.hid (doc15_any dt (by omega) e ws)
              rw [hn2.out] at HDC
              go_wp2_with fail
              refine HDC.out.mono ?_
              rintro a w5 ⟨⟨t, q, rfl, h1, h2⟩, hb5⟩
              have HB5 := Lib.hid (HB.out.trans (hb5.mono HB.out.size))
              have HBW5 := Lib.hid (below_of_below HBW.out hb5 HBW.out.size)
              clear hb5 HDC b8 d1 d3
              rcases Nat.eq_zero_or_pos n with hn0 | hn0
              · subst hn0
                rcases h1 rfl with rfl | rfl <;> (
                  go_wp2_with fail
                  go_roundw
                  case rel => exact ⟨k + 1, by omega, by go_num, Lib.hid (by rw [HR2.out, if_neg (by simp)]), HB5⟩
                  case measure => simp [intOf]; omega)
              · have hq := h2 (by omega)
                subst hq
                have k0 : ((n : Int) == 0) = false := by rw [beq_eq_false_iff_ne]; omega
                have k1 : (n == 0) = false := by rw [beq_eq_false_iff_ne]; omega
                have k2 : ((n : Int) != 0) = true := by rw [bne, k0]; rfl
                have k3 : ((n : Int) == 5) = false := by rw [beq_eq_false_iff_ne]; omega
                have k4 : (n == 5) = false := by rw [beq_eq_false_iff_ne]; omega
                have k5 : ((n : Int) != 5) = true := by rw [bne, k3]; rfl
                have HF : Hid (x = n) := Lib.hid (by rw [HR2.out, if_pos ⟨by simp, by omega⟩])
                clear h1 h2 hne
                go_wp2_with fail
                go_ret
                exact ⟨by rw [HF.out]; rfl, HBW5.out⟩
          · have i0 : decide ((k : Int) < (s.docs.length : Int)) = false := by rw [decide_eq_false_iff_not]; omega
            have i0n : decide (k < s.docs.length) = false := by rw [decide_eq_false_iff_not]; omega
            have HF : Hid (x = 0) := Lib.hid (by rw [HR.out, List.drop_eq_nil_of_le hkn]; rfl)
            go_wp2_with fail
            go_ret
            exact ⟨by rw [HF.out]; rfl, HBW.out⟩
end Go.Proofs.YtdaejggcjjdhkaaGreatDoor
