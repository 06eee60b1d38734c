/- CheckFirst: the law's walk. (Printed by wip/genfirst.py.) -/
import Derived.Test.YtdaejggcjjdhkaaGreatDoorCkUt
import Derived.Test.YtdaejggcjjdhkaaGreatDoorCkFx
import Derived.Test.YtdaejggcjjdhkaaGreatDoorCkWk
import Derived.Test.YtdaejggcjjdhkaaGreatDoorCkLe
import Derived.Test.YtdaejggcjjdhkaaGreatDoorCkFi
import Derived.Test.YtdaejggcjjdhkaaGreatDoorPick
import Derived.Test.YtdaejggcjjdhkaaGreatDoorMkD
namespace Go.Proofs.YtdaejggcjjdhkaaGreatDoor
open Go Go.RowKit Go.Extern.Stop Go.Stop Go.Extern
theorem put_none_ (a : Act) (v : Value) : a.put none v = a := rfl
theorem step_line {w : World} {m : SM} (h : m.Ok w) (n : Int) : SM.Ok w ⟨{ m.s with line := n }, m.vp, m.vw, m.vd, m.ve⟩ := ⟨h.cp, h.cw, h.cd, h.ce, h.dn⟩
/-- the values of the drawn region. -/
def VF (X : Ck.Fl) (l : List Value) : Nat → Value → World → Prop
  | 5, u, w => ∃ f2 : FM, u = f2.val ∧ f2.Ok w ∧ f2.fl = X
  | i, u, _ => l[i]? = some u
theorem VF.new {X : Ck.Fl} {l : List Value} {w w' : World} (k : Below w.heap.size w w') (j : Nat) (u : Value) (H : VF X l j u w) : VF X l j u w' := by
  unfold VF at H ⊢
  split at H
  · obtain ⟨f2, e, h, q⟩ := H
    exact ⟨f2, e, h.new k, q⟩
  · exact H
/-- what the guards of CheckFirst leave. -/
def FirstG (e : UInt8) (ng ct : Nat) : Prop := 1 ≤ ng ∧ ng ≤ 32 ∧ ct ≤ 512 ∧ (e = 92 ∨ e = 96)
set_option maxRecDepth 100000 in
set_option maxHeartbeats 4000000 in
theorem lawFirst (f : FM) (ln : Int) (w : World) (hok : f.Ok w) (hsf : f.fl.Small) (hl1 : -9223372036854775808 ≤ ln) (hl2 : ln ≤ 9223372036854775807) (hT : Tabs w) (hV : ErrVar w) (hM : Maxl w) :
    Calls Tryz.prog 7 #[.agg #[.int .u8 (f.escape.toNat : Int), f.va, f.vg], .int .i64 ln] w fun r w' => r = .returned (.bool true) ∧ Below w.heap.size w w' := by
  have HT := Lib.hid hT
  have HV := Lib.hid hV
  have HM := Lib.hid hM
  have HLN := Lib.hid (And.intro hl1 hl2)
  clear hT hV hM hl1 hl2
  obtain ⟨e, va, args, vg, stages⟩ := f
  dsimp only
  obtain ⟨Aa, ka, e1⟩ := hok.a.1.form
  obtain ⟨Ag, kg, e2⟩ := hok.g.1.form
  dsimp only at e1 e2
  subst e1 e2
  obtain ⟨na, hna⟩ : ∃ n, args.length = n := ⟨_, rfl⟩
  obtain ⟨ng, hng⟩ : ∃ n, stages.length = n := ⟨_, rfl⟩
  rw [hna, hng] at hok hsf ⊢
  have HNA := Lib.hid hna
  have HNG := Lib.hid hng
  have HOK := Lib.hid hok
  have HSF := Lib.hid hsf
  obtain ⟨ct, HCT⟩ : ∃ c, Hid (Ck.countL (FM.fl (⟨e, .slice Aa na ka, args, .slice Ag ng kg, stages⟩ : FM)) = c) := ⟨_, Lib.hid rfl⟩
  have hnc : ng + ct ≤ 1050000 := by have q := hsf.2.2; rw [HCT.out, show (FM.fl (⟨e, .slice Aa na ka, args, .slice Ag ng kg, stages⟩ : FM)).stages.length = stages.length from List.length_map _, hng] at q; exact q
  have htt : Ck.tot (stages.map GM.sg) + na = ng + ct := by
    have q := Ck.tot_eq (FM.fl (⟨e, .slice Aa na ka, args, .slice Ag ng kg, stages⟩ : FM))
    rw [HCT.out, show (FM.fl (⟨e, .slice Aa na ka, args, .slice Ag ng kg, stages⟩ : FM)).stages.length = stages.length from List.length_map _, hng, show (FM.fl (⟨e, .slice Aa na ka, args, .slice Ag ng kg, stages⟩ : FM)).args.length = args.length from List.length_map _, hna] at q
    exact q
  have HTT := Lib.hid htt
  have hna6 : na ≤ 1050000 := by omega
  have hng6 : ng ≤ 1050000 := by omega
  clear hna hng hok hsf htt
  obtain ⟨w1, hw1⟩ : ∃ y, w.alloc (.cells #[.int .u8 (e.toNat : Int), .slice Aa na ka, .slice Ag ng kg] 25) = y := ⟨_, rfl⟩
  have HAL : Hid (Below w.heap.size w w1) := Lib.hid (by rw [← hw1]; exact (Below.refl _ _).alloc (Nat.le_refl _) _)
  have HKF : Hid (Blk w1 w.heap.size 25 #[.int .u8 (e.toNat : Int), .slice Aa na ka, .slice Ag ng kg]) := Lib.hid (by rw [← hw1]; exact Blk.new w _ _)
  have HSZ : Hid (w.heap.size + 1 ≤ w1.heap.size) := Lib.hid (by rw [← hw1, World.size_alloc]; omega)
  have HW1 := Lib.hid hw1
  clear hw1
  go_enter Tryz.func7, Tryz.ntmps7
  go_upto_region 1 with fail
  rw [HW1.out]
  clear HW1
  have b0 : w1.cell? ⟨w.heap.size, 0, none⟩ = some (.int .u8 (e.toNat : Int)) := (HKF.out).cell 0
  have b1 : w1.cell? ⟨w.heap.size, 1, none⟩ = some (.slice Aa na ka) := (HKF.out).cell 1
  have b2 : w1.cell? ⟨w.heap.size, 2, none⟩ = some (.slice Ag ng kg) := (HKF.out).cell 2
  go_cut [47] from 18 to 46 (fun s47 wx => (∃ q : Bool, s47 = .bool q ∧ Hid (q = false → FirstG e ng ct)) ∧ Hid (Below (w.heap.size + 1) w1 wx))
  case first =>
    as_aux_lemma =>
    go_wp2_with fail
    refine (few_any (⟨e, .slice Aa na ka, args, .slice Ag ng kg, stages⟩ : FM) w1 (HOK.out.new HAL.out) HSF.out).mono ?_
    rintro r w2 ⟨t1, rfl, p2⟩
    have PB := Lib.hid (p2.mono HSZ.out)
    have PW := Lib.hid (HAL.out.trans (p2.mono HAL.out.size))
    clear p2 b0 b1 b2
    cases t1 with
    | false =>
      go_wp2_with fail
      go_meet
      exact ⟨⟨_, rfl, Lib.hid (fun q => by cases q)⟩, PB⟩
    | true =>
      have b0 : w2.cell? ⟨w.heap.size, 0, none⟩ = some (.int .u8 (e.toNat : Int)) := (HKF.out.below PB.out (by omega)).cell 0
      have b1 : w2.cell? ⟨w.heap.size, 1, none⟩ = some (.slice Aa na ka) := (HKF.out.below PB.out (by omega)).cell 1
      have b2 : w2.cell? ⟨w.heap.size, 2, none⟩ = some (.slice Ag ng kg) := (HKF.out.below PB.out (by omega)).cell 2
      rcases Nat.eq_zero_or_pos ng with z | z
      · have k0 : ((ng : Int) == 0) = true := by rw [beq_iff_eq]; omega
        have k1 : (ng == 0) = true := by rw [beq_iff_eq]; omega
        clear z
        go_wp2_with fail
        go_meet
        exact ⟨⟨_, rfl, Lib.hid (fun q => by cases q)⟩, PB⟩
      have k0 : ((ng : Int) == 0) = false := by rw [beq_eq_false_iff_ne]; omega
      have k1 : (ng == 0) = false := by rw [beq_eq_false_iff_ne]; omega
      rcases Nat.lt_or_ge 32 ng with z2 | z2
      · have k2 : decide ((32 : Int) < (ng : Int)) = true := by rw [decide_eq_true_eq]; omega
        go_wp2_with fail
        go_meet
        exact ⟨⟨_, rfl, Lib.hid (fun q => by cases q)⟩, PB⟩
      have k2 : decide ((32 : Int) < (ng : Int)) = false := by rw [decide_eq_false_iff_not]; omega
      have k3 : ¬ (32 : Int) < (ng : Int) := by omega
      go_wp2_with fail
      refine (count_any (⟨e, .slice Aa na ka, args, .slice Ag ng kg, stages⟩ : FM) w2 (HOK.out.new PW.out) (by rw [HCT.out]; show stages.length + ct ≤ 1050000; rw [HNG.out]; exact hnc)).mono ?_
      rintro r w3 ⟨hr, p3⟩
      obtain rfl : r = .returned (.int .i64 (ct : Int)) := by rw [hr, HCT.out]
      have PBn := Lib.hid (PB.out.trans (p3.mono (Nat.le_trans HSZ.out PB.out.size)))
      clear hr PB PW p3 b0 b1 b2
      have PB := PBn
      clear PBn
      have b0 : w3.cell? ⟨w.heap.size, 0, none⟩ = some (.int .u8 (e.toNat : Int)) := (HKF.out.below PB.out (by omega)).cell 0
      have b1 : w3.cell? ⟨w.heap.size, 1, none⟩ = some (.slice Aa na ka) := (HKF.out.below PB.out (by omega)).cell 1
      have b2 : w3.cell? ⟨w.heap.size, 2, none⟩ = some (.slice Ag ng kg) := (HKF.out.below PB.out (by omega)).cell 2
      rcases Nat.lt_or_ge 512 ct with z3 | z3
      · have k4 : decide ((512 : Int) < (ct : Int)) = true := by rw [decide_eq_true_eq]; omega
        go_wp2_with fail
        go_meet
        exact ⟨⟨_, rfl, Lib.hid (fun q => by cases q)⟩, PB⟩
      have k4 : decide ((512 : Int) < (ct : Int)) = false := by rw [decide_eq_false_iff_not]; omega
      have k5 : ¬ (512 : Int) < (ct : Int) := by omega
      have heb : e.toNat < 256 := UInt8.toNat_lt _
      obtain ⟨q, hq⟩ : ∃ q, Hid (decide (e ≠ 92 ∧ e ≠ 96) = q) := ⟨_, Lib.hid rfl⟩
      obtain ⟨n1, h1⟩ : ∃ b, ((e.toNat : Int) != 92) = b := ⟨_, rfl⟩
      obtain ⟨n2, h2⟩ : ∃ b, ((e.toNat : Int) != 96) = b := ⟨_, rfl⟩
      have HQN : Hid ((n1 && n2) = q) := Lib.hid (by rw [← h1, ← h2, esc_test]; exact hq.out)
      have HG : Hid (q = false → FirstG e ng ct) := Lib.hid (fun r => ⟨z, z2, z3, by
        have r2 := of_decide_eq_false (hq.out.trans r)
        rcases Decidable.em (e = 92) with r3 | r3
        · exact .inl r3
        · exact .inr (Decidable.not_not.1 (fun r4 => r2 ⟨r3, r4⟩))⟩)
      cases n1 <;> (
        go_wp2_with fail
        go_meet
        exact ⟨⟨q, by rw [← HQN.out]; first | rfl | (cases n2 <;> rfl), HG⟩, PB⟩)
  case rest =>
    obtain ⟨⟨q, rfl, HQ⟩, PB⟩ := hcut
    rename World => w3
    clear b0 b1 b2
    have PW := Lib.hid (HAL.out.trans (PB.out.mono (by omega)))
    cases q with
    | true =>
      go_wp2_with fail
      go_ret
      exact ⟨rfl, PW.out⟩
    | false =>
      have HGd : Hid (FirstG e ng ct) := Lib.hid (HQ.out rfl)
      clear HQ
      have hKF3 := HKF.out.below PB.out (by omega)
      have b0 : w3.cell? ⟨w.heap.size, 0, none⟩ = some (.int .u8 (e.toNat : Int)) := hKF3.cell 0
      have HKF3 := Lib.hid hKF3
      clear hKF3
      go_upto_region 4 with fail
      clear b0
      have HF4 : Hid (FB w (w3.heap.size + 1) w3.heap.size e (.slice none 0 0) (.slice none 0 0) [] [] (w3.alloc (.cells #[.int .u8 (e.toNat : Int), .slice none 0 0, .slice none 0 0] 25))) := Lib.hid ⟨Blk.new _ _ _, own_nil _ _ _ _, own_nil _ _ _ _, (fun g hg => by cases hg), (fun m hm => by cases hm), (fun g hg => by cases hg), by omega, PW.out.alloc PW.out.size _, PW.out.size, by rw [World.size_alloc]; omega⟩
      have HKF4 := Lib.hid (HKF3.out.alloc (.cells #[.int .u8 (e.toNat : Int), .slice none 0 0, .slice none 0 0] 25))
      have hGh : w.heap.size < w3.heap.size := HKF3.out.lt
      obtain ⟨G, hG⟩ : ∃ y, w3.heap.size = y := ⟨_, rfl⟩
      obtain ⟨w4, hw4⟩ : ∃ y, w3.alloc (.cells #[.int .u8 (e.toNat : Int), .slice none 0 0, .slice none 0 0] 25) = y := ⟨_, rfl⟩
      rw [hG] at HF4 hGh
      rw [hw4] at HF4 HKF4
      rw [hw4, hG]
      have HB4 : Hid (Below G w4 w4) := Lib.hid (Below.refl _ _)
      clear hG hw4 PB PW HKF3
      go_wp2_with fail
      go_loopw [6, 7, 8] (fun t6 t7 _ wr => ∃ (i : Nat) (vA : Value) (lA : List SM), i ≤ na ∧ t6 = .int .i64 (i : Int) ∧ t7 = .int .i64 (i : Int) ∧ Hid (FB w (G + 1) G e vA (.slice none 0 0) lA [] wr) ∧ Hid (Below G w4 wr) ∧ lA.length ≤ i ∧ Hid (lA.map SM.s = Ck.numA 0 ((args.take i).map SM.s))) (fun _ t7 _ _ => na - (intOf t7).toNat)
      case atStart => exact ⟨0, _, [], by omega, rfl, rfl, HF4, HB4, Nat.le_refl _, Lib.hid rfl⟩
      case round =>
        clear HF4 HB4
        rename World => wr
        obtain ⟨i, vA, lA, hi, rfl, rfl, HF, HB, hll, HL⟩ := hrel
        have j0 : (0 : Int) ≤ (i : Int) := by omega
        have hKr := HKF4.out.below HB.out hGh
        rcases Nat.lt_or_ge i na with hin | hin
        · have i0 : decide ((i : Int) < (na : Int)) = true := by rw [decide_eq_true_eq]; omega
          have i1 : (i : Int) < (na : Int) := by omega
          have hil : i < args.length := by have := HNA.out; omega
          have hX := HOK.out.a.new HF.out.h0
          have hX : StsA wr (.slice Aa args.length ka) args := by rw [HNA.out]; exact hX
          have hmok : SM.Ok w args[i] := HOK.out.a.2 _ (List.getElem_mem hil)
          obtain ⟨g, o, c, s, Ap, Aw, Ad, Ae, kp, kw, kd, ke, hv, hse, c0, c1, c2, c3, c4, c5, c6, c7, c8, c9⟩ := sm_full hX hil
          injection hv with hA _ hcc
          subst hA hcc
          have htk : (args.take (i + 1)).map SM.s = (args.take i).map SM.s ++ [s] := by rw [List.take_succ_eq_append_getElem hil, List.map_append, hse]; rfl
          rw [hse] at hmok
          have HMO := Lib.hid (step_line hmok ((i : Int) + 1))
          have HTK := Lib.hid htk
          have HTL : Hid (((args.take i).map SM.s).length = i) := Lib.hid (by rw [List.length_map, List.length_take]; omega)
          have b1 : wr.cell? ⟨w.heap.size, 1, none⟩ = some (.slice (some ⟨g, o, none⟩) na ka) := hKr.cell 1
          clear hX hse hmok htk hil hKr
          go_upto_region 9 with (refine wpList_store_st rfl _ _ _ rfl stepTw wr.heap.size #[.int .i64 s.op, .int .i64 (s.line), .string (bs s.from_), .string (bs s.mode), .bool s.force, .slice Ap s.pairs.length kp, .bool s.bare, .slice Aw s.words.length kw, .slice Ad s.docs.length kd, .slice Ae s.exec.length ke] #[.int .i64 0, .int .i64 0, .string ⟨#[]⟩, .string ⟨#[]⟩, .bool false, .slice none 0 0, .bool false, .slice none 0 0, .slice none 0 0, .slice none 0 0] rfl rfl (Blk.new _ _ _) rfl rfl rfl ?_; intro w7 hK7 hg7 hz7)
          have HN7 : Hid (Below wr.heap.size wr w7) := Lib.hid (((Below.refl wr.heap.size wr).alloc (Nat.le_refl _) (.cells #[.int .i64 0, .int .i64 0, .string ⟨#[]⟩, .string ⟨#[]⟩, .bool false, .slice none 0 0, .bool false, .slice none 0 0, .slice none 0 0, .slice none 0 0] 41)).trans ((Fx.of_grown hg7).to_below (by rw [World.size_alloc]; omega) (fun b q => by injection q with q; omega)))
          have HK7 := Lib.hid hK7
          clear hK7 hg7 hz7 b1 c0 c1 c2 c3 c4 c5 c6 c7 c8 c9
          obtain ⟨X, hXX⟩ : ∃ y, wr.heap.size = y := ⟨_, rfl⟩
          have HXX := Lib.hid hXX
          rw [hXX] at HK7 ⊢
          clear hXX
          have d1 : w7.cell? ⟨X, 1, none⟩ = some (.int .i64 s.line) := HK7.out.cell 1
          have fd1 := HK7.out.frozen 1
          rw [put_none_]
          go_upto_region 11 with fail
          clear d1 fd1
          have HK8 : Hid (Blk (w7.setCell ⟨X, 1, none⟩ (.int .i64 ((i : Int) + 1))) X 41 #[.int .i64 s.op, .int .i64 ((i : Int) + 1), .string (bs s.from_), .string (bs s.mode), .bool s.force, .slice Ap s.pairs.length kp, .bool s.bare, .slice Aw s.words.length kw, .slice Ad s.docs.length kd, .slice Ae s.exec.length ke]) := Lib.hid (by have q := HK7.out.set_ 1 (.int .i64 ((i : Int) + 1)); simpa using q)
          have HN8 : Hid (Below wr.heap.size wr (w7.setCell ⟨X, 1, none⟩ (.int .i64 ((i : Int) + 1)))) := Lib.hid (HN7.out.setCell (p := ⟨X, 1, none⟩) (by rw [HXX.out]; exact Nat.le_refl _) _)
          obtain ⟨w8, hw8⟩ : ∃ y, w7.setCell ⟨X, 1, none⟩ (.int .i64 ((i : Int) + 1)) = y := ⟨_, rfl⟩
          rw [hw8] at HK8 HN8
          rw [hw8]
          have HF8 := Lib.hid (HF.out.new HN8.out)
          have HB8 := Lib.hid (HB.out.trans (HN8.out.mono (by have := HF.out.size; omega)))
          have hsz8 := HF8.out.size
          clear hw8 HK7 HN7 HF HB
          obtain ⟨A1, q1, rfl⟩ := ownk_form HF8.out.rA
          have g1 : w8.cell? ⟨G, 1, none⟩ = some (.slice A1 lA.length q1) := HF8.out.blk.cell 1
          have c0 : w8.cell? ⟨X, 0, none⟩ = some (.int .i64 s.op) := HK8.out.cell 0
          have c1 : w8.cell? ⟨X, 1, none⟩ = some (.int .i64 ((i : Int) + 1)) := HK8.out.cell 1
          have c2 : w8.cell? ⟨X, 2, none⟩ = some (.string (bs s.from_)) := HK8.out.cell 2
          have c3 : w8.cell? ⟨X, 3, none⟩ = some (.string (bs s.mode)) := HK8.out.cell 3
          have c4 : w8.cell? ⟨X, 4, none⟩ = some (.bool s.force) := HK8.out.cell 4
          have c5 : w8.cell? ⟨X, 5, none⟩ = some (.slice Ap s.pairs.length kp) := HK8.out.cell 5
          have c6 : w8.cell? ⟨X, 6, none⟩ = some (.bool s.bare) := HK8.out.cell 6
          have c7 : w8.cell? ⟨X, 7, none⟩ = some (.slice Aw s.words.length kw) := HK8.out.cell 7
          have c8 : w8.cell? ⟨X, 8, none⟩ = some (.slice Ad s.docs.length kd) := HK8.out.cell 8
          have c9 : w8.cell? ⟨X, 9, none⟩ = some (.slice Ae s.exec.length ke) := HK8.out.cell 9
          go_wp2_with (at_builtin; refine wpList_appS rfl _ _ _ rfl stpKe (G + 1) _ lA.length (smC lA) rfl (HF8.out.rA.alloc _) _ 1 (smL (⟨{ s with line := (i : Int) + 1 }, .slice Ap s.pairs.length kp, .slice Aw s.words.length kw, .slice Ad s.docs.length kd, .slice Ae s.exec.length ke⟩ : SM)) rfl (SlA.blk (cs := smL (⟨{ s with line := (i : Int) + 1 }, .slice Ap s.pairs.length kp, .slice Aw s.words.length kw, .slice Ad s.docs.length kd, .slice Ae s.exec.length ke⟩ : SM)) (Blk.new _ _ _)) rfl (smL_one HMO.out) (by omega) (by omega) (Below.refl _ _) (by rw [World.size_alloc]; omega) ?_; intro v1 w9 ho1 hb1 hg1 hat1; have hk9 := (HF8.out.alloc (.cells #[.int .i64 s.op, .int .i64 ((i : Int) + 1), .string (bs s.from_), .string (bs s.mode), .bool s.force, .slice Ap s.pairs.length kp, .bool s.bare, .slice Aw s.words.length kw, .slice Ad s.docs.length kd, .slice Ae s.exec.length ke] 41)).blk.below hb1 HF8.out.hG; have k9 : w9.cell? ⟨G, 1, none⟩ = some (.slice A1 lA.length q1) := hk9.cell 1; have f9 := hk9.frozen 1; have HP := Lib.hid ((HF8.out.alloc (.cells #[.int .i64 s.op, .int .i64 ((i : Int) + 1), .string (bs s.from_), .string (bs s.mode), .bool s.force, .slice Ap s.pairs.length kp, .bool s.bare, .slice Aw s.words.length kw, .slice Ad s.docs.length kd, .slice Ae s.exec.length ke] 41)).pushA HMO.out ho1 hb1 hg1); have HQ := Lib.hid (below_set' ((HB8.out.alloc (by omega) (.cells #[.int .i64 s.op, .int .i64 ((i : Int) + 1), .string (bs s.from_), .string (bs s.mode), .bool s.force, .slice Ap s.pairs.length kp, .bool s.bare, .slice Aw s.words.length kw, .slice Ad s.docs.length kd, .slice Ae s.exec.length ke] 41)).trans (hb1.mono (by omega))) ⟨G, 1, none⟩ v1 (Nat.le_refl _) (Nat.le_refl _)); obtain ⟨B1, qB, rfl⟩ := ownk_form ho1; clear hk9 ho1 hb1 hg1 hat1)
          have HL2 : Hid ((lA ++ [(⟨{ s with line := (i : Int) + 1 }, .slice Ap s.pairs.length kp, .slice Aw s.words.length kw, .slice Ad s.docs.length kd, .slice Ae s.exec.length ke⟩ : SM)]).map SM.s = Ck.numA 0 ((args.take (i + 1)).map SM.s)) := Lib.hid (by
            rw [HTK.out, Ck.numA_snoc, List.map_append, HL.out, HTL.out, Int.zero_add]
            rfl)
          go_roundw
          case rel => first | exact ⟨i + 1, _, _, by omega, by go_num, by go_num, HP, HQ, by simp; omega, HL2⟩ | exact ⟨_, _, _, ⟨i + 1, _, _, by omega, by go_num, by go_num, HP, HQ, by simp; omega, HL2⟩, rfl, rfl, rfl⟩
          case measure => simp [intOf]; omega
        · have i0 : decide ((i : Int) < (na : Int)) = false := by rw [decide_eq_false_iff_not]; omega
          have e0n : decide (i < na) = false := by rw [decide_eq_false_iff_not]; omega
          obtain rfl : i = na := by omega
          have b1 : wr.cell? ⟨w.heap.size, 1, none⟩ = some (.slice Aa i ka) := hKr.cell 1
          have HLA : Hid (lA.map SM.s = Ck.numA 0 (args.map SM.s)) := Lib.hid (by
            have q := HL.out
            rwa [List.take_of_length_le (by have := HNA.out; omega)] at q)
          clear HL hKr
          go_wp2_with fail
          clear b1
      
          go_loopw [6, 9, 10, 11, 12, 13] (fun t6 t9 _ _ _ _ wv => ∃ (j N : Nat) (vS : Value) (lS : List GM), j ≤ ng ∧ t6 = .int .i64 (N : Int) ∧ t9 = .int .i64 (j : Int) ∧ Hid (FB w (G + 1) G e vA vS lA lS wv) ∧ Hid (Below G w4 wv) ∧ lS.length ≤ j ∧ N ≤ 1050000 ∧ Hid (N = i + Ck.tot ((stages.take j).map GM.sg)) ∧ Hid (lS.map GM.sg = Ck.numG i ((stages.take j).map GM.sg))) (fun _ t9 _ _ _ _ _ => ng - (intOf t9).toNat)
          case atStart => exact ⟨0, i, _, [], by omega, rfl, rfl, HF, HB, Nat.le_refl _, by omega, Lib.hid rfl, Lib.hid rfl⟩
          case round =>
            clear HF HB e0n i0
            rename World => wv
            obtain ⟨j, N, vS, lS, hj, rfl, rfl, HF, HB, hls, hN6, HN, HLS⟩ := hrel
            have j1 : (0 : Int) ≤ (j : Int) := by omega
            have hKr := HKF4.out.below HB.out hGh
            rcases Nat.lt_or_ge j ng with hjn | hjn
            · have i0 : decide ((j : Int) < (ng : Int)) = true := by rw [decide_eq_true_eq]; omega
              have i1 : (j : Int) < (ng : Int) := by omega
              have hjl : j < stages.length := by have := HNG.out; omega
              have hX : GsA wv (.slice Ag stages.length kg) stages := by rw [HNG.out]; exact HOK.out.g.new HF.out.h0
              obtain ⟨g, o, c, G0, A, k, hv, hGe, hvs, -, c0, c1, c2, c3⟩ := gm_full hX hjl
              injection hv with hA _ hcc
              subst hA hcc
              have hup : (stages.take (j + 1)).map GM.sg = (stages.take j).map GM.sg ++ [GM.sg G0] := by rw [List.take_succ_eq_append_getElem hjl, List.map_append, hGe]; rfl
              have hst : StsA w stages[j].vs stages[j].ms := HOK.out.g.2 _ (List.getElem_mem hjl)
              rw [hGe] at hst
              have htk := tot_take stages (j + 1)
              rw [hup, Ck.tot_snoc] at htk
              obtain ⟨line, base, name, vs, ms⟩ := G0
              dsimp only at hvs c0 c1 c2 c3 hst
              subst hvs
              have hms : (GM.sg ⟨line, base, name, .slice A ms.length k, ms⟩).steps.length = ms.length := List.length_map _
              rw [hms] at htk
              have hN7 : N + 1 + ms.length ≤ 1050000 := by have := HN.out; have := HTT.out; omega
              have HUP := Lib.hid hup
              have HST := Lib.hid hst
              have b2 : wv.cell? ⟨w.heap.size, 2, none⟩ = some (.slice (some ⟨g, o, none⟩) ng kg) := hKr.cell 2
              clear hX hGe hup hst hjl htk hms hKr
              go_upto_region 18 with fail
              have HKs := Lib.hid ((Blk.new wv 53 #[.int .i64 line, .string (bs base), .string (bs name), .slice A ms.length k]).alloc (.cells #[.int .i64 ((N : Int) + 1), .string (bs base), .string (bs name), .slice none 0 0] 53))
              have HKt : Hid (Blk ((wv.alloc (.cells #[.int .i64 line, .string (bs base), .string (bs name), .slice A ms.length k] 53)).alloc (.cells #[.int .i64 ((N : Int) + 1), .string (bs base), .string (bs name), .slice none 0 0] 53)) (wv.heap.size + 1) 53 #[.int .i64 ((N : Int) + 1), .string (bs base), .string (bs name), .slice none 0 0]) := Lib.hid (by have q := Blk.new (wv.alloc (.cells #[.int .i64 line, .string (bs base), .string (bs name), .slice A ms.length k] 53)) 53 #[.int .i64 ((N : Int) + 1), .string (bs base), .string (bs name), .slice none 0 0]; rwa [World.size_alloc] at q)
              have HW8 := Lib.hid (((Below.refl wv.heap.size wv).alloc (Nat.le_refl _) (.cells #[.int .i64 line, .string (bs base), .string (bs name), .slice A ms.length k] 53)).alloc (by rw [World.size_alloc]; omega) (.cells #[.int .i64 ((N : Int) + 1), .string (bs base), .string (bs name), .slice none 0 0] 53))
              have HZ8 : Hid (((wv.alloc (.cells #[.int .i64 line, .string (bs base), .string (bs name), .slice A ms.length k] 53)).alloc (.cells #[.int .i64 ((N : Int) + 1), .string (bs base), .string (bs name), .slice none 0 0] 53)).heap.size = wv.heap.size + 1 + 1) := Lib.hid (by rw [World.size_alloc, World.size_alloc])
              have hszv := HF.out.size
              obtain ⟨G8, hG8⟩ : ∃ y, wv.heap.size = y := ⟨_, rfl⟩
              obtain ⟨w8, hw8⟩ : ∃ y, (wv.alloc (.cells #[.int .i64 line, .string (bs base), .string (bs name), .slice A ms.length k] 53)).alloc (.cells #[.int .i64 ((N : Int) + 1), .string (bs base), .string (bs name), .slice none 0 0] 53) = y := ⟨_, rfl⟩
              rw [hw8] at HKs HKt HW8 HZ8
              rw [hG8] at HKs HKt HZ8 hszv
              rw [hw8, hG8]
              have HG8 := Lib.hid hG8
              clear hG8 hw8 b2 c0 c1 c2 c3
              go_wp2_with fail
              go_loopw [6, 12, 13] (fun t6 t12 _ wu => ∃ (q P : Nat) (v9 : Value) (l9 : List SM), q ≤ ms.length ∧ t6 = .int .i64 (P : Int) ∧ t12 = .int .i64 (q : Int) ∧ Hid (P = N + 1 + q) ∧ P ≤ 1050000 ∧ Hid (Blk wu (G8 + 1) 53 #[.int .i64 ((N : Int) + 1), .string (bs base), .string (bs name), v9]) ∧ Hid (wu.ownsRow (G8 + 1 + 1) 41 10 v9 l9.length (smC l9)) ∧ l9.length ≤ q ∧ Hid (l9.map SM.s = Ck.numA ((N : Int) + 1) ((ms.take q).map SM.s)) ∧ Hid (∀ m ∈ l9, m.Ok w) ∧ Hid (Below (G8 + 1) w8 wu)) (fun _ t12 _ _ => ms.length - (intOf t12).toNat)
              case atStart => exact ⟨0, N + 1, _, [], by omega, by go_num, rfl, Lib.hid rfl, by omega, HKt, Lib.hid (own_nil _ _ _ _), Nat.le_refl _, Lib.hid rfl, Lib.hid (fun m hm => by cases hm), Lib.hid (Below.refl _ _)⟩
              case round =>
                clear HKt
                rename World => wu
                obtain ⟨q, P, v9, l9, hq, rfl, rfl, HP, hP6, HKt, HO, hl9, HL9, HOM, HBu⟩ := hrel
                have j2 : (0 : Int) ≤ (q : Int) := by omega
                have hKs := HKs.out.below HBu.out (by omega)
                have HWu := Lib.hid (HW8.out.trans (HBu.out.mono (by have := HG8.out; omega)))
                have HFu := Lib.hid (HF.out.new HWu.out)
                have hszu : G8 + 1 + 1 ≤ wu.heap.size := by have := HBu.out.size; have := HZ8.out; omega
                obtain ⟨A9, q9, rfl⟩ := ownk_form HO.out
                rcases Nat.lt_or_ge q ms.length with hqn | hqn
                · have i2 : decide ((q : Int) < (ms.length : Int)) = true := by rw [decide_eq_true_eq]; omega
                  have i3 : (q : Int) < (ms.length : Int) := by omega
                  have hX := HST.out.new HFu.out.h0
                  have hmok := HST.out.2 _ (List.getElem_mem hqn)
                  obtain ⟨g2, o2, c2, s, Ap, Aw, Ad, Ae, kp, kw, kd, ke, hv, hse, c0, c1, d2, c3, c4, c5, c6, c7, c8, c9⟩ := sm_full hX hqn
                  injection hv with hA _ hcc
                  subst hA hcc
                  have htk : (ms.take (q + 1)).map SM.s = (ms.take q).map SM.s ++ [s] := by rw [List.take_succ_eq_append_getElem hqn, List.map_append, hse]; rfl
                  rw [hse] at hmok
                  have HMO := Lib.hid (step_line hmok ((P : Int) + 1))
                  have HTK := Lib.hid htk
                  have HTL : Hid (((ms.take q).map SM.s).length = q) := Lib.hid (by rw [List.length_map, List.length_take]; omega)
                  have b3 : wu.cell? ⟨G8, 3, none⟩ = some (.slice (some ⟨g2, o2, none⟩) ms.length k) := hKs.cell 3
                  clear hX hse hmok htk hKs
                  go_upto_region 22 with (refine wpList_store_st rfl _ _ _ rfl stepTw wu.heap.size #[.int .i64 s.op, .int .i64 (s.line), .string (bs s.from_), .string (bs s.mode), .bool s.force, .slice Ap s.pairs.length kp, .bool s.bare, .slice Aw s.words.length kw, .slice Ad s.docs.length kd, .slice Ae s.exec.length ke] #[.int .i64 0, .int .i64 0, .string ⟨#[]⟩, .string ⟨#[]⟩, .bool false, .slice none 0 0, .bool false, .slice none 0 0, .slice none 0 0, .slice none 0 0] rfl rfl (Blk.new _ _ _) rfl rfl rfl ?_; intro w7 hK7 hg7 hz7)
                  have HN7 : Hid (Below wu.heap.size wu w7) := Lib.hid (((Below.refl wu.heap.size wu).alloc (Nat.le_refl _) (.cells #[.int .i64 0, .int .i64 0, .string ⟨#[]⟩, .string ⟨#[]⟩, .bool false, .slice none 0 0, .bool false, .slice none 0 0, .slice none 0 0, .slice none 0 0] 41)).trans ((Fx.of_grown hg7).to_below (by rw [World.size_alloc]; omega) (fun b q => by injection q with q; omega)))
                  have HK7 := Lib.hid hK7
                  clear hK7 hg7 hz7 b3 c0 c1 d2 c3 c4 c5 c6 c7 c8 c9
                  obtain ⟨X, hXX⟩ : ∃ y, wu.heap.size = y := ⟨_, rfl⟩
                  have HXX := Lib.hid hXX
                  rw [hXX] at HK7 ⊢
                  clear hXX
                  have d1 : w7.cell? ⟨X, 1, none⟩ = some (.int .i64 s.line) := HK7.out.cell 1
                  have fd1 := HK7.out.frozen 1
                  rw [put_none_]
                  go_upto_region 24 with fail
                  clear d1 fd1
                  have HK8 : Hid (Blk (w7.setCell ⟨X, 1, none⟩ (.int .i64 ((P : Int) + 1))) X 41 #[.int .i64 s.op, .int .i64 ((P : Int) + 1), .string (bs s.from_), .string (bs s.mode), .bool s.force, .slice Ap s.pairs.length kp, .bool s.bare, .slice Aw s.words.length kw, .slice Ad s.docs.length kd, .slice Ae s.exec.length ke]) := Lib.hid (by have q := HK7.out.set_ 1 (.int .i64 ((P : Int) + 1)); simpa using q)
                  have HN8 : Hid (Below wu.heap.size wu (w7.setCell ⟨X, 1, none⟩ (.int .i64 ((P : Int) + 1)))) := Lib.hid (HN7.out.setCell (p := ⟨X, 1, none⟩) (by rw [HXX.out]; exact Nat.le_refl _) _)
                  obtain ⟨wt, hwt⟩ : ∃ y, w7.setCell ⟨X, 1, none⟩ (.int .i64 ((P : Int) + 1)) = y := ⟨_, rfl⟩
                  rw [hwt] at HK8 HN8
                  rw [hwt]
                  have HKt8 := Lib.hid (HKt.out.below HN8.out HKt.out.lt)
                  have HO8 := Lib.hid (own_below HO.out HN8.out)
                  have HB8 := Lib.hid (HBu.out.trans (HN8.out.mono (by omega)))
                  have hsz8 : G8 + 1 + 1 ≤ wt.heap.size := Nat.le_trans hszu HN8.out.size
                  clear hwt HK7 HN7 HKt HO HBu
                  have g1 : wt.cell? ⟨G8 + 1, 3, none⟩ = some (.slice A9 l9.length q9) := HKt8.out.cell 3
                  have c0 : wt.cell? ⟨X, 0, none⟩ = some (.int .i64 s.op) := HK8.out.cell 0
                  have c1 : wt.cell? ⟨X, 1, none⟩ = some (.int .i64 ((P : Int) + 1)) := HK8.out.cell 1
                  have c2 : wt.cell? ⟨X, 2, none⟩ = some (.string (bs s.from_)) := HK8.out.cell 2
                  have c3 : wt.cell? ⟨X, 3, none⟩ = some (.string (bs s.mode)) := HK8.out.cell 3
                  have c4 : wt.cell? ⟨X, 4, none⟩ = some (.bool s.force) := HK8.out.cell 4
                  have c5 : wt.cell? ⟨X, 5, none⟩ = some (.slice Ap s.pairs.length kp) := HK8.out.cell 5
                  have c6 : wt.cell? ⟨X, 6, none⟩ = some (.bool s.bare) := HK8.out.cell 6
                  have c7 : wt.cell? ⟨X, 7, none⟩ = some (.slice Aw s.words.length kw) := HK8.out.cell 7
                  have c8 : wt.cell? ⟨X, 8, none⟩ = some (.slice Ad s.docs.length kd) := HK8.out.cell 8
                  have c9 : wt.cell? ⟨X, 9, none⟩ = some (.slice Ae s.exec.length ke) := HK8.out.cell 9
                  go_wp2_with (at_builtin; refine wpList_appS rfl _ _ _ rfl stpKe (G8 + 1 + 1) _ l9.length (smC l9) rfl (HO8.out.alloc _) _ 1 (smL (⟨{ s with line := (P : Int) + 1 }, .slice Ap s.pairs.length kp, .slice Aw s.words.length kw, .slice Ad s.docs.length kd, .slice Ae s.exec.length ke⟩ : SM)) rfl (SlA.blk (cs := smL (⟨{ s with line := (P : Int) + 1 }, .slice Ap s.pairs.length kp, .slice Aw s.words.length kw, .slice Ad s.docs.length kd, .slice Ae s.exec.length ke⟩ : SM)) (Blk.new _ _ _)) rfl (smL_one HMO.out) (by omega) (by omega) (Below.refl _ _) (by rw [World.size_alloc]; omega) ?_; intro v1 w9 ho1 hb1 hg1 hat1; have hk9 := (HKt8.out.alloc (.cells #[.int .i64 s.op, .int .i64 ((P : Int) + 1), .string (bs s.from_), .string (bs s.mode), .bool s.force, .slice Ap s.pairs.length kp, .bool s.bare, .slice Aw s.words.length kw, .slice Ad s.docs.length kd, .slice Ae s.exec.length ke] 41)).below hb1 (by omega); have k9 : w9.cell? ⟨G8 + 1, 3, none⟩ = some (.slice A9 l9.length q9) := hk9.cell 3; have f9 := hk9.frozen 3; have HK9 : Hid (Blk (w9.setCell ⟨G8 + 1, 3, none⟩ v1) (G8 + 1) 53 #[.int .i64 ((N : Int) + 1), .string (bs base), .string (bs name), v1]) := Lib.hid (by have r := hk9.set_ 3 v1; simpa using r); have HQ := Lib.hid (below_set' ((HB8.out.alloc (by omega) (.cells #[.int .i64 s.op, .int .i64 ((P : Int) + 1), .string (bs s.from_), .string (bs s.mode), .bool s.force, .slice Ap s.pairs.length kp, .bool s.bare, .slice Aw s.words.length kw, .slice Ad s.docs.length kd, .slice Ae s.exec.length ke] 41)).trans (hb1.mono (by omega))) ⟨G8 + 1, 3, none⟩ v1 (Nat.le_refl _) (Nat.le_refl _)); have HO9 := Lib.hid (own_set ho1 (i := 3) (by omega : G8 + 1 < G8 + 1 + 1) v1); obtain ⟨B1, qB, rfl⟩ := ownk_form ho1; clear hk9 ho1 hb1 hg1 hat1)
                  have HO9' : Hid ((w9.setCell ⟨G8 + 1, 3, none⟩ (.slice B1 (l9.length + 1) qB)).ownsRow (G8 + 1 + 1) 41 10 (.slice B1 (l9.length + 1) qB) (l9 ++ [(⟨{ s with line := (P : Int) + 1 }, .slice Ap s.pairs.length kp, .slice Aw s.words.length kw, .slice Ad s.docs.length kd, .slice Ae s.exec.length ke⟩ : SM)]).length (smC (l9 ++ [(⟨{ s with line := (P : Int) + 1 }, .slice Ap s.pairs.length kp, .slice Aw s.words.length kw, .slice Ad s.docs.length kd, .slice Ae s.exec.length ke⟩ : SM)]))) := Lib.hid (by rw [List.length_append, show smC (l9 ++ [(⟨{ s with line := (P : Int) + 1 }, .slice Ap s.pairs.length kp, .slice Aw s.words.length kw, .slice Ad s.docs.length kd, .slice Ae s.exec.length ke⟩ : SM)]) = smC l9 ++ smL (⟨{ s with line := (P : Int) + 1 }, .slice Ap s.pairs.length kp, .slice Aw s.words.length kw, .slice Ad s.docs.length kd, .slice Ae s.exec.length ke⟩ : SM) by simp [smC]]; exact HO9.out)
                  have HL2 : Hid ((l9 ++ [(⟨{ s with line := (P : Int) + 1 }, .slice Ap s.pairs.length kp, .slice Aw s.words.length kw, .slice Ad s.docs.length kd, .slice Ae s.exec.length ke⟩ : SM)]).map SM.s = Ck.numA ((N : Int) + 1) ((ms.take (q + 1)).map SM.s)) := Lib.hid (by
                    rw [HTK.out, Ck.numA_snoc, List.map_append, HL9.out, HTL.out, show (N : Int) + 1 + (q : Int) + 1 = (P : Int) + 1 by have := HP.out; omega]
                    rfl)
                  have HOM2 : Hid (∀ m ∈ l9 ++ [(⟨{ s with line := (P : Int) + 1 }, .slice Ap s.pairs.length kp, .slice Aw s.words.length kw, .slice Ad s.docs.length kd, .slice Ae s.exec.length ke⟩ : SM)], m.Ok w) := Lib.hid fun m hm => by
                    rcases List.mem_append.1 hm with hm | hm
                    · exact HOM.out m hm
                    · rw [List.mem_singleton] at hm; subst hm; exact HMO.out
                  have HP2 : Hid (P + 1 = N + 1 + (q + 1)) := Lib.hid (by have := HP.out; omega)
                  have hP7 : P + 1 ≤ 1050000 := by have := HP.out; omega
                  go_roundw
                  case rel => first | exact ⟨q + 1, P + 1, _, _, by omega, by go_num, by go_num, HP2, hP7, HK9, HO9', by simp; omega, HL2, HOM2, HQ⟩ | exact ⟨_, _, _, ⟨q + 1, P + 1, _, _, by omega, by go_num, by go_num, HP2, hP7, HK9, HO9', by simp; omega, HL2, HOM2, HQ⟩, rfl, rfl, rfl⟩
                  case measure => simp [intOf]; omega
                · have i2 : decide ((q : Int) < (ms.length : Int)) = false := by rw [decide_eq_false_iff_not]; omega
                  have e2n : decide (q < ms.length) = false := by rw [decide_eq_false_iff_not]; omega
                  have b3 : wu.cell? ⟨G8, 3, none⟩ = some (.slice A ms.length k) := hKs.cell 3
                  obtain ⟨AS, qS, rfl⟩ := ownk_form HFu.out.rS
                  have b2 : wu.cell? ⟨G, 2, none⟩ = some (.slice AS lS.length qS) := HFu.out.blk.cell 2
                  have c0 : wu.cell? ⟨G8 + 1, 0, none⟩ = some (.int .i64 ((N : Int) + 1)) := HKt.out.cell 0
                  have c1 : wu.cell? ⟨G8 + 1, 1, none⟩ = some (.string (bs base)) := HKt.out.cell 1
                  have c2 : wu.cell? ⟨G8 + 1, 2, none⟩ = some (.string (bs name)) := HKt.out.cell 2
                  have c3 : wu.cell? ⟨G8 + 1, 3, none⟩ = some (.slice A9 l9.length q9) := HKt.out.cell 3
                  have hgl : ∀ u ∈ ([.int .i64 ((N : Int) + 1), .string (bs base), .string (bs name), .slice A9 l9.length q9] : List Value), u.oneCell' = true := fun u hu => by
                    simp only [List.mem_cons, List.not_mem_nil, or_false] at hu
                    rcases hu with rfl | rfl | rfl | rfl <;> rfl
                  have HGL := Lib.hid hgl
                  have HO3 := Lib.hid (own_mono HO.out (by omega : G + 1 ≤ G8 + 1 + 1))
                  have HBx := Lib.hid (HB.out.trans (HWu.out.mono (by have := HF.out.size; omega)))
                  have HPN : Hid (P = i + Ck.tot ((stages.take (j + 1)).map GM.sg)) := Lib.hid (by
                    have r1 := HP.out
                    have r2 := HN.out
                    rw [HUP.out, Ck.tot_snoc, show (GM.sg ⟨line, base, name, .slice A ms.length k, ms⟩).steps.length = ms.length from List.length_map _]
                    omega)
                  have HL2 : Hid (l9.map SM.s = Ck.numA ((N : Int) + 1) (ms.map SM.s)) := Lib.hid (by have r := HL9.out; rwa [List.take_of_length_le (by omega)] at r)
                  clear hgl hKs HL9
                  go_wp2_with (at_builtin; refine wpList_appS rfl _ _ _ rfl stgKe (G + 1) _ lS.length (gmC lS) rfl (HFu.out.rS.alloc _) _ 1 [.int .i64 ((N : Int) + 1), .string (bs base), .string (bs name), .slice A9 l9.length q9] rfl (SlA.blk (cs := [.int .i64 ((N : Int) + 1), .string (bs base), .string (bs name), .slice A9 l9.length q9]) (Blk.new _ _ _)) rfl HGL.out (by omega) (by omega) (Below.refl _ _) (by rw [World.size_alloc]; omega) ?_; intro v1 w9 ho1 hb1 hg1 hat1; have hk9 := (HFu.out.alloc (.cells ([.int .i64 ((N : Int) + 1), .string (bs base), .string (bs name), .slice A9 l9.length q9] : List Value).toArray 53)).blk.below hb1 HFu.out.hG; have k9 : w9.cell? ⟨G, 2, none⟩ = some (.slice AS lS.length qS) := hk9.cell 2; have f9 := hk9.frozen 2; have HPu := Lib.hid ((HFu.out.alloc (.cells ([.int .i64 ((N : Int) + 1), .string (bs base), .string (bs name), .slice A9 l9.length q9] : List Value).toArray 53)).pushS (g := (⟨(N : Int) + 1, base, name, .slice A9 l9.length q9, l9⟩ : GM)) (HO3.out.alloc _) HOM.out ho1 hb1 hg1); have HQ := Lib.hid (below_set' ((HBx.out.alloc (by omega) (.cells ([.int .i64 ((N : Int) + 1), .string (bs base), .string (bs name), .slice A9 l9.length q9] : List Value).toArray 53)).trans (hb1.mono (by omega))) ⟨G, 2, none⟩ v1 (Nat.le_refl _) (Nat.le_refl _)); obtain ⟨B1, qB, rfl⟩ := ownk_form ho1; clear hk9 ho1 hb1 hg1 hat1)
                  have HLS2 : Hid ((lS ++ [(⟨(N : Int) + 1, base, name, .slice A9 l9.length q9, l9⟩ : GM)]).map GM.sg = Ck.numG i ((stages.take (j + 1)).map GM.sg)) := Lib.hid (by
                    rw [HUP.out, Ck.numG_snoc, List.map_append, HLS.out, show (i : Int) + (Ck.tot ((stages.take j).map GM.sg) : Int) + 1 = (N : Int) + 1 by have := HN.out; omega]
                    congr 1
                    show [GM.sg (⟨(N : Int) + 1, base, name, .slice A9 l9.length q9, l9⟩ : GM)] = [(⟨(N : Int) + 1, base, name, Ck.numA ((N : Int) + 1) (ms.map SM.s)⟩ : Ck.Sg)]
                    rw [← HL2.out]; rfl)
                  go_roundw
                  case rel => first | exact ⟨j + 1, P, _, _, by omega, rfl, by go_num, HPu, HQ, by simp; omega, hP6, HPN, HLS2⟩ | exact ⟨_, _, _, _, _, _, ⟨j + 1, P, _, _, by omega, rfl, by go_num, HPu, HQ, by simp; omega, hP6, HPN, HLS2⟩, rfl, rfl, rfl, rfl, rfl, rfl⟩
                  case measure => simp [intOf]; omega
            · have i0 : decide ((j : Int) < (ng : Int)) = false := by rw [decide_eq_false_iff_not]; omega
              have e0n : decide (j < ng) = false := by rw [decide_eq_false_iff_not]; omega
              have b2 : wv.cell? ⟨w.heap.size, 2, none⟩ = some (.slice Ag ng kg) := hKr.cell 2
              obtain ⟨AA, qA, rfl⟩ := ownk_form HF.out.rA
              obtain ⟨AS, qS, rfl⟩ := ownk_form HF.out.rS
              have hgd := HGd.out
              have HNT : Hid (N = i + Ck.tot (stages.map GM.sg)) := Lib.hid (by have r := HN.out; rwa [List.take_of_length_le (by have := HNG.out; omega)] at r)
              have hN1 : 1 ≤ N := by have := HNT.out; have := HTT.out; have := hgd.1; omega
              have HNU : Hid (FM.fl (⟨e, .slice AA lA.length qA, lA, .slice AS lS.length qS, lS⟩ : FM) = Ck.numbered (FM.fl (⟨e, .slice Aa i ka, args, .slice Ag ng kg, stages⟩ : FM))) := Lib.hid (by
                have r1 := HLA.out
                have r2 := HLS.out
                rw [List.take_of_length_le (by have := HNG.out; omega)] at r2
                show (⟨e, lA.map SM.s, lS.map GM.sg⟩ : Ck.Fl) = ⟨e, Ck.numA 0 (args.map SM.s), Ck.numG ((args.map SM.s).length) (stages.map GM.sg)⟩
                rw [r1, r2, List.length_map, HNA.out])
              have HFM : Hid (FM.Ok wv (⟨e, .slice AA lA.length qA, lA, .slice AS lS.length qS, lS⟩ : FM)) := Lib.hid HF.out.file
              have HSN : Hid (Ck.numbered (FM.fl (⟨e, .slice Aa i ka, args, .slice Ag ng kg, stages⟩ : FM))).Small := Lib.hid (Ck.small_numbered HSF.out)
              have HNE : Hid (stages.map GM.sg ≠ []) := Lib.hid (by
                intro q
                have q2 := congrArg List.length q
                rw [List.length_map, HNG.out] at q2
                have q3 := hgd.1
                have q4 : ng = 0 := q2
                omega)
              have HFST : Hid (∀ b, Ck.fileL (Ck.upTo b (Ck.numbered (FM.fl (⟨e, .slice Aa i ka, args, .slice Ag ng kg, stages⟩ : FM)))) = Ck.cutO b (Ck.fileL (Ck.numbered (FM.fl (⟨e, .slice Aa i ka, args, .slice Ag ng kg, stages⟩ : FM))))) := Lib.hid (fun b => Ck.numbered_first b hgd.2.2.2 HNE.out (by show (stages.map GM.sg).length ≤ 32; rw [List.length_map, HNG.out]; exact hgd.2.1) (by rw [HCT.out]; exact hgd.2.2.1))
              have HNL : Hid (∀ k l, Ck.fileL (Ck.numbered (FM.fl (⟨e, .slice Aa i ka, args, .slice Ag ng kg, stages⟩ : FM))) = some (k, l) → 1 ≤ l ∧ l ≤ (N : Int)) := Lib.hid (fun k l r => by
                have q := Ck.num_line hgd.2.2.2 HNE.out (by show (stages.map GM.sg).length ≤ 32; rw [List.length_map, HNG.out]; exact hgd.2.1) (by rw [HCT.out]; exact hgd.2.2.1) r
                rw [show (FM.fl (⟨e, .slice Aa i ka, args, .slice Ag ng kg, stages⟩ : FM)).args.length = i from (List.length_map _).trans HNA.out] at q
                rw [HNT.out]
                exact q)
              have HSU : Hid (∀ b, (Ck.upTo b (Ck.numbered (FM.fl (⟨e, .slice Aa i ka, args, .slice Ag ng kg, stages⟩ : FM)))).Small) := Lib.hid (fun b => Ck.small_upTo b HSN.out (by
                show 1 ≤ (Ck.numG ((args.map SM.s).length) (stages.map GM.sg)).length
                rw [Ck.numG_len, List.length_map, HNG.out]; exact hgd.1))
              have HOKN : Hid (OkN (Ck.fileL (Ck.numbered (FM.fl (⟨e, .slice Aa i ka, args, .slice Ag ng kg, stages⟩ : FM))))) := Lib.hid (Ck.file_ok _)
              obtain ⟨XF, HXF⟩ : ∃ y, Hid (Ck.numbered (FM.fl (⟨e, .slice Aa i ka, args, .slice Ag ng kg, stages⟩ : FM)) = y) := ⟨_, Lib.hid rfl⟩
              rw [HXF.out] at HNU HSN HFST HNL HSU HOKN
              obtain ⟨x, HX⟩ : ∃ x, Hid (Ck.fileL XF = x) := ⟨_, Lib.hid rfl⟩
              have PV : Hid (Below wv.heap.size wv wv) := Lib.hid (Below.refl _ _)
              have PW : Hid (Below w.heap.size w wv) := Lib.hid HF.out.h0
              have HWV : Hid (w.heap.size ≤ wv.heap.size) := Lib.hid HF.out.h0.size
              clear hgd HXF
              have g0 : wv.cell? ⟨G, 0, none⟩ = some (.int .u8 (e.toNat : Int)) := (HF.out.new PV.out).blk.cell 0
              have g1 : wv.cell? ⟨G, 1, none⟩ = some (.slice AA lA.length qA) := (HF.out.new PV.out).blk.cell 1
              have g2 : wv.cell? ⟨G, 2, none⟩ = some (.slice AS lS.length qS) := (HF.out.new PV.out).blk.cell 2
              go_wp2_with fail
              refine (file_any (⟨e, .slice AA lA.length qA, lA, .slice AS lS.length qS, lS⟩ : FM) wv HFM.out (by rw [HNU.out]; exact HSN.out) (HT.out.new PW.out) (HM.out.grow PW.out) (HV.out.below PW.out HV.out.lt) (Lib.hid ((congrArg Ck.fileL HNU.out).trans HX.out))).mono ?_
              rintro r w5 ⟨hr, p5⟩
              have PVn := Lib.hid (PV.out.trans (p5.mono PV.out.size))
              clear PV PW p5 g0 g1 g2 b2
              have PV := PVn
              clear PVn
              have PW := Lib.hid (HF.out.h0.trans (PV.out.mono HWV.out))
              have hT' := Lib.hid (HT.out.new PW.out)
              have hV' := Lib.hid (HV.out.below PW.out HV.out.lt)
              have hM' := Lib.hid (HM.out.grow PW.out)
              rcases x with _ | ⟨k, l⟩
              · obtain rfl : r = .returned .nilIface := hr
                obtain ⟨p, HPK⟩ : ∃ p, Hid (pick ln (N : Int) = p) := ⟨_, Lib.hid rfl⟩
                have hp := pick_range ln (N : Int) (by omega)
                rw [HPK.out] at hp
                have hp1 : 0 ≤ p := hp.1
                have hp2 : p ≤ 1050000 := by have := hp.2; omega
                clear hp
                have HY : Hid (Ck.fileL (Ck.upTo (1 + p) XF) = none) := Lib.hid (by rw [HFST.out, HX.out]; rfl)
                go_upto_region 28 with fail
                refine' wp_region_rely (fun wx => Below w5.heap.size w5 wx) (VF (Ck.upTo (1 + p) XF) [.agg #[.int .u8 (e.toNat : Int), .slice AA lA.length qA, .slice AS lS.length qS], .int .i64 ln, .int .i64 (N : Int), .int .i64 p, .int .i64 (1 + p), undef, .nilIface, .bool true, .bool true, .bool true, .bool true, .bool true]) ?F ?hF (by kernel_rfl) (by kernel_rfl) (by kernel_rfl) (Below.refl _ _).drew ?hsteps ?hQ
                case hF =>
                  intro xs
                  refine (frameX_eq _ _ _).trans ?_
                  simp only [frameL, Act.put, List.setIfInBounds_toArray, List.set_cons_zero, List.set_cons_succ, Nat.reduceAdd, Nat.zero_add]
                  exact rfl
                case hsteps =>
                  refine Steps.cons (n := []) (k := 1) rfl (by kernel_rfl) (fun xs wx hS hV K hK => ?_) ?_
                  · clear hV
                    have PX := PV.out.trans (hS.mono PV.out.size)
                    have PXW := HF.out.h0.trans (PX.mono HWV.out)
                    have g0 : wx.cell? ⟨G, 0, none⟩ = some (.int .u8 (e.toNat : Int)) := (HF.out.new PX).blk.cell 0
                    have g1 : wx.cell? ⟨G, 1, none⟩ = some (.slice AA lA.length qA) := (HF.out.new PX).blk.cell 1
                    have g2 : wx.cell? ⟨G, 2, none⟩ = some (.slice AS lS.length qS) := (HF.out.new PX).blk.cell 2
                    go_simp
                    exact hK.out _ _ hS rfl (fun _ _ h => h)
                  refine Steps.cons (n := []) (k := 2) rfl (by kernel_rfl) (fun xs wx hS hV K hK => ?_) ?_
                  · clear hV
                    go_simp
                    exact hK.out _ _ hS rfl (fun _ _ h => h)
                  refine Steps.cons (n := []) (k := 3) rfl (by kernel_rfl) (fun xs wx hS hV K hK => ?_) ?_
                  · clear hV
                    go_simp
                    exact hK.out _ _ hS rfl (fun _ _ h => h)
                  refine Steps.cons (n := [1, 2]) (k := 4) rfl (by kernel_rfl) (fun xs wx hS hV K hK => ?_) ?_
                  · obtain ⟨d1, d2, -⟩ := hV
                    replace d1 : xs 1 = .int .i64 ln := (Option.some.inj d1).symm
                    replace d2 : xs 2 = .int .i64 (N : Int) := (Option.some.inj d2).symm
                    rw [d1, d2] at hK ⊢
                    go_simp
                    refine (pick_any ln (N : Int) (by omega) (by omega) HLN.out.1 HLN.out.2 wx).mono ?_
                    rintro r w2 ⟨hr, rfl⟩
                    obtain rfl : r = .returned (.int .i64 p) := by rw [hr, HPK.out]
                    exact hK.out _ _ hS rfl (fun _ _ h => h)
                  refine Steps.cons (n := [3]) (k := 5) rfl (by kernel_rfl) (fun xs wx hS hV K hK => ?_) ?_
                  · obtain ⟨d3, -⟩ := hV
                    replace d3 : xs 3 = .int .i64 p := (Option.some.inj d3).symm
                    rw [d3] at hK ⊢
                    go_simp
                    rw [IntWalk.i64_in (1 + p) (by omega)]
                    exact hK.out _ _ hS rfl (fun _ _ h => h)
                  refine Steps.cons (n := [0, 4]) (k := 6) rfl (by kernel_rfl) (fun xs wx hS hV K hK => ?_) ?_
                  · obtain ⟨d0, d4, -⟩ := hV
                    replace d0 : xs 0 = .agg #[.int .u8 (e.toNat : Int), .slice AA lA.length qA, .slice AS lS.length qS] := (Option.some.inj d0).symm
                    replace d4 : xs 4 = .int .i64 (1 + p) := (Option.some.inj d4).symm
                    rw [d0, d4] at hK ⊢
                    go_simp
                    have PX := PV.out.trans (hS.mono PV.out.size)
                    have PXW := HF.out.h0.trans (PX.mono HWV.out)
                    refine (upto_any (⟨e, .slice AA lA.length qA, lA, .slice AS lS.length qS, lS⟩ : FM) (1 + p) wx (HFM.out.new PX) (by rw [HNU.out]; exact HSN.out) (by omega) (by omega)).mono ?_
                    rintro r w2 ⟨f2, rfl, ok2, q2, p2⟩
                    exact hK.out _ _ (hS.trans (p2.mono hS.size)) ⟨f2, rfl, ok2, q2.trans (congrArg (Ck.upTo (1 + p)) HNU.out)⟩ (VF.new p2)
                  refine Steps.cons (n := [5]) (k := 7) rfl (by kernel_rfl) (fun xs wx hS hV K hK => ?_) ?_
                  · obtain ⟨d5, -⟩ := hV
                    obtain ⟨f2, d5, ok2, q2⟩ := d5
                    rw [d5] at hK ⊢
                    go_simp
                    have PX := PV.out.trans (hS.mono PV.out.size)
                    have PXW := HF.out.h0.trans (PX.mono HWV.out)
                    refine (file_any f2 wx ok2 (by rw [q2]; exact HSU.out _) (HT.out.new PXW) (HM.out.grow PXW) (HV.out.below PXW HV.out.lt) (Lib.hid ((congrArg Ck.fileL q2).trans HY.out))).mono ?_
                    rintro r w2 ⟨hr, p2⟩
                    obtain rfl : r = .returned (.nilIface) := hr
                    exact hK.out _ _ (hS.trans (p2.mono hS.size)) rfl (VF.new p2)
                  refine Steps.cons (n := [6]) (k := 8) rfl (by kernel_rfl) (fun xs wx hS hV K hK => ?_) ?_
                  · obtain ⟨d6, -⟩ := hV
                    replace d6 : xs 6 = .nilIface := (Option.some.inj d6).symm
                    rw [d6] at hK ⊢
                    go_simp
                    exact hK.out _ _ hS rfl (fun _ _ h => h)
                  refine Steps.cons (n := [7]) (k := 9) rfl (by kernel_rfl) (fun xs wx hS hV K hK => ?_) ?_
                  · obtain ⟨d7, -⟩ := hV
                    replace d7 : xs 7 = .bool true := (Option.some.inj d7).symm
                    rw [d7] at hK ⊢
                    go_simp
                    exact hK.out _ _ hS rfl (fun _ _ h => h)
                  refine Steps.cons (n := [8]) (k := 10) rfl (by kernel_rfl) (fun xs wx hS hV K hK => ?_) ?_
                  · obtain ⟨d8, -⟩ := hV
                    replace d8 : xs 8 = .bool true := (Option.some.inj d8).symm
                    rw [d8] at hK ⊢
                    go_simp
                    have PX := PV.out.trans (hS.mono PV.out.size)
                    have PXW := HF.out.h0.trans (PX.mono HWV.out)
                    refine (works_ck wx (HT.out.new PXW) (HV.out.below PXW HV.out.lt) (HM.out.grow PXW)).mono ?_
                    rintro r w2 ⟨rfl, p2⟩
                    exact hK.out _ _ (hS.trans (p2.mono hS.size)) rfl (VF.new p2)
                  refine Steps.cons (n := [8, 9]) (k := 11) rfl (by kernel_rfl) (fun xs wx hS hV K hK => ?_) ?_
                  · obtain ⟨d8, d9, -⟩ := hV
                    replace d8 : xs 8 = .bool true := (Option.some.inj d8).symm
                    replace d9 : xs 9 = .bool true := (Option.some.inj d9).symm
                    rw [d8, d9] at hK ⊢
                    go_simp
                    exact hK.out _ _ hS rfl (fun _ _ h => h)
                  refine Steps.cons (n := [10]) (k := 12) rfl (by kernel_rfl) (fun xs wx hS hV K hK => ?_) ?_
                  · obtain ⟨d10, -⟩ := hV
                    replace d10 : xs 10 = .bool true := (Option.some.inj d10).symm
                    rw [d10] at hK ⊢
                    go_simp
                    exact hK.out _ _ hS rfl (fun _ _ h => h)
                  exact Steps.nil
                case hQ =>
                  intro xs wx hS hV
                  have d11 : xs 11 = .bool true := (Option.some.inj (hV 11 (by decide))).symm
                  rw [d11]
                  go_wp2_with fail
                  go_ret
                  exact ⟨rfl, PW.out.trans (hS.mono PW.out.size)⟩
              · obtain rfl : r = .returned (eFault (k : Int) l 0) := hr
                obtain ⟨q1, q2⟩ := HOKN.out k l HX.out
                obtain ⟨q3, q4⟩ := HNL.out k l HX.out
                have l0 : decide (l < 1) = false := by rw [decide_eq_false_iff_not]; omega
                have l1 : decide ((N : Int) < l) = false := by rw [decide_eq_false_iff_not]; omega
                have l2 : ¬ l < 1 := by omega
                have l3 : ¬ (N : Int) < l := by omega
                have HY : Hid (Ck.fileL (Ck.upTo l XF) = some (k, l)) := Lib.hid (by rw [HFST.out, HX.out]; exact Ck.cut_in (Int.le_refl _))
                have HZ : Hid (Ck.fileL (Ck.upTo (l - 1) XF) = none) := Lib.hid (by rw [HFST.out, HX.out]; exact Ck.cut_out (by show ¬ l ≤ l - 1; omega))
                go_wp2_with fail
                refine (place_fault (k : Int) l 0 (by omega) (by omega) w5 hV'.out).mono ?_
                rintro r w6 ⟨rfl, p6⟩
                have PVn := Lib.hid (PV.out.trans (p6.mono PV.out.size))
                clear PV PW p6 hT' hV' hM'
                have PV := PVn
                clear PVn
                have PW := Lib.hid (HF.out.h0.trans (PV.out.mono HWV.out))
                have hT' := Lib.hid (HT.out.new PW.out)
                have hV' := Lib.hid (HV.out.below PW.out HV.out.lt)
                have hM' := Lib.hid (HM.out.grow PW.out)
                have g0 : w6.cell? ⟨G, 0, none⟩ = some (.int .u8 (e.toNat : Int)) := (HF.out.new PV.out).blk.cell 0
                have g1 : w6.cell? ⟨G, 1, none⟩ = some (.slice AA lA.length qA) := (HF.out.new PV.out).blk.cell 1
                have g2 : w6.cell? ⟨G, 2, none⟩ = some (.slice AS lS.length qS) := (HF.out.new PV.out).blk.cell 2
                go_wp2_with fail
                refine (upto_any (⟨e, .slice AA lA.length qA, lA, .slice AS lS.length qS, lS⟩ : FM) (l) w6 (HFM.out.new PV.out) (by rw [HNU.out]; exact HSN.out) (by omega) (by omega)).mono ?_
                rintro r w7 ⟨⟨e2, va2, ar2, vg2, st2⟩, hr, ok2, qq2, p7⟩
                obtain rfl : r = .returned (.agg #[.int .u8 (e2.toNat : Int), va2, vg2]) := hr
                have OK2 := Lib.hid ok2
                have Q2 := Lib.hid (qq2.trans (congrArg (Ck.upTo (l)) HNU.out))
                clear ok2 qq2
                have PVn := Lib.hid (PV.out.trans (p7.mono PV.out.size))
                clear PV PW p7 hT' hV' hM' g0 g1 g2
                have PV := PVn
                clear PVn
                have PW := Lib.hid (HF.out.h0.trans (PV.out.mono HWV.out))
                have hT' := Lib.hid (HT.out.new PW.out)
                have hV' := Lib.hid (HV.out.below PW.out HV.out.lt)
                have hM' := Lib.hid (HM.out.grow PW.out)
                go_wp2_with fail
                refine (file_any (⟨e2, va2, ar2, vg2, st2⟩ : FM) w7 OK2.out (by rw [Q2.out]; exact HSU.out _) hT'.out hM'.out hV'.out (Lib.hid ((congrArg Ck.fileL Q2.out).trans HY.out))).mono ?_
                rintro r w7f ⟨hr, p7f⟩
                obtain rfl : r = .returned (eFault (k : Int) l 0) := hr
                clear OK2 Q2
                have PVn := Lib.hid (PV.out.trans (p7f.mono PV.out.size))
                clear PV PW p7f hT' hV' hM'
                have PV := PVn
                clear PVn
                have PW := Lib.hid (HF.out.h0.trans (PV.out.mono HWV.out))
                have hT' := Lib.hid (HT.out.new PW.out)
                have hV' := Lib.hid (HV.out.below PW.out HV.out.lt)
                have hM' := Lib.hid (HM.out.grow PW.out)
                go_wp2_with fail
                refine (num_fault (k : Int) l 0 (by omega) (by omega) _).mono ?_
                rintro r w8 ⟨rfl, p8⟩
                have PVn := Lib.hid (PV.out.trans (p8.mono PV.out.size))
                clear PV PW p8 hT' hV' hM'
                have PV := PVn
                clear PVn
                have PW := Lib.hid (HF.out.h0.trans (PV.out.mono HWV.out))
                have hT' := Lib.hid (HT.out.new PW.out)
                have hV' := Lib.hid (HV.out.below PW.out HV.out.lt)
                have hM' := Lib.hid (HM.out.grow PW.out)
                go_wp2_with fail
                refine (told_fault (k : Int) l (by omega) (by omega) w8 hV'.out).mono ?_
                rintro r w9 ⟨rfl, p9⟩
                have PVn := Lib.hid (PV.out.trans (p9.mono PV.out.size))
                clear PV PW p9 hT' hV' hM'
                have PV := PVn
                clear PVn
                have PW := Lib.hid (HF.out.h0.trans (PV.out.mono HWV.out))
                have hT' := Lib.hid (HT.out.new PW.out)
                have hV' := Lib.hid (HV.out.below PW.out HV.out.lt)
                have hM' := Lib.hid (HM.out.grow PW.out)
                have g0 : w9.cell? ⟨G, 0, none⟩ = some (.int .u8 (e.toNat : Int)) := (HF.out.new PV.out).blk.cell 0
                have g1 : w9.cell? ⟨G, 1, none⟩ = some (.slice AA lA.length qA) := (HF.out.new PV.out).blk.cell 1
                have g2 : w9.cell? ⟨G, 2, none⟩ = some (.slice AS lS.length qS) := (HF.out.new PV.out).blk.cell 2
                rcases Int.lt_or_le 1 l with hl | hl
                rotate_left
                · have k1 : (l == 1) = true := by rw [beq_iff_eq]; omega
                  have k2 : l = 1 := by omega
                  go_wp2_with fail
                  refine (works_ck w9 hT'.out hV'.out hM'.out).mono ?_
                  rintro r w10 ⟨rfl, p10⟩
                  have PVn := Lib.hid (PV.out.trans (p10.mono PV.out.size))
                  clear PV PW p10 hT' hV' hM'
                  have PV := PVn
                  clear PVn
                  have PW := Lib.hid (HF.out.h0.trans (PV.out.mono HWV.out))
                  have hT' := Lib.hid (HT.out.new PW.out)
                  have hV' := Lib.hid (HV.out.below PW.out HV.out.lt)
                  have hM' := Lib.hid (HM.out.grow PW.out)
                  go_wp2_with fail
                  go_ret
                  exact ⟨rfl, PW.out⟩
                have k1 : (l == 1) = false := by rw [beq_eq_false_iff_ne]; omega
                have k2 : ¬ l = 1 := by omega
                go_wp2_with fail
                refine (upto_any (⟨e, .slice AA lA.length qA, lA, .slice AS lS.length qS, lS⟩ : FM) (l - 1) w9 (HFM.out.new PV.out) (by rw [HNU.out]; exact HSN.out) (by omega) (by omega)).mono ?_
                rintro r w10 ⟨⟨e2, va2, ar2, vg2, st2⟩, hr, ok2, qq2, p10⟩
                obtain rfl : r = .returned (.agg #[.int .u8 (e2.toNat : Int), va2, vg2]) := hr
                have OK2 := Lib.hid ok2
                have Q2 := Lib.hid (qq2.trans (congrArg (Ck.upTo (l - 1)) HNU.out))
                clear ok2 qq2
                have PVn := Lib.hid (PV.out.trans (p10.mono PV.out.size))
                clear PV PW p10 hT' hV' hM' g0 g1 g2
                have PV := PVn
                clear PVn
                have PW := Lib.hid (HF.out.h0.trans (PV.out.mono HWV.out))
                have hT' := Lib.hid (HT.out.new PW.out)
                have hV' := Lib.hid (HV.out.below PW.out HV.out.lt)
                have hM' := Lib.hid (HM.out.grow PW.out)
                go_wp2_with fail
                refine (file_any (⟨e2, va2, ar2, vg2, st2⟩ : FM) w10 OK2.out (by rw [Q2.out]; exact HSU.out _) hT'.out hM'.out hV'.out (Lib.hid ((congrArg Ck.fileL Q2.out).trans HZ.out))).mono ?_
                rintro r w10f ⟨hr, p10f⟩
                obtain rfl : r = .returned (.nilIface) := hr
                clear OK2 Q2
                have PVn := Lib.hid (PV.out.trans (p10f.mono PV.out.size))
                clear PV PW p10f hT' hV' hM'
                have PV := PVn
                clear PVn
                have PW := Lib.hid (HF.out.h0.trans (PV.out.mono HWV.out))
                have hT' := Lib.hid (HT.out.new PW.out)
                have hV' := Lib.hid (HV.out.below PW.out HV.out.lt)
                have hM' := Lib.hid (HM.out.grow PW.out)
                go_wp2_with fail
                refine (works_ck w10f hT'.out hV'.out hM'.out).mono ?_
                rintro r w11 ⟨rfl, p11⟩
                have PVn := Lib.hid (PV.out.trans (p11.mono PV.out.size))
                clear PV PW p11 hT' hV' hM'
                have PV := PVn
                clear PVn
                have PW := Lib.hid (HF.out.h0.trans (PV.out.mono HWV.out))
                have hT' := Lib.hid (HT.out.new PW.out)
                have hV' := Lib.hid (HV.out.below PW.out HV.out.lt)
                have hM' := Lib.hid (HM.out.grow PW.out)
                go_wp2_with fail
                go_ret
                exact ⟨rfl, PW.out⟩
end Go.Proofs.YtdaejggcjjdhkaaGreatDoor
