/- stratalaw18.few, walked. (Printed by wip/genfewx.py.) -/
import Derived.Test.YtdaejggcjjdhkaaGreatDoorCkFw
namespace Go.Proofs.YtdaejggcjjdhkaaGreatDoor
open Go Go.RowKit
/-- some bool; what was there stays. -/
def SomeB (w : World) (r : Ending) (w' : World) : Prop := ∃ b : Bool, r = .returned (.bool b) ∧ Below w.heap.size w w'
theorem le_sum {x : Nat} : ∀ {l : List Nat}, x ∈ l → x ≤ l.sum
  | [], h => by cases h
  | y :: r, h => by
    rw [List.sum_cons]
    rcases List.mem_cons.1 h with rfl | h
    · omega
    · have := le_sum h; omega
set_option maxRecDepth 100000 in
set_option maxHeartbeats 2000000 in
theorem few_any (f : FM) (w : World) (hok : f.Ok w) (hsm : f.fl.Small) : Calls Tryz.prog 10 #[.agg #[.int .u8 (f.escape.toNat : Int), f.va, f.vg]] w (SomeB w) := by
  obtain ⟨e, va, args, vg, stages⟩ := f
  have hca : StsA w va args := hok.a
  have hcg : GsA w vg stages := hok.g
  dsimp only
  obtain ⟨hsa, hsg, hsn⟩ := hsm
  clear hok
  obtain ⟨Aa, ka, rfl⟩ := hca.1.form
  obtain ⟨Ag, kg, rfl⟩ := hcg.1.form
  have hmf : ∀ (fn : Fn) (first cap : Array Value) (w : World), (Instr.makeFunc fn first cap).run Tryz.prog w = .ok (.func fn first cap) w := fun _ _ _ _ => rfl
  have hsn' : stages.length + args.length ≤ 1050000 := by
    have h1 : (FM.fl ⟨e, .slice Aa args.length ka, args, .slice Ag stages.length kg, stages⟩).stages.length = stages.length := by rw [FM.fl, List.length_map]
    have h3 := count_fl ⟨e, .slice Aa args.length ka, args, .slice Ag stages.length kg, stages⟩
    dsimp only at h3
    omega
  have HA0 := Lib.hid hca
  have HG0 := Lib.hid hcg
  have HSA : Hid (∀ m ∈ args, m.s.Small) := Lib.hid fun m hm => hsa _ (List.mem_map.2 ⟨m, hm, rfl⟩)
  have HSG : Hid (∀ g ∈ stages, ∀ m ∈ g.ms, m.s.Small) := Lib.hid fun g hg m hm => (hsg _ (List.mem_map.2 ⟨g, hg, rfl⟩)).2.2 _ (List.mem_map.2 ⟨m, hm, rfl⟩)
  have HLG : Hid (∀ g ∈ stages, g.ms.length ≤ 1050000) := Lib.hid fun g hg => by
    have h2 : g.ms.length ≤ (stages.map fun g => g.ms.length).sum := le_sum (List.mem_map.2 ⟨g, hg, rfl⟩)
    have h3 := count_fl ⟨e, .slice Aa args.length ka, args, .slice Ag stages.length kg, stages⟩
    dsimp only at h3
    omega
  obtain ⟨na, hna⟩ : ∃ n, args.length = n := ⟨_, rfl⟩
  obtain ⟨ng, hng⟩ : ∃ n, stages.length = n := ⟨_, rfl⟩
  rw [hna, hng] at hsn'
  rw [hna] at HA0
  rw [hng] at HG0
  have HNA := Lib.hid hna
  have HNG := Lib.hid hng
  rw [hna, hng]
  clear hna hng hsn hca hcg hsa hsg
  go_enter Tryz.func10, Tryz.ntmps10
  go_upto_region 3 with fail
  obtain ⟨w1, hw1⟩ : ∃ y, ((((w.alloc (.cells #[.int .u8 (e.toNat : Int), .slice Aa na ka, .slice Ag ng kg] 25)).alloc (.cells #[.int .i64 ((ng : Int) + (na : Int))] 3)).alloc (.cells #[.int .i64 0] 3)).alloc (.cells #[.int .i64 0] 3)) = y := ⟨_, rfl⟩
  have HB1 : Hid (Below w.heap.size w w1) := Lib.hid (by
    rw [← hw1]
    exact ((((Below.refl w.heap.size w).alloc (Nat.le_refl _) _).alloc (by simp only [World.size_alloc]; omega) _).alloc (by simp only [World.size_alloc]; omega) _).alloc (by simp only [World.size_alloc]; omega) _)
  have HK1 : Hid (Blk w1 w.heap.size 25 #[.int .u8 (e.toNat : Int), .slice Aa na ka, .slice Ag ng kg]) := Lib.hid (by
    rw [← hw1]
    exact (((Blk.new w _ _).alloc _).alloc _).alloc _)
  have HF1 : Hid (FW (w.heap.size + 1) (w.heap.size + 1) (w.heap.size + 1 + 1) (w.heap.size + 1 + 1 + 1) w1 w1) := Lib.hid (by
    have q1 := Blk.new (w.alloc (.cells #[.int .u8 (e.toNat : Int), .slice Aa na ka, .slice Ag ng kg] 25)) 3 #[.int .i64 ((ng : Int) + (na : Int))]
    have q2 := Blk.new ((w.alloc (.cells #[.int .u8 (e.toNat : Int), .slice Aa na ka, .slice Ag ng kg] 25)).alloc (.cells #[.int .i64 ((ng : Int) + (na : Int))] 3)) 3 #[.int .i64 0]
    have q3 := Blk.new (((w.alloc (.cells #[.int .u8 (e.toNat : Int), .slice Aa na ka, .slice Ag ng kg] 25)).alloc (.cells #[.int .i64 ((ng : Int) + (na : Int))] 3)).alloc (.cells #[.int .i64 0] 3)) 3 #[.int .i64 0]
    simp only [World.size_alloc] at q1 q2 q3
    rw [← hw1]
    exact ⟨Below.refl _ _, by simp only [World.size_alloc]; omega, ⟨_, (q1.alloc _).alloc _⟩, ⟨_, q2.alloc _⟩, ⟨_, q3⟩, by omega, by omega, by omega, by omega, by omega, by omega⟩)
  rw [hw1]
  clear hw1
  have b1 : w1.cell? ⟨w.heap.size, 1, none⟩ = some (.slice Aa na ka) := HK1.out.cell 1
  go_wp2_with fail
  refine (add_any (w.heap.size + 1) (w.heap.size + 1 + 1) (w.heap.size + 1 + 1 + 1) (w.heap.size + 1) args _ w w1 HA0.out HB1.out (by omega) HF1.out (by rw [HNA.out]; omega) HSA.out).mono ?_
  rintro r w2 ⟨rfl, p2⟩
  have HF2 := Lib.hid p2
  clear p2 b1
  go_wp2_with fail
  go_loopw [7] (fun t7 wr => ∃ i : Nat, i ≤ ng ∧ t7 = .int .i64 (i : Int) ∧ Hid (FW (w.heap.size + 1) (w.heap.size + 1) (w.heap.size + 1 + 1) (w.heap.size + 1 + 1 + 1) w1 wr)) (fun t7 _ => ng - (intOf t7).toNat)
  case atStart => exact ⟨0, by omega, rfl, HF2⟩
  case round =>
    as_aux_lemma =>
    clear HF2 HF1
    rename World => wr
    obtain ⟨i, hi, rfl, HF⟩ := hrel
    have j0 : (0 : Int) ≤ (i : Int) := by omega
    have b2 : wr.cell? ⟨w.heap.size, 2, none⟩ = some (.slice Ag ng kg) := (HK1.out.below HF.out.below (by omega)).cell 2
    obtain ⟨z1, hz1⟩ := HF.out.i1
    have e1 : wr.cell? ⟨w.heap.size + 1, 0, none⟩ = some (.int .i64 z1) := hz1.cell 0
    have f1 := hz1.frozen 0
    clear hz1
    obtain ⟨z2, hz2⟩ := HF.out.i2
    have e2 : wr.cell? ⟨w.heap.size + 1 + 1, 0, none⟩ = some (.int .i64 z2) := hz2.cell 0
    have f2 := hz2.frozen 0
    clear hz2
    obtain ⟨z3, hz3⟩ := HF.out.i3
    have e3 : wr.cell? ⟨w.heap.size + 1 + 1 + 1, 0, none⟩ = some (.int .i64 z3) := hz3.cell 0
    have f3 := hz3.frozen 0
    clear hz3
    obtain ⟨a, ha⟩ : ∃ b, decide ((i : Int) < (ng : Int)) = b := ⟨_, rfl⟩
    have ha1 : decide (i < ng) = a := by rw [← ha]; rw [decide_eq_decide]; omega
    obtain ⟨p1, hp1⟩ : ∃ b, decide (z1 ≤ 700) = b := ⟨_, rfl⟩
    obtain ⟨p2, hp2⟩ : ∃ b, decide (z2 ≤ 4096) = b := ⟨_, rfl⟩
    obtain ⟨p3, hp3⟩ : ∃ b, decide (z3 ≤ 262144) = b := ⟨_, rfl⟩
    obtain ⟨q, hq⟩ : ∃ q, Hid ((((a && p1) && p2) && p3) = q) := ⟨_, Lib.hid rfl⟩
    go_upto_region 5 with fail
    go_cut [36] from 20 to 35 (fun sq wx => sq = .bool q ∧ wr = wx)
    case first =>
      as_aux_lemma =>
      cases a <;> cases p1 <;> cases p2 <;> cases p3 <;> (
        go_wp2_with fail
        go_meet
        exact ⟨by rw [← hq.out]; rfl, rfl⟩)
    case rest =>
      obtain ⟨rfl, rfl⟩ := hcut
      cases q with
      | true =>
        have hin : i < ng := by
          have h := hq.out
          cases a with
          | false => cases h
          | true => exact of_decide_eq_true ha1
        clear ha ha1 hp1 hp2 hp3 hq e2 f2
        have i1 : (i : Int) < (ng : Int) := by omega
        have hil : i < stages.length := by have := HNG.out; omega
        have hX := HG0.out.new (HB1.out.trans (HF.out.below.mono (by omega)))
        rw [← HNG.out] at hX
        obtain ⟨g, o, c, G, A, k, hv, hGe, hvs, -, c0, c1, c2, c3⟩ := gm_full hX hil
        injection hv with hA _ hcc
        subst hA hcc
        have HST : Hid (StsA w (.slice A G.ms.length k) G.ms) := Lib.hid (by have h := HG0.out.2 _ (List.getElem_mem hil); rw [hGe, hvs] at h; exact h)
        have hml : G.ms.length ≤ 1050000 := by have h := HLG.out _ (List.getElem_mem hil); rw [hGe] at h; exact h
        have HSM : Hid (∀ m ∈ G.ms, m.s.Small) := Lib.hid (by have h := HSG.out _ (List.getElem_mem hil); rw [hGe] at h; exact h)
        have HC : Hid (∀ wx, FW (w.heap.size + 1) (w.heap.size + 1) (w.heap.size + 1 + 1) (w.heap.size + 1 + 1 + 1) w1 wx → wx.cell? ⟨g, o + i * 4 + 1, none⟩ = some (.string (bs G.base)) ∧ wx.cell? ⟨g, o + i * 4 + 2, none⟩ = some (.string (bs G.name)) ∧ wx.cell? ⟨g, o + i * 4 + 3, none⟩ = some (.slice A G.ms.length k)) := Lib.hid fun wx hx => by
          have hX := HG0.out.new (HB1.out.trans (hx.below.mono (by omega)))
          rw [← HNG.out] at hX
          obtain ⟨g', o', c', G', A', k', hv', hGe', hvs', -, q0, q1, q2, q3⟩ := gm_full hX hil
          injection hv' with hA' _ _
          injection hA' with hA'
          injection hA' with r1 r2
          subst r1 r2
          rw [hGe] at hGe'
          subst hGe'
          rw [hvs] at hvs'
          injection hvs' with s1 _ s3
          subst s1 s3
          exact ⟨q1, q2, q3⟩
        clear hX hGe hvs hil c0 c1 c2 c3
        have c3 := (HC.out _ HF.out).2.2
        clear f3 e3
        go_upto_region 7 with fail
        go_cut [] (fun wx => Hid (FW (w.heap.size + 1) (w.heap.size + 1) (w.heap.size + 1 + 1) (w.heap.size + 1 + 1 + 1) w1 wx))
        case first =>
          as_aux_lemma =>
          go_still_tail 9, (by kernel_rfl)
          go_wp2_with fail
          go_meet
          exact Lib.hid (HF.out.drew.set1 _)
        case rest =>
          have HFn := hcut
          clear b2 e1 f1 c3 HF
          rename World => wn
          have HF := HFn
          clear HFn hcut
          have b2 : wn.cell? ⟨w.heap.size, 2, none⟩ = some (.slice (some ⟨g, o, none⟩) ng kg) := (HK1.out.below HF.out.below (by omega)).cell 2
          have c1 := (HC.out _ HF.out).1
          have c2 := (HC.out _ HF.out).2.1
          obtain ⟨z3, hz3⟩ := HF.out.i3
          have e3 : wn.cell? ⟨w.heap.size + 1 + 1 + 1, 0, none⟩ = some (.int .i64 z3) := hz3.cell 0
          have f3 := hz3.frozen 0
          clear hz3
          go_upto_region 8 with fail
          go_cut [] (fun wx => Hid (FW (w.heap.size + 1) (w.heap.size + 1) (w.heap.size + 1 + 1) (w.heap.size + 1 + 1 + 1) w1 wx))
          case first =>
            as_aux_lemma =>
            go_still_tail 17, (by kernel_rfl)
            go_wp2_with fail
            go_meet
            exact Lib.hid (HF.out.drew.set3 _)
          case rest =>
            have HFn := hcut
            clear b2 e3 f3 c1 c2 HF
            rename World => wm
            have HF := HFn
            clear HFn hcut
            have b2 : wm.cell? ⟨w.heap.size, 2, none⟩ = some (.slice (some ⟨g, o, none⟩) ng kg) := (HK1.out.below HF.out.below (by omega)).cell 2
            have c3 := (HC.out _ HF.out).2.2
            go_wp2_with fail
            refine (add_any (w.heap.size + 1) (w.heap.size + 1 + 1) (w.heap.size + 1 + 1 + 1) (w.heap.size + 1) G.ms _ w wm HST.out (HB1.out.trans (HF.out.below.mono (by omega))) (by omega) { HF.out with below := Below.refl _ _ } hml HSM.out).mono ?_
            rintro r w5 ⟨rfl, p5⟩
            have HF5 := Lib.hid (HF.out.trans p5)
            clear p5 b2 c3
            go_wp2_with fail
            go_roundw
            case rel => first | exact ⟨i + 1, by omega, by go_num, HF5⟩ | exact ⟨_, ⟨i + 1, by omega, by go_num, HF5⟩, rfl⟩
            case measure => simp [intOf]; omega
      | false =>
        clear ha ha1 hq
        cases p1 <;> cases p2 <;> (
          go_wp2_with fail
          go_ret
          exact ⟨_, rfl, HB1.out.trans (HF.out.below.mono (by omega))⟩)
end Go.Proofs.YtdaejggcjjdhkaaGreatDoor
