/- stratalaw18.one, count: walked. -/
import Derived.Test.YtdaejggcjjdhkaaGreatDoorCkSf
import Derived.Test.YtdaejggcjjdhkaaGreatDoorMkB
import Derived.Test.YtdaejggcjjdhkaaGreatDoorProg
import Derived.Deep.DeepCutAuto
import Derived.Deep.CutBlock
namespace Go.Proofs.YtdaejggcjjdhkaaGreatDoor
open Go Go.RowKit
theorem fileT : StK Tryz.prog 25 3 := ⟨⟨_, Tryz.underlying25⟩, by kernel_rfl⟩
/-- a file is answered. -/
def FileP (x : Ck.Fl) (w : World) (r : Ending) (w' : World) : Prop := ∃ f : FM, r = .returned f.val ∧ f.Ok w' ∧ f.fl = x ∧ Below w.heap.size w w'
theorem blk_oth {w : World} {g b : Nat} {t : TypeId} {cs : Array Value} (h : Blk w g t cs) (v : Value) (hne : g ≠ b) : Blk (w.setCell ⟨b, 0, none⟩ v) g t cs := (RowKit.Below.heap_setCell _ _ _ _ hne).trans h
theorem one_end (e : UInt8) {w w2 : World} {s : Ck.St} {Ap Aw Ad Ae : Option Addr} {kp kw kd ke : Nat} (hok : SM.Ok w ⟨s, .slice Ap s.pairs.length kp, .slice Aw s.words.length kw, .slice Ad s.docs.length kd, .slice Ae s.exec.length ke⟩) (hb : Below w.heap.size w w2)
    (ks : Blk w2 (w.heap.size + 1 + 1) 41 #[.int .i64 s.op, .int .i64 s.line, .string (bs s.from_), .string (bs s.mode), .bool s.force, .slice Ap s.pairs.length kp, .bool s.bare, .slice Aw s.words.length kw, .slice Ad s.docs.length kd, .slice Ae s.exec.length ke]) (kg : Blk w2 (w.heap.size + 1 + 1 + 1) 53 #[.int .i64 1, .string ⟨#[115, 99, 114, 97, 116, 99, 104]⟩, .string ⟨#[]⟩, .slice (some ⟨w.heap.size + 1 + 1, 0, none⟩) 1 1]) :
    FileP (Ck.one s e) w (.returned (.agg #[.int .u8 (e.toNat : Int), .slice none 0 0, .slice (some ⟨w.heap.size + 1 + 1 + 1, 0, none⟩) 1 1])) w2 :=
  ⟨⟨e, .slice none 0 0, [], .slice (some ⟨w.heap.size + 1 + 1 + 1, 0, none⟩) 1 1, [⟨1, Ck.scratch, [], .slice (some ⟨w.heap.size + 1 + 1, 0, none⟩) 1 1, [⟨s, .slice Ap s.pairs.length kp, .slice Aw s.words.length kw, .slice Ad s.docs.length kd, .slice Ae s.exec.length ke⟩]⟩]⟩, rfl,
    ⟨⟨SlA.none w2, fun _ h => by cases h⟩, ⟨SlA.blk (cs := gmC _) kg, fun g hg => by
      rw [List.mem_singleton] at hg
      subst hg
      refine ⟨SlA.blk (cs := smC _) ks, fun m hm => ?_⟩
      rw [List.mem_singleton] at hm
      subst hm
      exact hok.new hb⟩⟩, rfl, hb⟩
set_option maxRecDepth 100000 in
set_option maxHeartbeats 1000000 in
theorem one_any (m : SM) (b : Bool) (w : World) (hok : m.Ok w) : Calls Tryz.prog 17 #[.agg #[.int .i64 m.s.op, .int .i64 m.s.line, .string (bs m.s.from_), .string (bs m.s.mode), .bool m.s.force, m.vp, .bool m.s.bare, m.vw, m.vd, m.ve], .bool b] w (FileP (Ck.one m.s (if b then 96 else 92)) w) := by
  obtain ⟨s, vp, vw, vd, ve⟩ := m
  have HOK := Lib.hid hok
  have hcp : SlA w vp s.pairs.length (prC s.pairs) := hok.cp
  have hcw : SlA w vw s.words.length (sc s.words) := hok.cw
  have hcd : SlA w vd s.docs.length (doC s.docs) := hok.cd
  have hce : SlA w ve s.exec.length (sc s.exec) := hok.ce
  dsimp only
  clear hok
  obtain ⟨Ap, kp, rfl⟩ := hcp.form
  obtain ⟨Aw, kw, rfl⟩ := hcw.form
  obtain ⟨Ad, kd, rfl⟩ := hcd.form
  obtain ⟨Ae, ke, rfl⟩ := hce.form
  clear hcp hcw hcd hce
  go_enter Tryz.func17, Tryz.ntmps17
  go_upto_region 2 with fail
  obtain ⟨w1, hw1⟩ : ∃ y, (((((w.alloc (.cells #[.int .i64 s.op, .int .i64 s.line, .string (bs s.from_), .string (bs s.mode), .bool s.force, .slice Ap s.pairs.length kp, .bool s.bare, .slice Aw s.words.length kw, .slice Ad s.docs.length kd, .slice Ae s.exec.length ke] 41)).alloc (.cells #[.int .u8 0, .slice none 0 0, .slice none 0 0] 25)).alloc (.cells #[.int .i64 s.op, .int .i64 s.line, .string (bs s.from_), .string (bs s.mode), .bool s.force, .slice Ap s.pairs.length kp, .bool s.bare, .slice Aw s.words.length kw, .slice Ad s.docs.length kd, .slice Ae s.exec.length ke] 41)).alloc (.cells #[.int .i64 1, .string ⟨#[115, 99, 114, 97, 116, 99, 104]⟩, .string ⟨#[]⟩, .slice (some ⟨w.heap.size + 1 + 1, 0, none⟩) 1 1] 53)).alloc (.cells #[.int .u8 92, .slice none 0 0, .slice (some ⟨w.heap.size + 1 + 1 + 1, 0, none⟩) 1 1] 25)) = y := ⟨_, rfl⟩
  have HB1 : Hid (Below w.heap.size w w1) := Lib.hid (by
    rw [← hw1]
    exact (((((Below.refl w.heap.size w).alloc (Nat.le_refl _) _).alloc (by simp only [World.size_alloc]; omega) _).alloc (by simp only [World.size_alloc]; omega) _).alloc (by simp only [World.size_alloc]; omega) _).alloc (by simp only [World.size_alloc]; omega) _)
  have KZ : Hid (Blk w1 (w.heap.size + 1) 25 #[.int .u8 0, .slice none 0 0, .slice none 0 0]) := Lib.hid (by
    have q := Blk.new (w.alloc (.cells #[.int .i64 s.op, .int .i64 s.line, .string (bs s.from_), .string (bs s.mode), .bool s.force, .slice Ap s.pairs.length kp, .bool s.bare, .slice Aw s.words.length kw, .slice Ad s.docs.length kd, .slice Ae s.exec.length ke] 41)) 25 #[.int .u8 0, .slice none 0 0, .slice none 0 0]
    simp only [World.size_alloc] at q
    rw [← hw1]
    exact (((q.alloc _).alloc _).alloc _))
  have KS : Hid (Blk w1 (w.heap.size + 1 + 1) 41 #[.int .i64 s.op, .int .i64 s.line, .string (bs s.from_), .string (bs s.mode), .bool s.force, .slice Ap s.pairs.length kp, .bool s.bare, .slice Aw s.words.length kw, .slice Ad s.docs.length kd, .slice Ae s.exec.length ke]) := Lib.hid (by
    have q := Blk.new ((w.alloc (.cells #[.int .i64 s.op, .int .i64 s.line, .string (bs s.from_), .string (bs s.mode), .bool s.force, .slice Ap s.pairs.length kp, .bool s.bare, .slice Aw s.words.length kw, .slice Ad s.docs.length kd, .slice Ae s.exec.length ke] 41)).alloc (.cells #[.int .u8 0, .slice none 0 0, .slice none 0 0] 25)) 41 #[.int .i64 s.op, .int .i64 s.line, .string (bs s.from_), .string (bs s.mode), .bool s.force, .slice Ap s.pairs.length kp, .bool s.bare, .slice Aw s.words.length kw, .slice Ad s.docs.length kd, .slice Ae s.exec.length ke]
    simp only [World.size_alloc] at q
    rw [← hw1]
    exact ((q.alloc _).alloc _))
  have KG : Hid (Blk w1 (w.heap.size + 1 + 1 + 1) 53 #[.int .i64 1, .string ⟨#[115, 99, 114, 97, 116, 99, 104]⟩, .string ⟨#[]⟩, .slice (some ⟨w.heap.size + 1 + 1, 0, none⟩) 1 1]) := Lib.hid (by
    have q := Blk.new (((w.alloc (.cells #[.int .i64 s.op, .int .i64 s.line, .string (bs s.from_), .string (bs s.mode), .bool s.force, .slice Ap s.pairs.length kp, .bool s.bare, .slice Aw s.words.length kw, .slice Ad s.docs.length kd, .slice Ae s.exec.length ke] 41)).alloc (.cells #[.int .u8 0, .slice none 0 0, .slice none 0 0] 25)).alloc (.cells #[.int .i64 s.op, .int .i64 s.line, .string (bs s.from_), .string (bs s.mode), .bool s.force, .slice Ap s.pairs.length kp, .bool s.bare, .slice Aw s.words.length kw, .slice Ad s.docs.length kd, .slice Ae s.exec.length ke] 41)) 53 #[.int .i64 1, .string ⟨#[115, 99, 114, 97, 116, 99, 104]⟩, .string ⟨#[]⟩, .slice (some ⟨w.heap.size + 1 + 1, 0, none⟩) 1 1]
    simp only [World.size_alloc] at q
    rw [← hw1]
    exact (q.alloc _))
  have KF : Hid (Blk w1 (w.heap.size + 1 + 1 + 1 + 1) 25 #[.int .u8 92, .slice none 0 0, .slice (some ⟨w.heap.size + 1 + 1 + 1, 0, none⟩) 1 1]) := Lib.hid (by
    have q := Blk.new ((((w.alloc (.cells #[.int .i64 s.op, .int .i64 s.line, .string (bs s.from_), .string (bs s.mode), .bool s.force, .slice Ap s.pairs.length kp, .bool s.bare, .slice Aw s.words.length kw, .slice Ad s.docs.length kd, .slice Ae s.exec.length ke] 41)).alloc (.cells #[.int .u8 0, .slice none 0 0, .slice none 0 0] 25)).alloc (.cells #[.int .i64 s.op, .int .i64 s.line, .string (bs s.from_), .string (bs s.mode), .bool s.force, .slice Ap s.pairs.length kp, .bool s.bare, .slice Aw s.words.length kw, .slice Ad s.docs.length kd, .slice Ae s.exec.length ke] 41)).alloc (.cells #[.int .i64 1, .string ⟨#[115, 99, 114, 97, 116, 99, 104]⟩, .string ⟨#[]⟩, .slice (some ⟨w.heap.size + 1 + 1, 0, none⟩) 1 1] 53)) 25 #[.int .u8 92, .slice none 0 0, .slice (some ⟨w.heap.size + 1 + 1 + 1, 0, none⟩) 1 1]
    simp only [World.size_alloc] at q
    rw [← hw1]
    exact q)
  rw [hw1]
  clear hw1
  have c0 : w1.cell? ⟨w.heap.size + 1 + 1 + 1 + 1, 0, none⟩ = some (.int .u8 92) := KF.out.cell 0
  have c1 : w1.cell? ⟨w.heap.size + 1 + 1 + 1 + 1, 1, none⟩ = some (.slice none 0 0) := KF.out.cell 1
  have c2 : w1.cell? ⟨w.heap.size + 1 + 1 + 1 + 1, 2, none⟩ = some (.slice (some ⟨w.heap.size + 1 + 1 + 1, 0, none⟩) 1 1) := KF.out.cell 2
  have f0 := KF.out.frozen 0
  cases b with
  | false =>
    go_wp2_with (refine wpList_store_st rfl _ _ _ rfl fileT (w.heap.size + 1) #[.int .u8 92, .slice none 0 0, .slice (some ⟨w.heap.size + 1 + 1 + 1, 0, none⟩) 1 1] _ rfl rfl KZ.out rfl rfl rfl ?_; intro w2 hK2 hg2 hz2)
    have hG : w1.grownBy w2 (some (w.heap.size + 1)) := hg2
    have hb : Below w.heap.size w w2 := HB1.out.trans ((Fx.of_grown hG).to_below HB1.out.size (fun b e => by injection e with e; omega))
    have ks := (hG.block _ KS.out.lt (fun e => by injection e with e; omega)).trans KS.out
    have kg := (hG.block _ KG.out.lt (fun e => by injection e with e; omega)).trans KG.out
    exact bodyPost_ret (results_c0 rfl fileT rfl hK2 rfl) rfl (one_end 92 HOK.out hb ks kg)
  | true =>
    have KZ2 := Lib.hid (blk_oth KZ.out (b := w.heap.size + 1 + 1 + 1 + 1) (.int .u8 96) (by omega))
    have KS2 := Lib.hid (blk_oth KS.out (b := w.heap.size + 1 + 1 + 1 + 1) (.int .u8 96) (by omega))
    have KG2 := Lib.hid (blk_oth KG.out (b := w.heap.size + 1 + 1 + 1 + 1) (.int .u8 96) (by omega))
    have HB2 := Lib.hid (HB1.out.setCell (p := ⟨w.heap.size + 1 + 1 + 1 + 1, 0, none⟩) (by show w.heap.size ≤ w.heap.size + 1 + 1 + 1 + 1; omega) (.int .u8 96))
    go_wp2_with (refine wpList_store_st rfl _ _ _ rfl fileT (w.heap.size + 1) #[.int .u8 96, .slice none 0 0, .slice (some ⟨w.heap.size + 1 + 1 + 1, 0, none⟩) 1 1] _ rfl rfl KZ2.out rfl rfl rfl ?_; intro w2 hK2 hg2 hz2)
    have hG : (w1.setCell ⟨w.heap.size + 1 + 1 + 1 + 1, 0, none⟩ (.int .u8 96)).grownBy w2 (some (w.heap.size + 1)) := hg2
    have hb : Below w.heap.size w w2 := HB2.out.trans ((Fx.of_grown hG).to_below HB2.out.size (fun b e => by injection e with e; omega))
    have ks := (hG.block _ KS2.out.lt (fun e => by injection e with e; omega)).trans KS2.out
    have kg := (hG.block _ KG2.out.lt (fun e => by injection e with e; omega)).trans KG2.out
    exact bodyPost_ret (results_c0 rfl fileT rfl hK2 rfl) rfl (one_end 96 HOK.out hb ks kg)
set_option maxRecDepth 100000 in
set_option maxHeartbeats 1000000 in
theorem count_any (f : FM) (w : World) (hok : f.Ok w) (hn : f.stages.length + Ck.countL f.fl ≤ 1050000) : Calls Tryz.prog 21 #[.agg #[.int .u8 (f.escape.toNat : Int), f.va, f.vg]] w fun r w' => r = .returned (.int .i64 (Ck.countL f.fl : Int)) ∧ Below w.heap.size w w' := by
  have hcount := count_fl f
  obtain ⟨e, va, args, vg, stages⟩ := f
  have hca : StsA w va args := hok.a
  have hcg : GsA w vg stages := hok.g
  dsimp only at hcount hn ⊢
  clear hok
  obtain ⟨Aa, ka, rfl⟩ := hca.1.form
  obtain ⟨Ag, kg, rfl⟩ := hcg.1.form
  obtain ⟨tot, htot⟩ : ∃ t, Ck.countL (FM.fl ⟨e, .slice Aa args.length ka, args, .slice Ag stages.length kg, stages⟩) = t := ⟨_, rfl⟩
  rw [htot] at hcount hn ⊢
  have HG0 := Lib.hid hcg
  obtain ⟨na, hna⟩ : ∃ n, args.length = n := ⟨_, rfl⟩
  obtain ⟨ng, hng⟩ : ∃ n, stages.length = n := ⟨_, rfl⟩
  rw [hna] at hcount
  rw [hng] at HG0 hn
  have HC := Lib.hid hcount
  have HNG := Lib.hid hng
  have hna6 : na ≤ tot := by omega
  rw [hna, hng]
  have hal := (Below.refl w.heap.size w).alloc (Nat.le_refl _) (.cells #[.int .u8 (e.toNat : Int), .slice Aa na ka, .slice Ag ng kg] 25)
  have hk := Blk.new w 25 #[.int .u8 (e.toNat : Int), .slice Aa na ka, .slice Ag ng kg]
  obtain ⟨w1, hw1⟩ : ∃ x, w.alloc (.cells #[.int .u8 (e.toNat : Int), .slice Aa na ka, .slice Ag ng kg] 25) = x := ⟨_, rfl⟩
  rw [hw1] at hal hk
  have HW1 := Lib.hid hw1
  have HAL := Lib.hid hal
  have HG1 := Lib.hid (HG0.out.new hal)
  have HK := Lib.hid hk
  clear htot hna hng hcount hcg hca hal hk hw1
  go_enter Tryz.func21, Tryz.ntmps21
  go_upto_region 1 with fail
  rw [HW1.out]
  have b1 : w1.cell? ⟨w.heap.size, 1, none⟩ = some (.slice Aa na ka) := HK.out.cell 1
  go_wp2_with fail
  go_loop [3, 4] (fun t3 t4 => ∃ i S : Nat, i ≤ ng ∧ t4 = .int .i64 (i : Int) ∧ t3 = .int .i64 (S : Int) ∧ S ≤ tot ∧ Hid (S = na + ((stages.take i).map fun g => g.ms.length).sum)) (fun _ t4 => ng - (intOf t4).toNat)
  case atStart => exact ⟨0, na, by omega, rfl, rfl, hna6, Lib.hid (by simp)⟩
  case round =>
    obtain ⟨i, S, hi, rfl, rfl, hS, HS⟩ := hrel
    have j0 : (0 : Int) ≤ (i : Int) := by omega
    rcases Nat.lt_or_ge i ng with hin | hin
    · have i0 : decide ((i : Int) < (ng : Int)) = true := by rw [decide_eq_true_eq]; omega
      have i1 : (i : Int) < (ng : Int) := by omega
      have hil : i < stages.length := by have := HNG.out; omega
      have hX := HG1.out
      rw [← HNG.out] at hX
      obtain ⟨g, o, c, G, A, k, hv, hGe, hvs, -, c0, c1, c2, c3⟩ := gm_full hX hil
      injection hv with hA _ hcc
      subst hA hcc
      have b2 : w1.cell? ⟨w.heap.size, 2, none⟩ = some (.slice (some ⟨g, o, none⟩) ng kg) := HK.out.cell 2
      have HS2 : Hid (S + G.ms.length = na + ((stages.take (i + 1)).map fun g => g.ms.length).sum) := Lib.hid (by
        have := HS.out
        rw [sum_take stages i hil, hGe]; omega)
      have hS2 : S + G.ms.length ≤ tot := by
        have h1 := sum_take_le stages (i + 1)
        have h2 := HS2.out
        have h3 := HC.out
        omega
      clear hX hGe hvs hil c0 c1 c2
      go_wp2_with fail
      go_round
      case rel => exact ⟨i + 1, S + G.ms.length, by omega, by go_num, by go_num, hS2, HS2⟩
      case measure => simp [intOf]; omega
    · have i0 : decide ((i : Int) < (ng : Int)) = false := by rw [decide_eq_false_iff_not]; omega
      have b2 : w1.cell? ⟨w.heap.size, 2, none⟩ = some (.slice Ag ng kg) := HK.out.cell 2
      obtain rfl : S = tot := by
        have h1 := HS.out
        have h2 := HC.out
        rw [List.take_of_length_le (by have := HNG.out; omega)] at h1
        omega
      go_wp2_with fail
      go_ret
      exact ⟨rfl, HAL.out⟩
end Go.Proofs.YtdaejggcjjdhkaaGreatDoor
