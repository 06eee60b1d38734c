/- strataref18: Step, walked. (Printed by wip/genref18.py.) -/
import Derived.Test.YtdaejggcjjdhkaaGreatDoorCkZa
import Derived.Test.YtdaejggcjjdhkaaGreatDoorMkM
import Derived.Test.YtdaejggcjjdhkaaGreatDoorCkR6
import Derived.Test.YtdaejggcjjdhkaaGreatDoorCkSf
import Derived.Test.YtdaejggcjjdhkaaGreatDoorMkD
namespace Go.Proofs.YtdaejggcjjdhkaaGreatDoor
open Go Go.RowKit
/-- the values of the region that makes the list of numbers. -/
def VZ (l : List Value) (T : Array Value) : Nat → Value → World → Prop
  | 10, u, w => ∃ bk, u = .slice (some ⟨bk, 0, none⟩) 4 4 ∧ Blk w bk 3 T
  | i, u, _ => l[i]? = some u
theorem VZ.new {l : List Value} {T : Array Value} {w w' : World} (k : Below w.heap.size w w') (j : Nat) (u : Value) (H : VZ l T j u w) : VZ l T j u w' := by
  unfold VZ at H ⊢
  split at H
  · obtain ⟨bk, e, h⟩ := H
    exact ⟨bk, e, h.below k h.lt⟩
  · exact H
/-- the first number that is not zero. -/
def firstN : List Nat → Nat
  | [] => 0
  | a :: r => if a ≠ 0 then a else firstN r
theorem firstN4 (a b c d : Nat) : firstN [a, b, c, d] = if a ≠ 0 then a else if b ≠ 0 then b else if c ≠ 0 then c else d := by
  simp only [firstN]
  by_cases h : d = 0
  · subst h; simp
  · simp [h]
theorem texts_len (s : Ck.St) : (Ck.textsL s).length = 2 + s.words.length + s.exec.length + s.pairs.length * 2 + s.docs.length * 2 := by
  have h1 : ∀ l : List Ck.Pr, (l.flatMap fun p => [p.key, p.val]).length = l.length * 2 := fun l => by
    induction l with
    | nil => rfl
    | cons p l ih => rw [List.flatMap_cons, List.length_append, ih, List.length_cons]; simp only [List.length_cons, List.length_nil]; omega
  have h2 : ∀ l : List Lx.Dc, (l.flatMap fun d => [d.name, d.text]).length = l.length * 2 := fun l => by
    induction l with
    | nil => rfl
    | cons p l ih => rw [List.flatMap_cons, List.length_append, ih, List.length_cons]; simp only [List.length_cons, List.length_nil]; omega
  unfold Ck.textsL
  rw [List.length_append, List.length_append, List.length_append, List.length_append, h1, h2]
  simp only [List.length_cons, List.length_nil]
set_option maxRecDepth 100000 in
set_option maxHeartbeats 4000000 in
theorem step18_any (m : SM) (w : World) (hok : m.Ok w) (hn : m.s.words.length + m.s.exec.length + m.s.pairs.length + m.s.docs.length ≤ 1050000) (hL : ∀ t ∈ Ck.textsL m.s, t.length ≤ 1050000) (e : UInt8) {x : Nat} (H : Hid (Ck.stepL m.s e = x)) : Calls Tryz.prog 35 #[.agg #[.int .i64 m.s.op, .int .i64 m.s.line, .string (bs m.s.from_), .string (bs m.s.mode), .bool m.s.force, m.vp, .bool m.s.bare, m.vw, m.vd, m.ve], .int .u8 (e.toNat : Int)] w fun r w' => r = .returned (.int .i64 (x : Int)) ∧ Below w.heap.size w w' := by
  have HOK := Lib.hid hok
  have HLL := Lib.hid hL
  obtain ⟨s, vp, vw, vd, ve⟩ := m
  have hcp : SlA w vp s.pairs.length (prC s.pairs) := hok.cp
  have hcw : SlA w vw s.words.length (sc s.words) := hok.cw
  have hcd : SlA w vd s.docs.length (doC s.docs) := hok.cd
  have hce : SlA w ve s.exec.length (sc s.exec) := hok.ce
  dsimp only at hn hL H HOK HLL ⊢
  clear hok
  obtain ⟨Ap, kp, rfl⟩ := hcp.form
  obtain ⟨Aw, kw, rfl⟩ := hcw.form
  obtain ⟨Ad, kd, rfl⟩ := hcd.form
  obtain ⟨Ae, ke, rfl⟩ := hce.form
  have hal := (Below.refl w.heap.size w).alloc (Nat.le_refl _) (.cells #[.int .i64 s.op, .int .i64 s.line, .string (bs s.from_), .string (bs s.mode), .bool s.force, .slice Ap s.pairs.length kp, .bool s.bare, .slice Aw s.words.length kw, .slice Ad s.docs.length kd, .slice Ae s.exec.length ke] 41)
  have hk := Blk.new w 41 #[.int .i64 s.op, .int .i64 s.line, .string (bs s.from_), .string (bs s.mode), .bool s.force, .slice Ap s.pairs.length kp, .bool s.bare, .slice Aw s.words.length kw, .slice Ad s.docs.length kd, .slice Ae s.exec.length ke]
  obtain ⟨w1, hw1⟩ : ∃ x, w.alloc (.cells #[.int .i64 s.op, .int .i64 s.line, .string (bs s.from_), .string (bs s.mode), .bool s.force, .slice Ap s.pairs.length kp, .bool s.bare, .slice Aw s.words.length kw, .slice Ad s.docs.length kd, .slice Ae s.exec.length ke] 41) = x := ⟨_, rfl⟩
  rw [hw1] at hal hk
  have HW1 := Lib.hid hw1
  have HAL := Lib.hid hal
  have HK := Lib.hid hk
  have HP1 := Lib.hid (hcp.new hal)
  have HV1 := Lib.hid (hcw.new hal)
  have HD1 := Lib.hid (hcd.new hal)
  have HE1 := Lib.hid (hce.new hal)
  have HL := Lib.hid hL
  clear hw1 hal hk hcp hcw hcd hce hL
  have HOK1 : Hid ((⟨s, .slice Ap s.pairs.length kp, .slice Aw s.words.length kw, .slice Ad s.docs.length kd, .slice Ae s.exec.length ke⟩ : SM).Ok w1) := Lib.hid (HOK.out.new HAL.out)
  obtain ⟨a1, e1⟩ : ∃ b, decide (s.op < 1) = b := ⟨_, rfl⟩
  obtain ⟨a2, e2⟩ : ∃ b, decide (14 < s.op) = b := ⟨_, rfl⟩
  obtain ⟨c19, h19⟩ : ∃ b, Hid ((a1 || a2) = b) := ⟨_, Lib.hid rfl⟩
  obtain ⟨c6, h6⟩ : ∃ b, Hid ((Ck.textsL s).any Ck.badT = b) := ⟨_, Lib.hid rfl⟩
  obtain ⟨x1, hx1⟩ : ∃ b, Hid (Ck.fieldsL s = b) := ⟨_, Lib.hid rfl⟩
  obtain ⟨x2, hx2⟩ : ∃ b, Hid (Ck.numbersL s = b) := ⟨_, Lib.hid rfl⟩
  obtain ⟨x3, hx3⟩ : ∃ b, Hid (Ck.pairsL s.op e s.pairs = b) := ⟨_, Lib.hid rfl⟩
  obtain ⟨x4, hx4⟩ : ∃ b, Hid (Ck.bodyL s e = b) := ⟨_, Lib.hid rfl⟩
  have HX : Hid (x = if c19 then 19 else if c6 then 6 else firstN [x1, x2, x3, x4]) := Lib.hid (by
    rw [← H.out, Ck.stepL, hx1.out, hx2.out, hx3.out, hx4.out, h6.out, ← h19.out, firstN4]
    have g : (s.op < 1 ∨ 14 < s.op) ↔ (a1 || a2) = true := by rw [Bool.or_eq_true, ← e1, ← e2, decide_eq_true_eq, decide_eq_true_eq]
    exact Ck.if_congr g rfl (Ck.if_congr Iff.rfl rfl rfl))
  have HTL : Hid ((Ck.textsL s).length ≤ 10000000) := Lib.hid (by have := texts_len s; omega)
  have heb : e.toNat < 256 := UInt8.toNat_lt _
  clear H
  go_enter Tryz.func35, Tryz.ntmps35
  go_upto_region 1 with fail
  rw [HW1.out]
  clear HW1
  have b0 : w1.cell? ⟨w.heap.size, 0, none⟩ = some (Value.int .i64 s.op) := HK.out.cell 0
  have b1 : w1.cell? ⟨w.heap.size, 1, none⟩ = some (Value.int .i64 s.line) := HK.out.cell 1
  have b2 : w1.cell? ⟨w.heap.size, 2, none⟩ = some (Value.string (bs s.from_)) := HK.out.cell 2
  have b3 : w1.cell? ⟨w.heap.size, 3, none⟩ = some (Value.string (bs s.mode)) := HK.out.cell 3
  have b4 : w1.cell? ⟨w.heap.size, 4, none⟩ = some (Value.bool s.force) := HK.out.cell 4
  have b5 : w1.cell? ⟨w.heap.size, 5, none⟩ = some (Value.slice Ap s.pairs.length kp) := HK.out.cell 5
  have b6 : w1.cell? ⟨w.heap.size, 6, none⟩ = some (Value.bool s.bare) := HK.out.cell 6
  have b7 : w1.cell? ⟨w.heap.size, 7, none⟩ = some (Value.slice Aw s.words.length kw) := HK.out.cell 7
  have b8 : w1.cell? ⟨w.heap.size, 8, none⟩ = some (Value.slice Ad s.docs.length kd) := HK.out.cell 8
  have b9 : w1.cell? ⟨w.heap.size, 9, none⟩ = some (Value.slice Ae s.exec.length ke) := HK.out.cell 9
  go_cut [14] from 7 to 13 (fun sy wx => sy = .bool c19 ∧ w1 = wx)
  case first =>
    as_aux_lemma =>
    cases a1 with
    | true =>
      go_wp2_with fail
      go_meet
      exact ⟨by rw [← h19.out]; rfl, by first | rfl | trivial⟩
    | false =>
      cases a2 <;> (
        go_wp2_with fail
        go_meet
        exact ⟨by rw [← h19.out]; rfl, by first | rfl | trivial⟩)
  case rest =>
    obtain ⟨rfl, rfl⟩ := hcut
    cases c19 with
    | true =>
      go_wp2_with fail
      go_ret
      exact ⟨by rw [HX.out]; rfl, HAL.out⟩
    | false =>
    have HTX := Lib.hid (texts18_any _ w1 HOK1.out hn)
    go_wp2_with fail
    refine HTX.out.mono ?_
    rintro a w2 ⟨⟨v, rfl, hsl⟩, hb2⟩
    have HSL := Lib.hid hsl
    have HB2 := Lib.hid (below_of_below HAL.out hb2 HAL.out.size)
    have HK2 := Lib.hid (HK.out.below hb2 HK.out.lt)
    have HOK2 := Lib.hid (HOK1.out.new hb2)
    clear hsl hb2 HTX b0 b1 b2 b3 b4 b5 b6 b7 b8 b9
    have HUN := Lib.hid (unread_any v (Ck.textsL s) w2 HSL.out (fun t ht => Nat.le_trans (HLL.out t ht) (by decide)) HTL.out h6)
    go_wp2_with fail
    refine HUN.out.mono ?_
    rintro a wv ⟨rfl, rfl⟩
    clear HUN HSL
    cases c6 with
    | true =>
      go_wp2_with fail
      go_ret
      exact ⟨by rw [HX.out]; rfl, HB2.out⟩
    | false =>
    go_upto_region 5 with fail
    refine' wp_region_rely (fun wx => Below w2.heap.size w2 wx) (VZ [.agg #[.int .i64 s.op, .int .i64 s.line, .string (bs s.from_), .string (bs s.mode), .bool s.force, .slice Ap s.pairs.length kp, .bool s.bare, .slice Aw s.words.length kw, .slice Ad s.docs.length kd, .slice Ae s.exec.length ke], .int .i64 (x1 : Int), .agg #[.int .i64 s.op, .int .i64 s.line, .string (bs s.from_), .string (bs s.mode), .bool s.force, .slice Ap s.pairs.length kp, .bool s.bare, .slice Aw s.words.length kw, .slice Ad s.docs.length kd, .slice Ae s.exec.length ke], .int .i64 (x2 : Int), .agg #[.int .i64 s.op, .int .i64 s.line, .string (bs s.from_), .string (bs s.mode), .bool s.force, .slice Ap s.pairs.length kp, .bool s.bare, .slice Aw s.words.length kw, .slice Ad s.docs.length kd, .slice Ae s.exec.length ke], .int .u8 (e.toNat : Int), .int .i64 (x3 : Int), .agg #[.int .i64 s.op, .int .i64 s.line, .string (bs s.from_), .string (bs s.mode), .bool s.force, .slice Ap s.pairs.length kp, .bool s.bare, .slice Aw s.words.length kw, .slice Ad s.docs.length kd, .slice Ae s.exec.length ke], .int .u8 (e.toNat : Int), .int .i64 (x4 : Int), undef, .int .i64 4, .int .i64 0] #[.int .i64 (x1 : Int), .int .i64 (x2 : Int), .int .i64 (x3 : Int), .int .i64 (x4 : Int)]) ?F ?hF (by kernel_rfl) (by kernel_rfl) (by kernel_rfl) (Below.refl _ _).drew ?hsteps ?hQ
    case hF =>
      intro xs
      refine (frameX_eq _ _ _).trans ?_
      simp only [frameL, Act.put, List.setIfInBounds_toArray, List.set_cons_zero, List.set_cons_succ, Nat.reduceAdd, Nat.zero_add]
      exact rfl
    case hsteps =>
      as_aux_lemma =>
      refine Steps.cons (n := []) (k := 1) rfl (by kernel_rfl) (fun xs wx hS hV K hK => ?_) ?_
      · clear hV
        have hk := HK2.out.below hS HK2.out.lt
        have b0 : wx.cell? ⟨w.heap.size, 0, none⟩ = some (Value.int .i64 s.op) := hk.cell 0
        have b1 : wx.cell? ⟨w.heap.size, 1, none⟩ = some (Value.int .i64 s.line) := hk.cell 1
        have b2 : wx.cell? ⟨w.heap.size, 2, none⟩ = some (Value.string (bs s.from_)) := hk.cell 2
        have b3 : wx.cell? ⟨w.heap.size, 3, none⟩ = some (Value.string (bs s.mode)) := hk.cell 3
        have b4 : wx.cell? ⟨w.heap.size, 4, none⟩ = some (Value.bool s.force) := hk.cell 4
        have b5 : wx.cell? ⟨w.heap.size, 5, none⟩ = some (Value.slice Ap s.pairs.length kp) := hk.cell 5
        have b6 : wx.cell? ⟨w.heap.size, 6, none⟩ = some (Value.bool s.bare) := hk.cell 6
        have b7 : wx.cell? ⟨w.heap.size, 7, none⟩ = some (Value.slice Aw s.words.length kw) := hk.cell 7
        have b8 : wx.cell? ⟨w.heap.size, 8, none⟩ = some (Value.slice Ad s.docs.length kd) := hk.cell 8
        have b9 : wx.cell? ⟨w.heap.size, 9, none⟩ = some (Value.slice Ae s.exec.length ke) := hk.cell 9
        clear hk
        go_simp
        exact hK.out _ _ hS rfl (fun _ _ h => h)
      refine Steps.cons (n := [0]) (k := 2) rfl (by kernel_rfl) (fun xs wx hS hV K hK => ?_) ?_
      · obtain ⟨d0, -⟩ := hV
        replace d0 : xs 0 = .agg #[.int .i64 s.op, .int .i64 s.line, .string (bs s.from_), .string (bs s.mode), .bool s.force, .slice Ap s.pairs.length kp, .bool s.bare, .slice Aw s.words.length kw, .slice Ad s.docs.length kd, .slice Ae s.exec.length ke] := (Option.some.inj d0).symm
        rw [d0] at hK ⊢
        go_simp
        refine (fields18_any _ wx (HOK2.out.new hS) hn HLL.out hx1).mono ?_
        rintro r w4 ⟨rfl, p4⟩
        exact hK.out _ _ (hS.trans (p4.mono hS.size)) rfl (fun j u h => VZ.new p4 j u h)
      refine Steps.cons (n := []) (k := 3) rfl (by kernel_rfl) (fun xs wx hS hV K hK => ?_) ?_
      · clear hV
        have hk := HK2.out.below hS HK2.out.lt
        have b0 : wx.cell? ⟨w.heap.size, 0, none⟩ = some (Value.int .i64 s.op) := hk.cell 0
        have b1 : wx.cell? ⟨w.heap.size, 1, none⟩ = some (Value.int .i64 s.line) := hk.cell 1
        have b2 : wx.cell? ⟨w.heap.size, 2, none⟩ = some (Value.string (bs s.from_)) := hk.cell 2
        have b3 : wx.cell? ⟨w.heap.size, 3, none⟩ = some (Value.string (bs s.mode)) := hk.cell 3
        have b4 : wx.cell? ⟨w.heap.size, 4, none⟩ = some (Value.bool s.force) := hk.cell 4
        have b5 : wx.cell? ⟨w.heap.size, 5, none⟩ = some (Value.slice Ap s.pairs.length kp) := hk.cell 5
        have b6 : wx.cell? ⟨w.heap.size, 6, none⟩ = some (Value.bool s.bare) := hk.cell 6
        have b7 : wx.cell? ⟨w.heap.size, 7, none⟩ = some (Value.slice Aw s.words.length kw) := hk.cell 7
        have b8 : wx.cell? ⟨w.heap.size, 8, none⟩ = some (Value.slice Ad s.docs.length kd) := hk.cell 8
        have b9 : wx.cell? ⟨w.heap.size, 9, none⟩ = some (Value.slice Ae s.exec.length ke) := hk.cell 9
        clear hk
        go_simp
        exact hK.out _ _ hS rfl (fun _ _ h => h)
      refine Steps.cons (n := [2]) (k := 4) rfl (by kernel_rfl) (fun xs wx hS hV K hK => ?_) ?_
      · obtain ⟨d2, -⟩ := hV
        replace d2 : xs 2 = .agg #[.int .i64 s.op, .int .i64 s.line, .string (bs s.from_), .string (bs s.mode), .bool s.force, .slice Ap s.pairs.length kp, .bool s.bare, .slice Aw s.words.length kw, .slice Ad s.docs.length kd, .slice Ae s.exec.length ke] := (Option.some.inj d2).symm
        rw [d2] at hK ⊢
        go_simp
        refine (numbers18_any _ wx (HOK2.out.new hS) hn HLL.out hx2).mono ?_
        rintro r w4 ⟨rfl, p4⟩
        exact hK.out _ _ (hS.trans (p4.mono hS.size)) rfl (fun j u h => VZ.new p4 j u h)
      refine Steps.cons (n := []) (k := 5) rfl (by kernel_rfl) (fun xs wx hS hV K hK => ?_) ?_
      · clear hV
        have hk := HK2.out.below hS HK2.out.lt
        have b0 : wx.cell? ⟨w.heap.size, 0, none⟩ = some (Value.int .i64 s.op) := hk.cell 0
        have b1 : wx.cell? ⟨w.heap.size, 1, none⟩ = some (Value.int .i64 s.line) := hk.cell 1
        have b2 : wx.cell? ⟨w.heap.size, 2, none⟩ = some (Value.string (bs s.from_)) := hk.cell 2
        have b3 : wx.cell? ⟨w.heap.size, 3, none⟩ = some (Value.string (bs s.mode)) := hk.cell 3
        have b4 : wx.cell? ⟨w.heap.size, 4, none⟩ = some (Value.bool s.force) := hk.cell 4
        have b5 : wx.cell? ⟨w.heap.size, 5, none⟩ = some (Value.slice Ap s.pairs.length kp) := hk.cell 5
        have b6 : wx.cell? ⟨w.heap.size, 6, none⟩ = some (Value.bool s.bare) := hk.cell 6
        have b7 : wx.cell? ⟨w.heap.size, 7, none⟩ = some (Value.slice Aw s.words.length kw) := hk.cell 7
        have b8 : wx.cell? ⟨w.heap.size, 8, none⟩ = some (Value.slice Ad s.docs.length kd) := hk.cell 8
        have b9 : wx.cell? ⟨w.heap.size, 9, none⟩ = some (Value.slice Ae s.exec.length ke) := hk.cell 9
        clear hk
        go_simp
        exact hK.out _ _ hS rfl (fun _ _ h => h)
      refine Steps.cons (n := []) (k := 6) rfl (by kernel_rfl) (fun xs wx hS hV K hK => ?_) ?_
      · clear hV
        go_simp
        exact hK.out _ _ hS rfl (fun _ _ h => h)
      refine Steps.cons (n := [4, 5]) (k := 7) rfl (by kernel_rfl) (fun xs wx hS hV K hK => ?_) ?_
      · obtain ⟨d4, d5, -⟩ := hV
        replace d4 : xs 4 = .agg #[.int .i64 s.op, .int .i64 s.line, .string (bs s.from_), .string (bs s.mode), .bool s.force, .slice Ap s.pairs.length kp, .bool s.bare, .slice Aw s.words.length kw, .slice Ad s.docs.length kd, .slice Ae s.exec.length ke] := (Option.some.inj d4).symm
        replace d5 : xs 5 = .int .u8 (e.toNat : Int) := (Option.some.inj d5).symm
        rw [d4, d5] at hK ⊢
        go_simp
        refine (pairs18_any _ wx (HOK2.out.new hS) hn HLL.out e hx3).mono ?_
        rintro r w4 ⟨rfl, p4⟩
        exact hK.out _ _ (hS.trans (p4.mono hS.size)) rfl (fun j u h => VZ.new p4 j u h)
      refine Steps.cons (n := []) (k := 8) rfl (by kernel_rfl) (fun xs wx hS hV K hK => ?_) ?_
      · clear hV
        have hk := HK2.out.below hS HK2.out.lt
        have b0 : wx.cell? ⟨w.heap.size, 0, none⟩ = some (Value.int .i64 s.op) := hk.cell 0
        have b1 : wx.cell? ⟨w.heap.size, 1, none⟩ = some (Value.int .i64 s.line) := hk.cell 1
        have b2 : wx.cell? ⟨w.heap.size, 2, none⟩ = some (Value.string (bs s.from_)) := hk.cell 2
        have b3 : wx.cell? ⟨w.heap.size, 3, none⟩ = some (Value.string (bs s.mode)) := hk.cell 3
        have b4 : wx.cell? ⟨w.heap.size, 4, none⟩ = some (Value.bool s.force) := hk.cell 4
        have b5 : wx.cell? ⟨w.heap.size, 5, none⟩ = some (Value.slice Ap s.pairs.length kp) := hk.cell 5
        have b6 : wx.cell? ⟨w.heap.size, 6, none⟩ = some (Value.bool s.bare) := hk.cell 6
        have b7 : wx.cell? ⟨w.heap.size, 7, none⟩ = some (Value.slice Aw s.words.length kw) := hk.cell 7
        have b8 : wx.cell? ⟨w.heap.size, 8, none⟩ = some (Value.slice Ad s.docs.length kd) := hk.cell 8
        have b9 : wx.cell? ⟨w.heap.size, 9, none⟩ = some (Value.slice Ae s.exec.length ke) := hk.cell 9
        clear hk
        go_simp
        exact hK.out _ _ hS rfl (fun _ _ h => h)
      refine Steps.cons (n := []) (k := 9) rfl (by kernel_rfl) (fun xs wx hS hV K hK => ?_) ?_
      · clear hV
        go_simp
        exact hK.out _ _ hS rfl (fun _ _ h => h)
      refine Steps.cons (n := [7, 8]) (k := 10) rfl (by kernel_rfl) (fun xs wx hS hV K hK => ?_) ?_
      · obtain ⟨d7, d8, -⟩ := hV
        replace d7 : xs 7 = .agg #[.int .i64 s.op, .int .i64 s.line, .string (bs s.from_), .string (bs s.mode), .bool s.force, .slice Ap s.pairs.length kp, .bool s.bare, .slice Aw s.words.length kw, .slice Ad s.docs.length kd, .slice Ae s.exec.length ke] := (Option.some.inj d7).symm
        replace d8 : xs 8 = .int .u8 (e.toNat : Int) := (Option.some.inj d8).symm
        rw [d7, d8] at hK ⊢
        go_simp
        refine (words18_any _ wx (HOK2.out.new hS) hn HLL.out e hx4).mono ?_
        rintro r w4 ⟨rfl, p4⟩
        exact hK.out _ _ (hS.trans (p4.mono hS.size)) rfl (fun j u h => VZ.new p4 j u h)
      refine Steps.cons (n := [1, 3, 6, 9]) (k := 11) rfl (by kernel_rfl) (fun xs wx hS hV K hK => ?_) ?_
      · obtain ⟨d1, d3, d6, d9, -⟩ := hV
        replace d1 : xs 1 = .int .i64 (x1 : Int) := (Option.some.inj d1).symm
        replace d3 : xs 3 = .int .i64 (x2 : Int) := (Option.some.inj d3).symm
        replace d6 : xs 6 = .int .i64 (x3 : Int) := (Option.some.inj d6).symm
        replace d9 : xs 9 = .int .i64 (x4 : Int) := (Option.some.inj d9).symm
        rw [d1, d3, d6, d9] at hK ⊢
        go_simp
        exact hK.out _ _ (hS.alloc hS.size _) ⟨_, rfl, Blk.new _ _ _⟩ (fun j u h => VZ.new ((Below.refl _ _).alloc (Nat.le_refl _) _) j u h)
      refine Steps.cons (n := [10]) (k := 12) rfl (by kernel_rfl) (fun xs wx hS hV K hK => ?_) ?_
      · obtain ⟨⟨bk, d10, hb⟩, -⟩ := hV
        rw [d10] at hK ⊢
        go_simp
        exact hK.out _ _ hS rfl (fun _ _ h => h)
      refine Steps.cons (n := []) (k := 13) rfl (by kernel_rfl) (fun xs wx hS hV K hK => ?_) ?_
      · clear hV
        go_simp
        exact hK.out _ _ hS rfl (fun _ _ h => h)
      exact Steps.nil
    case hQ =>
      intro xs w9 hS hV
      obtain ⟨bk, d10, hnb⟩ := hV 10 (by decide)
      have d11 : xs 11 = .int .i64 4 := (Option.some.inj (hV 11 (by decide))).symm
      have d12 : xs 12 = .int .i64 0 := (Option.some.inj (hV 12 (by decide))).symm
      rw [d10, d11, d12]
      have HNB := Lib.hid hnb
      have HB9 := Lib.hid (below_of_below HB2.out hS HB2.out.size)
      clear hV hnb d10 d11 d12 hS HK2 HOK2 HB2
      have H0 : Hid (x = firstN ([x1, x2, x3, x4].drop 0)) := Lib.hid (by rw [HX.out]; rfl)
      clear HX
      go_wp2_with fail
      go_loopw [30] (fun t30 wr => ∃ k : Nat, k ≤ 4 ∧ t30 = .int .i64 (k : Int) ∧ Hid (x = firstN ([x1, x2, x3, x4].drop k)) ∧ w9 = wr) (fun t30 _ => 4 - (intOf t30).toNat)
      case atStart => exact ⟨0, by omega, rfl, H0, by first | rfl | trivial⟩
      case round =>
        clear H0
        obtain ⟨k, hk, rfl, HR, rfl⟩ := hrel
        have j0 : (0 : Int) ≤ (k : Int) := by omega
        rcases Nat.lt_or_ge k 4 with hk4 | hk4
        · have i0 : decide ((k : Int) < 4) = true := by rw [decide_eq_true_eq]; omega
          have i1 : (k : Int) < 4 := by omega
          have i0n : decide (k < 4) = true := by rw [decide_eq_true_eq]; omega
          obtain ⟨y, hy⟩ : ∃ y, [x1, x2, x3, x4][k]'hk4 = y := ⟨_, rfl⟩
          have hcell : w9.cell? ⟨bk, k, none⟩ = some (.int .i64 (y : Int)) := by
            rw [HNB.out.cell k, ← hy]
            match k, hk4 with
            | 0, _ => rfl
            | 1, _ => rfl
            | 2, _ => rfl
            | 3, _ => rfl
          have hR := HR.out
          rw [List.drop_eq_getElem_cons (l := [x1, x2, x3, x4]) (h := hk4), hy] at hR
          have HR2 : Hid (x = if y ≠ 0 then y else firstN ([x1, x2, x3, x4].drop (k + 1))) := Lib.hid hR
          clear hR HR hy
          rcases Nat.eq_zero_or_pos y with hy0 | hy0
          · subst hy0
            go_wp2_with fail
            go_roundw
            case rel => exact ⟨k + 1, by omega, by go_num, Lib.hid (by rw [HR2.out, if_neg (by simp)]), by first | rfl | trivial⟩
            case measure => simp [intOf]; omega
          · have k0 : ((y : Int) == 0) = false := by rw [beq_eq_false_iff_ne]; omega
            have k1 : (y == 0) = false := by rw [beq_eq_false_iff_ne]; omega
            have k2 : ((y : Int) != 0) = true := by rw [bne, k0]; rfl
            have HF : Hid (x = y) := Lib.hid (by rw [HR2.out, if_pos (by omega)])
            go_wp2_with fail
            go_ret
            exact ⟨by rw [HF.out]; rfl, HB9.out⟩
        · have i0 : decide ((k : Int) < 4) = false := by rw [decide_eq_false_iff_not]; omega
          have i0n : decide (k < 4) = false := by rw [decide_eq_false_iff_not]; omega
          have HF : Hid (x = 0) := Lib.hid (by rw [HR.out, List.drop_eq_nil_of_le (by simp; omega)]; rfl)
          go_wp2_with fail
          go_ret
          exact ⟨by rw [HF.out]; rfl, HB9.out⟩
end Go.Proofs.YtdaejggcjjdhkaaGreatDoor
