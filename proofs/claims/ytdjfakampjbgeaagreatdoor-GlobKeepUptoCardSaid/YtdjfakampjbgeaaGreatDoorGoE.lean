/- glob.Parse, walked. -/
import Derived.Test.YtdjfakampjbgeaaGreatDoorGoD
namespace Go.Proofs.YtdjfakampjbgeaaGreatDoor
open Go Go.RowKit

theorem trim_at' (x : List UInt8) (hx : x.length ≤ 2000000) (w : World) {S : ByteArray} (H : Hid (bs (Gl.trimL x) = S)) : Calls Tryz.prog 22 #[.string (bs x), .string ⟨#[32, 9, 13]⟩] w fun e w' => e = .returned (.string S) ∧ Below w.heap.size w w' := by
  have := trim_any (bs x) (by rw [bs_size]; omega) w (t := Gl.trimL x) (Lib.hid (by rw [bl_bs]))
  rwa [H.out] at this
theorem trimLeft_at (x : List UInt8) (w : World) : Calls Tryz.prog 23 #[.string (bs x), .string ⟨#[32, 9, 13]⟩] w fun e w' => e = .returned (.string (bs (Gl.lft x))) ∧ Below w.heap.size w w' :=
  trimLeft_any (bs x) w (Lib.hid (by rw [bl_bs]))
theorem read_at (q : List UInt8) (hq : q.length ≤ 2000000) (w : World) (hmx : Maxl w) : Calls Tryz.prog 24 #[.string (bs q)] w fun e w' => ReadAns q w w' e ∧ Below w.heap.size w w' := by
  have := read_pat (bs q) (by rw [bs_size]; exact hq) w hmx
  rwa [bl_bs] at this
set_option maxRecDepth 100000 in
set_option maxHeartbeats 8000000 in
theorem parse_any (s : ByteArray) (hs : s.size ≤ 2000000) (w : World) (hmx : Maxl w) {RES : (Nat × Nat) ⊕ List Gl.Rl} (H : Hid (Gl.parseL (bl s) = RES)) : Calls Tryz.prog 6 #[.string s] w fun e w' => ParseAns RES w w' e ∧ Below w.heap.size w w' := by
  obtain ⟨l, hl⟩ : ∃ l, Hid (Gl.cutL 10 (bl s) = l) := ⟨_, Lib.hid rfl⟩
  have hll : l.length ≤ 2000001 := by have := Gl.cutL_length 10 (bl s); rw [hl.out, bl_length] at this; omega
  have hx : Hid (∀ x ∈ l, x.length ≤ 2000000) := Lib.hid fun x hx => by
    rw [← hl.out] at hx
    have := Gl.cutL_piece 10 _ _ hx
    rw [bl_length] at this
    omega
  have hF0 : Hid (Gl.parseA (l.drop 0) 0 [] = RES) := by show _ = _; rw [List.drop_zero, ← hl.out]; exact H.out
  have hB0 := (Below.refl w.heap.size w).alloc (Nat.le_refl _) (.cells #[.slice none 0 0] 50)
  have hK0 := Blk.new w 50 #[.slice none 0 0]
  have hz0 : (w.alloc (.cells #[.slice none 0 0] 50)).heap.size = w.heap.size + 1 := by simp
  have HB0 := Lib.hid hB0
  have HK0 := Lib.hid hK0
  have HZ0 := Lib.hid hz0
  have HM := Lib.hid hmx
  have HM0 := Lib.hid (hmx.below hB0 hmx.lt)
  clear hB0 hK0 hz0 hmx
  go_enter Tryz.func6, Tryz.ntmps6
  go_wp2_with fail
  refine (split_any s hs _ HM0.out hl).mono ?_
  rintro e w1 ⟨rfl, hL, b1⟩
  rw [HZ0.out] at hL
  have hP0 : RsM w w.heap.size (w.heap.size + 1) (sc l) [] (.slice none 0 0) [] w1 := ⟨World.ownsRow_nil _ _ _ _, rfl, HK0.out.below b1 (by rw [HZ0.out]; omega), by simp [Value.ownBlock], hL, by simp [Value.ownBlock], by omega, below_of_below HB0.out b1 HB0.out.size, Nat.le_refl _⟩
  clear hL b1
  go_wp2_with fail
  go_loopw [5, 6, 7, 8, 9, 15] (fun _ _ _ _ _ t15 wr => ∃ (k : Nat) (out : List Gl.Rl) (v : Value) (cs : List Value), k ≤ l.length ∧ out.length ≤ 256 ∧ t15 = .int .i64 (k : Int) ∧ Hid (Gl.parseA (l.drop k) k out = RES) ∧ RsM w w.heap.size (w.heap.size + 1) (sc l) out v cs wr) (fun _ _ _ _ _ t15 _ => l.length - (intOf t15).toNat)
  case atStart => exact ⟨0, [], _, [], by omega, by simp, rfl, hF0, hP0⟩
  case round =>
    clear hF0 hP0
    obtain ⟨k, out, v, cs, hk, hol, rfl, HF, hP⟩ := hrel
    have hv := ownk_form hP.own
    have j0 : (0 : Int) ≤ (k : Int) := by omega
    rcases Nat.lt_or_ge k l.length with hkn | hkn
    · have i0 : decide ((k : Int) < (l.length : Int)) = true := by rw [decide_eq_true_eq]; omega
      have i1 : (k : Int) < (l.length : Int) := by omega
      obtain ⟨x, hxe⟩ : ∃ x, l[k] = x := ⟨_, rfl⟩
      have d0 : wr.cell? ⟨w.heap.size + 1, k, none⟩ = some (.string (bs x)) := by rw [hP.ln.cell, ← hxe]; simp [sc, hkn]
      have hlx := hx.out _ (List.getElem_mem hkn)
      have hd : Hid (l.drop k = x :: l.drop (k + 1)) := by show _ = _; rw [List.drop_eq_getElem_cons hkn, hxe]
      rw [hxe] at hlx
      clear hxe
      have htl := Gl.trimL_len x
      obtain ⟨S, hS⟩ : ∃ S, Hid (bs (Gl.trimL x) = S) := ⟨_, Lib.hid rfl⟩
      have HPr := Lib.hid hP
      have HV := Lib.hid hv
      clear hP hv
      cases htx : Gl.trimL x with
      | nil =>
        have HR : Hid (Gl.ruleOf x = none) := by show _ = _; rw [Gl.ruleOf, htx]
        have hSe : S = ⟨#[]⟩ := by rw [← hS.out, htx]; rfl
        subst hSe
        have HF2 : Hid (Gl.parseA (l.drop (k + 1)) (k + 1) out = RES) := by show _ = _; rw [← HF.out, hd.out, Gl.parseA_skip HR.out]
        clear HF htx HR
        go_wp2_with fail
        refine (trim_at' x hlx _ hS).mono ?_
        rintro e w2 ⟨rfl, b2⟩
        go_wp2_with fail
        go_roundw
        case rel => exact ⟨k + 1, out, v, cs, by omega, by omega, by go_num, HF2, HPr.out.grow (grown_of_below b2 none)⟩
        case measure => simp [intOf]; omega
      | cons c r =>
        have HT := Lib.hid htx
        rw [htx, List.length_cons] at htl
        have hz : S.size = r.length + 1 := by rw [← hS.out, htx, bs_size, List.length_cons]
        have hzz0 : 0 < S.size := by omega
        have hS0 : S[0]'hzz0 = c := by
          have h0 := hS.out
          rw [htx] at h0
          subst h0
          rfl
        have hne : S.toList.isEmpty = false := by
          have h0 := hS.out
          rw [htx] at h0
          rw [← h0, toList_bs]
          rfl
        have hne2 : (S.toList == []) = false := by
          have h0 := hS.out
          rw [htx] at h0
          rw [← h0, toList_bs]
          rfl
        have hS1 : Hid (S.extract 1 S.size = bs r) := by
          show _ = _
          have h0 := hS.out
          rw [htx] at h0
          rw [← h0, ext_bs, bl_bs, bs_size]
          simp
        have hby : c.toNat < 256 := UInt8.toNat_lt _
        have hSc : Hid (S = bs (c :: r)) := by show _ = _; rw [← htx]; exact hS.out.symm
        clear htx
        by_cases h35 : c = 35
        · have t2 : ((c.toNat : Int) == 35) = true := by rw [h35]; rfl
          have HR : Hid (Gl.ruleOf x = none) := by show _ = _; rw [Gl.ruleOf, HT.out]; simp only [if_pos h35]
          have HF2 : Hid (Gl.parseA (l.drop (k + 1)) (k + 1) out = RES) := by show _ = _; rw [← HF.out, hd.out, Gl.parseA_skip HR.out]
          clear HF HR h35 hz
          go_wp2_with fail
          refine (trim_at' x hlx _ hS).mono ?_
          rintro e w2 ⟨rfl, b2⟩
          go_wp2_with fail
          go_roundw
          case rel => exact ⟨k + 1, out, v, cs, by omega, by omega, by go_num, HF2, HPr.out.grow (grown_of_below b2 none)⟩
          case measure => simp [intOf]; omega
        · have t2 : ((c.toNat : Int) == 35) = false := by simp only [beq_eq_false_iff_ne, ne_eq]; exact fun e => h35 (UInt8.toNat_inj.1 (by rw [show (35 : UInt8).toNat = 35 from rfl]; omega))
          obtain ⟨b, hb⟩ : ∃ b, ((c.toNat : Int) == 33) = b := ⟨_, rfl⟩
          have hb33 : Hid (b = decide (c = 33)) := by
            show _ = _
            rw [← hb, Bool.eq_iff_iff, beq_iff_eq, decide_eq_true_eq]
            exact ⟨fun e => UInt8.toNat_inj.1 (by rw [show (33 : UInt8).toNat = 33 from rfl]; omega), fun e => by rw [e]; rfl⟩
          have H35 := Lib.hid h35
          clear h35 hz
          go_wp2_with fail
          refine (trim_at' x hlx _ hS).mono ?_
          rintro e w2 ⟨rfl, b2⟩
          have hz2 := b2.size
          have B2 := Lib.hid b2
          clear b2
          have hB5 := B2.out.alloc hz2 (.cells #[.bool b, .slice none 0 0] 55)
          have hK5 := Blk.new w2 55 #[.bool b, .slice none 0 0]
          have hz5 : (w2.alloc (.cells #[.bool b, .slice none 0 0] 55)).heap.size = w2.heap.size + 1 := by simp
          have HB5 := Lib.hid hB5
          have HK5 := Lib.hid hK5
          have HZ5 := Lib.hid hz5
          clear hB5 hK5 hz5
          go_upto_if 34 with fail
          go_cut [6] (fun s6 wx => ∃ q, s6 = .string (bs q) ∧ Hid (Gl.ruleOf x = some (b, q)) ∧ Below (w2.alloc (.cells #[.bool b, .slice none 0 0] 55)).heap.size (w2.alloc (.cells #[.bool b, .slice none 0 0] 55)) wx)
          case first =>
            cases b with
            | true =>
              have hc : c = 33 := by have := hb33.out; simpa using this.symm
              have HR : Hid (Gl.ruleOf x = some (true, Gl.lft r)) := by
                show _ = _
                rw [Gl.ruleOf, HT.out]
                simp only [if_neg H35.out, if_pos hc]
              have hsl := slice_f S (bs r) 1 1 rfl (by omega) hS1.out
              clear hc
              go_wp2_with (go_at_call 23; refine (trimLeft_at r _).mono ?_; rintro e w3 ⟨rfl, b3⟩)
              go_meet
              exact ⟨Gl.lft r, rfl, HR, b3⟩
            | false =>
              have hc : c ≠ 33 := by have := hb33.out; simpa using this.symm
              have HR : Hid (Gl.ruleOf x = some (false, c :: r)) := by
                show _ = _
                rw [Gl.ruleOf, HT.out]
                simp only [if_neg H35.out, if_neg hc]
              clear hc
              go_wp2_with fail
              go_meet
              exact ⟨c :: r, by rw [hSc.out], HR, Below.refl _ _⟩
          case rest =>
            obtain ⟨q, rfl, HR, b5⟩ := hcut
            have hql := Gl.ruleOf_len HR.out
            have BX := below_of_below HB5.out b5 HB5.out.size
            have hKc := HK5.out.below b5 (by rw [HZ5.out]; omega)
            have hzc := b5.size
            rw [HZ5.out] at hzc
            have hPc := HPr.out.grow (grown_of_below BX none)
            obtain ⟨AA, ca, hve⟩ := HV.out
            subst hve
            have cB : wc.cell? ⟨w.heap.size, 0, none⟩ = some (.slice AA out.length ca) := hPc.box.cell 0
            have hMc := HM.out.below hPc.bel HM.out.lt
            clear d0 t2 hb hb33 hSc hS1 hne hne2 hby hS0 HB5 HK5 HZ5 b5 HV
            rcases Nat.lt_or_ge out.length 256 with hm | hm
            · have t3 : decide ((256 : Int) ≤ (out.length : Int)) = false := by rw [decide_eq_false_iff_not]; omega
              have hm2 : Hid (¬ 256 ≤ out.length) := Lib.hid (by omega)
              have HPc := Lib.hid hPc
              have HKc := Lib.hid hKc
              have HBX := Lib.hid BX
              clear hPc hKc BX
              go_wp2_with fail
              refine (read_at q (by omega) _ hMc).mono ?_
              rintro e w9 ⟨hA, b9⟩
              have hP9 := HPc.out.grow (grown_of_below b9 none)
              have BX9 := below_of_below HBX.out b9 HBX.out.size
              have hK9 := HKc.out.below b9 (by omega)
              have hz9 := b9.size
              rcases hA with ⟨hq, rfl⟩ | ⟨ps, vm, hq, rfl, hRm⟩
              · have HE : Hid (RES = .inl (24, k + 1)) := by show _ = _; rw [← HF.out, hd.out, Gl.parseA_none HR.out hm2.out hq]
                have hbel := hP9.bel
                clear hq HF b9 hP9 hK9 cB HPc HKc HPr
                go_wp2_with fail
                go_ret2
                exact ⟨by rw [HE.out]; first | rfl | (simp only [ParseAns]; rfl), hbel⟩
              · have HF2 : Hid (Gl.parseA (l.drop (k + 1)) (k + 1) (out ++ [⟨b, q, ps⟩]) = RES) := by show _ = _; rw [← HF.out, hd.out, Gl.parseA_some HR.out hm2.out hq]
                obtain ⟨A9, c9, rfl⟩ := hRm.form
                have c1 : w9.cell? ⟨w2.heap.size, 1, none⟩ = some (.slice none 0 0) := hK9.cell 1
                have f1 := hK9.frozen 1
                obtain ⟨wq, hwq⟩ : ∃ wq, w9.setCell ⟨w2.heap.size, 1, none⟩ (.slice A9 ps.length c9) = wq := ⟨_, rfl⟩
                have hBq : Below wr.heap.size wr wq := by rw [← hwq]; exact BX9.setCell (p := ⟨w2.heap.size, 1, none⟩) hz2 _
                have hPq := HPr.out.grow (grown_of_below hBq none)
                have hKq : Blk wq w2.heap.size 55 #[.bool b, .slice A9 ps.length c9] := by
                  rw [← hwq]
                  have := hK9.set_ 1 (.slice A9 ps.length c9)
                  simpa using this
                have hzq : wq.heap.size = w9.heap.size := by rw [← hwq]; simp [World.setCell]
                have HZQ := Lib.hid hzq
                have hown := ownk_lt HPr.out.own
                have hlies : Lies w9 wq (fun g => wc.heap.size ≤ g ∧ g < w9.heap.size) (Sb w wq w.heap.size (.slice AA out.length ca)) := fun g hg hgl => by
                  have hwr := HPr.out.bel.size
                  have hbx := HPr.out.box.lt
                  refine ⟨?_, by omega, by omega, fun e => ?_, by omega⟩
                  · rw [← hwq]
                    simp [World.setCell, Array.getElem?_modify, show w2.heap.size ≠ g from fun e => by omega]
                  · have := hown g e
                    omega
                have hRq := hRm.keep hlies
                have k0 : wq.cell? ⟨w2.heap.size, 0, none⟩ = some (.bool b) := hKq.cell 0
                have k1 : wq.cell? ⟨w2.heap.size, 1, none⟩ = some (.slice A9 ps.length c9) := hKq.cell 1
                have kB : wq.cell? ⟨w.heap.size, 0, none⟩ = some (.slice AA out.length ca) := hPq.box.cell 0
                have fB := hPq.box.frozen 0
                have hbx := hPq.box.lt
                have HPQ := Lib.hid hPq
                have hbelq := hPq.bel
                have hszq := hPq.bel.size
                have hownq := hPq.own
                have hboxq := hPq.box
                have hneq := hPq.ne
                have hlt2 : w2.heap.size < wq.heap.size := hKq.lt
                have HWQ := Lib.hid hwq
                clear hwq hzq hlies hRm hKq hPq hBq hK9 hP9 hq HF b9 cB HPc HKc HBX hown
                go_upto_region 16 with fail
                rw [HWQ.out]
                clear c1 f1 HWQ
                go_region_law (refine step_appk rfl _ _ _ rfl grlK _ _ _ _ rfl (hownq.alloc _) _ _ _ _ rfl rfl (news_at _ _ (by simp) _ _) (by simp [Value.oneCell']) (by omega) (by omega) (hbelq.alloc hszq _).drew (by simp; omega) ?_; intro v1 w1 ho1 hb1 hg1 hat1; obtain ⟨B1, q1, rfl⟩ := ownk_form ho1; have hbx1 := hg1.block w.heap.size (by simp; omega) (fun e => hneq e.symm); have hbx2 : Blk w1 w.heap.size 50 #[.slice AA out.length ca] := hbx1.trans (Blk.alloc hboxq _); have kB1 : w1.cell? ⟨w.heap.size, 0, none⟩ = some (.slice AA out.length ca) := hbx2.cell 0; have fB1 := hbx2.frozen 0; have hg2 : (wq.alloc (.cells #[.bool b, .slice A9 ps.length c9] 55)).grownBy w1 (Value.slice AA out.length ca).ownBlock := ⟨hg1.os, hg1.tape, hg1.output, hg1.size, fun k hk hn => hg1.block k hk hn⟩; have hat2 : (Value.slice B1 (out.length + 1) q1).ownBlock = (Value.slice AA out.length ca).ownBlock ∨ (Value.slice B1 (out.length + 1) q1).ownBlock = some (wq.alloc (.cells #[.bool b, .slice A9 ps.length c9] 55)).heap.size := hat1; clear hbx1 hbx2 hg1 hat1)
                all_goals (
                  go_wp2_with fail
                  go_roundw
                  case rel => exact ⟨k + 1, out ++ [⟨b, q, ps⟩], _, _, by omega, by simp only [List.length_append, List.length_cons, List.length_nil]; omega, by go_num, HF2, by first | exact HPQ.out.push (r := ⟨b, q, ps⟩) hRq ho1 hb1 hg2 hat2 | exact (HPQ.out.push (r := ⟨b, q, ps⟩) hRq ho1 hb1 hg2 hat2).drew⟩
                  case measure => simp [intOf]; omega)
            · have t3 : decide ((256 : Int) ≤ (out.length : Int)) = true := by rw [decide_eq_true_eq]; omega
              have HE : Hid (RES = .inl (5, k + 1)) := by show _ = _; rw [← HF.out, hd.out, Gl.parseA_many HR.out hm]
              have hbel := hPc.bel
              clear HF hKc hPc BX HPr
              go_wp2_with fail
              go_ret2
              exact ⟨by rw [HE.out]; first | rfl | (simp only [ParseAns]; rfl), hbel⟩
    · have i0 : decide ((k : Int) < (l.length : Int)) = false := by rw [decide_eq_false_iff_not]; omega
      have hR : Hid (RES = .inr out) := by show _ = _; rw [← HF.out, List.drop_eq_nil_of_le hkn, Gl.parseA]
      obtain ⟨AA, ca, hve⟩ := hv
      subst hve
      clear HF
      go_wp2_with fail
      go_ret2
      refine ⟨?_, hP.bel⟩
      rw [hR.out]
      exact ⟨_, rfl, _, ⟨Nat.le_refl _, hP.box.lt⟩, hP.box.cell 0, cs, RC.own hP.own (fun g e => ⟨by have := (hP.own.lt g e).1; omega, (hP.own.lt g e).2⟩), hP.rls.keep (fun g hg _ => ⟨rfl, hg.1, hg.2.1⟩)⟩
end Go.Proofs.YtdjfakampjbgeaaGreatDoor
