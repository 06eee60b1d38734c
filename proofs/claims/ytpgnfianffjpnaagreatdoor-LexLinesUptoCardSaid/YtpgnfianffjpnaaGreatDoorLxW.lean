/- lex.directives, walked. -/
import Derived.Test.YtpgnfianffjpnaaGreatDoorLxV
namespace Go.Proofs.YtpgnfianffjpnaaGreatDoor
open Go Go.RowKit

theorem directive_none {l : List UInt8} (hs : l.length ≤ 2000000) (w : World) (hm : Maxl w) (H : Hid (Lx.dirP l = none)) : Calls Tryz.prog 88 #[.string (bs l)] w fun e w' => e = .returned (.tuple #[.string ⟨#[]⟩, .int .i64 0, .bool false]) ∧ Below w.heap.size w w' :=
  (directive_any l hs w hm H).mono fun _ _ ⟨h1, h2⟩ => ⟨h1, h2⟩
theorem directive_some {l : List UInt8} (hs : l.length ≤ 2000000) (w : World) (hm : Maxl w) {p : Nat} (H : Hid (Lx.dirP l = some p)) : Calls Tryz.prog 88 #[.string (bs l)] w fun e w' => e = .returned (.tuple #[.string (bs (Lx.dirV l p)), .int .i64 (p : Int), .bool true]) ∧ Below w.heap.size w w' :=
  (directive_any l hs w hm H).mono fun _ _ ⟨h1, h2⟩ => ⟨h1, h2⟩
/-- what the directives' reader answers. -/
def DirsAns (w' : World) (R g c : Nat) (L : List (List UInt8)) (RES : Lx.Err ⊕ (Nat × UInt8)) (r : Ending) : Prop := match RES with
  | .inl z => r = .returned (eFault (z.1 : Int) z.2.1 z.2.2)
  | .inr (n, e) => r = .returned .nilIface ∧ n ≤ L.length ∧ Rd w' R g c L n e
/-- where the reader stands: ahead of the first line, or of the second one. -/
def DirAt (wr : World) (R g c : Nat) (L : List (List UInt8)) (RES : Lx.Err ⊕ (Nat × UInt8)) (first : Bool) : Prop :=
  (first = true ∧ Rd wr R g c L 0 92 ∧ RES = Lx.dirsL L) ∨
  (first = false ∧ ∃ e, Rd wr R g c L 1 e ∧ 1 ≤ L.length ∧ RES = (if (Lx.dirP (nextL L 1)).isSome then .inl (11, 2, (Lx.headN (nextL L 1) : Int) + 1) else .inr (1, e)))
theorem dirP_nil : Lx.dirP [] = none := rfl
theorem nextL_lt {L : List (List UInt8)} {i : Nat} (h : i < L.length) : nextL L i = L[i] := by rw [nextL, List.getElem?_eq_getElem h]; rfl
theorem nextL_ge {L : List (List UInt8)} {i : Nat} (h : L.length ≤ i) : nextL L i = [] := by rw [nextL, List.getElem?_eq_none h]; rfl
theorem dirs_none {L : List (List UInt8)} (h : Lx.dirP (nextL L 0) = none) : Lx.dirsL L = .inr (0, 92) := by
  cases L with
  | nil => rfl
  | cons x r => rw [Lx.dirsL, show Lx.dirP x = none from h]
theorem dirs_form {L : List (List UInt8)} {p : Nat} (h : Lx.dirP (nextL L 0) = some p) (h1 : Lx.dirV (nextL L 0) p ≠ [92]) (h2 : Lx.dirV (nextL L 0) p ≠ [96]) : Lx.dirsL L = .inl (4, 1, (p : Int)) := by
  cases L with
  | nil => rw [show nextL [] 0 = [] from rfl, dirP_nil] at h; cases h
  | cons x r =>
    have hx : nextL (x :: r) 0 = x := rfl
    rw [hx] at h h1 h2
    rw [Lx.dirsL, h]
    simp only
    split
    · rename_i c hc
      rw [if_neg]
      rintro (e | e)
      · exact h1 (by rw [hc, e])
      · exact h2 (by rw [hc, e])
    · rfl
theorem dirs_go {L : List (List UInt8)} {p : Nat} {c : UInt8} (h : Lx.dirP (nextL L 0) = some p) (h1 : Lx.dirV (nextL L 0) p = [c]) (h2 : c = 92 ∨ c = 96) : Lx.dirsL L = (if (Lx.dirP (nextL L 1)).isSome then .inl (11, 2, (Lx.headN (nextL L 1) : Int) + 1) else .inr (1, c)) := by
  cases L with
  | nil => rw [show nextL [] 0 = [] from rfl, dirP_nil] at h; cases h
  | cons x r =>
    have hx : nextL (x :: r) 0 = x := rfl
    rw [hx] at h h1
    rw [Lx.dirsL, h]
    simp only [h1]
    rw [if_pos h2]
    cases r with
    | nil => rw [nextL_ge (by simp), dirP_nil]; rfl
    | cons y r => rfl
theorem nextL_len {L : List (List UInt8)} {i n : Nat} (h : Hid (∀ x ∈ L, x.length ≤ n)) : (nextL L i).length ≤ n := by
  rcases Nat.lt_or_ge i L.length with hi | hi
  · rw [nextL_lt hi]; exact h.out _ (List.getElem_mem hi)
  · rw [nextL_ge hi]; simp
set_option maxRecDepth 100000 in
set_option maxHeartbeats 8000000 in
theorem directives_any {w : World} {R g c : Nat} {L : List (List UInt8)} (hr : Rd w R g c L 0 92) (hm : Maxl w) (hL : L.length ≤ 5000) (hx : Hid (∀ x ∈ L, x.length ≤ 70000)) {RES : Lx.Err ⊕ (Nat × UInt8)} (H : Hid (Lx.dirsL L = RES)) :
    Calls Tryz.prog 39 #[.pointer (some ⟨R, 0, none⟩)] w fun r w' => DirsAns w' R g c L RES r ∧ Fx (· = R) w w' := by
  have hRl := hr.box.lt
  have hgl := hr.lt
  have HM := Lib.hid hm
  have H0 : Hid (DirAt w R g c L RES true) := Lib.hid (.inl ⟨rfl, hr, H.out.symm⟩)
  clear hr hm H
  go_enter Tryz.func39, Tryz.ntmps39
  go_wp2_with fail
  go_loopw [3, 4, 5, 6, 7, 8] (fun t3 _ _ _ _ _ wr => ∃ first : Bool, t3 = .bool first ∧ Hid (DirAt wr R g c L RES first) ∧ Hid (Fx (· = R) w wr) ∧ Hid (Maxl wr)) (fun t3 _ _ _ _ _ _ => match t3 with | .bool true => 1 | _ => 0)
  case atStart => exact ⟨true, rfl, H0, Lib.hid Fx.refl, HM⟩
  case round =>
    clear H0
    obtain ⟨first, rfl, HD, HF, HMr⟩ := hrel
    rcases HD.out with ⟨rfl, hR, hRS⟩ | ⟨rfl, e, hR, h1L, hRS⟩
    · have hl0 := nextL_len (i := 0) hx
      obtain ⟨x, hxe⟩ : ∃ x, nextL L 0 = x := ⟨_, rfl⟩
      have hpk := peek_any hR (Nat.zero_le _)
      rw [hxe] at hpk hl0
      have HPK := Lib.hid hpk
      have HR0 := Lib.hid hR
      cases hdp : Lx.dirP x with
      | none =>
        have HRS : Hid (RES = .inr (0, 92)) := by show _ = _; rw [hRS, dirs_none (by rw [hxe]; exact hdp)]
        have HDP := Lib.hid hdp
        clear hdp hRS hpk hR hxe HD
        go_wp2_with fail
        refine (HPK.out).mono ?_
        rintro r w1 ⟨rfl, b1⟩
        have HM1 := Lib.hid (HMr.out.grow b1)
        have HF1 := Lib.hid (HF.out.trans (Fx.new b1))
        have HR1 := Lib.hid (HR0.out.new b1)
        clear b1
        go_wp2_with fail
        refine (directive_none (by omega) _ HM1.out HDP).mono ?_
        rintro r w2 ⟨rfl, b2⟩
        have HF2 := Lib.hid (HF1.out.trans (Fx.new b2))
        have HR2 := Lib.hid (HR1.out.new b2)
        clear b2
        go_wp2_with fail
        go_ret
        refine ⟨?_, HF2.out⟩
        rw [HRS.out]
        exact ⟨rfl, Nat.zero_le _, HR2.out⟩
      | some p =>
        have h0L : 0 < L.length := by
          rcases Nat.lt_or_ge 0 L.length with h | h
          · exact h
          · rw [nextL_ge h] at hxe
            rw [← hxe, dirP_nil] at hdp
            cases hdp
        have hxe2 : Hid (L[0] = x) := Lib.hid (by rw [← nextL_lt h0L]; exact hxe)
        obtain ⟨V, hV⟩ : ∃ V, Lx.dirV x p = V := ⟨_, rfl⟩
        have hds := fun w hm => directive_some (l := x) (by omega) w hm (p := p) (Lib.hid hdp)
        rw [hV] at hds
        obtain ⟨T, hT⟩ : ∃ T, bs V = T := ⟨_, rfl⟩
        rw [hT] at hds
        have HDS := Lib.hid hds
        have q1 : (T.toList == [92]) = decide (V = [92]) := by rw [← hT, toList_bs, Bool.eq_iff_iff]; simp
        have q2 : (T.toList == [96]) = decide (V = [96]) := by rw [← hT, toList_bs, Bool.eq_iff_iff]; simp
        have hdp0 : Lx.dirP (nextL L 0) = some p := by rw [hxe]; exact hdp
        have hV0 : Lx.dirV (nextL L 0) p = V := by rw [hxe]; exact hV
        have HSTEP : Hid (∀ wv w1, Below wr.heap.size wr w1 → Below w1.heap.size w1 wv → Maxl wv ∧ Rd wv R g c L 0 92 ∧ Fx (· = R) w wv) := Lib.hid fun wv w1 b1 b2 =>
          ⟨(HMr.out.grow b1).grow b2, (HR0.out.new b1).new b2, (HF.out.trans (Fx.new b1)).trans (Fx.new b2)⟩
        by_cases hesc : V = [92] ∨ V = [96]
        · obtain ⟨ch, hch, hch2⟩ : ∃ ch, V = [ch] ∧ (ch = 92 ∨ ch = 96) := by
            rcases hesc with h | h
            · exact ⟨92, h, .inl rfl⟩
            · exact ⟨96, h, .inr rfl⟩
          have HGO : Hid (RES = (if (Lx.dirP (nextL L 1)).isSome then .inl (11, 2, (Lx.headN (nextL L 1) : Int) + 1) else .inr (1, ch))) := by
            show _ = _
            rw [hRS, dirs_go hdp0 (by rw [hV0]; exact hch) hch2]
          have s0 : 0 < T.size := by rw [← hT, hch, bs_size]; simp
          have s1 : T[0]'s0 = ch := by
            subst hT
            subst hch
            rfl
          have hbc : ch.toNat < 256 := UInt8.toNat_lt _
          obtain ⟨b1, hb1⟩ : ∃ b, (T.toList == [92]) = b := ⟨_, rfl⟩
          obtain ⟨b2, hb2⟩ : ∃ b, (T.toList == [96]) = b := ⟨_, rfl⟩
          have HBB : Hid (b1 = true ∨ b2 = true) := Lib.hid (by
            rw [← hb1, ← hb2, q1, q2]
            rcases hesc with h | h
            · exact .inl (by rw [h]; rfl)
            · exact .inr (by rw [h]; rfl))
          clear hesc hch hT q1 q2 hV hV0 hdp0 hds hdp hpk hR hxe HD hRS
          go_wp2_with fail
          refine (HPK.out).mono ?_
          rintro r w1 ⟨rfl, bb1⟩
          have HM1 := Lib.hid (HMr.out.grow bb1)
          have HB1 := Lib.hid bb1
          clear bb1
          go_wp2_with fail
          refine (HDS.out _ HM1.out).mono ?_
          rintro r w2 ⟨rfl, bb2⟩
          obtain ⟨hM2, hR2, hF2⟩ := HSTEP.out _ _ HB1.out bb2
          have HM2 := Lib.hid hM2
          have HR2 := Lib.hid hR2
          have HF2 := Lib.hid hF2
          clear bb2 hM2 hR2 hF2
          go_wp2_with fail
          refine (next_line HR2.out h0L (by omega) hxe2).mono ?_
          rintro r w3 ⟨rfl, hR3, hG3⟩
          have k2 : w3.cell? ⟨R, 2, none⟩ = some (.int .u8 92) := hR3.box.cell 2
          have f2 := hR3.box.frozen 2
          have hR4 := hR3.esc ch
          have hF4 := (HF2.out.trans (Fx.row1 hG3)).trans (Fx.set w3 R 2 (.int .u8 (ch.toNat : Int)))
          have hM4 : Maxl (w3.setCell ⟨R, 2, none⟩ (.int .u8 (ch.toNat : Int))) := by
            obtain ⟨m, hm⟩ := HM2.out
            refine ⟨m, ((Fx.row1 hG3).trans (Fx.set w3 R 2 (.int .u8 (ch.toNat : Int)))).cell hm ?_⟩
            rintro rfl
            have h := HR2.out.box.cell 0
            rw [hm] at h
            cases h
          have HR4 := Lib.hid hR4
          have HF4 := Lib.hid hF4
          have HM4 := Lib.hid hM4
          have HD4 : Hid (DirAt (w3.setCell ⟨R, 2, none⟩ (.int .u8 (ch.toNat : Int))) R g c L RES false) := Lib.hid (.inr ⟨rfl, ch, hR4, h0L, HGO.out⟩)
          clear hR3 hG3 hR4 hF4 hM4
          cases b1 <;> cases b2 <;> first
            | exact absurd HBB.out (by decide)
            | (go_wp2_with fail
               go_roundw
               case rel => exact ⟨false, rfl, HD4, HF4, HM4⟩
               case measure => simp)
        · have q1' : (T.toList == [92]) = false := by rw [q1, decide_eq_false_iff_not]; exact fun e => hesc (.inl e)
          have q2' : (T.toList == [96]) = false := by rw [q2, decide_eq_false_iff_not]; exact fun e => hesc (.inr e)
          have HER : Hid (RES = .inl (4, 1, (p : Int))) := by
            show _ = _
            rw [hRS, dirs_form hdp0 (by rw [hV0]; exact fun e => hesc (.inl e)) (by rw [hV0]; exact fun e => hesc (.inr e))]
          clear hesc hT q1 q2 hV hV0 hdp0 hds hdp hpk hR hxe HD hRS
          go_wp2_with fail
          refine (HPK.out).mono ?_
          rintro r w1 ⟨rfl, bb1⟩
          have HM1 := Lib.hid (HMr.out.grow bb1)
          have HB1 := Lib.hid bb1
          clear bb1
          go_wp2_with fail
          refine (HDS.out _ HM1.out).mono ?_
          rintro r w2 ⟨rfl, bb2⟩
          obtain ⟨hM2, hR2, hF2⟩ := HSTEP.out _ _ HB1.out bb2
          have HR2 := Lib.hid hR2
          have HF2 := Lib.hid hF2
          clear bb2 hM2 hR2 hF2
          go_wp2_with fail
          refine (next_line HR2.out h0L (by omega) hxe2).mono ?_
          rintro r w3 ⟨rfl, hR3, hG3⟩
          have HR3 := Lib.hid hR3
          have HF3 := Lib.hid (HF2.out.trans (Fx.row1 hG3))
          clear hR3 hG3
          go_wp2_with fail
          refine (number_any HR3.out).mono ?_
          rintro r w4 ⟨rfl, rfl⟩
          go_wp2_with fail
          refine (fault_any _ _ _ _).mono ?_
          rintro r w5 ⟨rfl, rfl⟩
          go_wp2_with fail
          go_ret
          refine ⟨?_, HF3.out⟩
          rw [HER.out]
          rfl
    · have hl0 := nextL_len (i := 1) hx
      obtain ⟨y, hye⟩ : ∃ y, nextL L 1 = y := ⟨_, rfl⟩
      have hpk := peek_any hR h1L
      rw [hye] at hpk hl0 hRS
      have HPK := Lib.hid hpk
      have HR0 := Lib.hid hR
      cases hdp : Lx.dirP y with
      | none =>
        have HRS : Hid (RES = .inr (1, e)) := by show _ = _; rw [hRS, hdp]; rfl
        have HDP := Lib.hid hdp
        clear hdp hRS hpk hR hye HD
        go_wp2_with fail
        refine (HPK.out).mono ?_
        rintro r w1 ⟨rfl, b1⟩
        have HM1 := Lib.hid (HMr.out.grow b1)
        have HF1 := Lib.hid (HF.out.trans (Fx.new b1))
        have HR1 := Lib.hid (HR0.out.new b1)
        clear b1
        go_wp2_with fail
        refine (directive_none (by omega) _ HM1.out HDP).mono ?_
        rintro r w2 ⟨rfl, b2⟩
        have HF2 := Lib.hid (HF1.out.trans (Fx.new b2))
        have HR2 := Lib.hid (HR1.out.new b2)
        clear b2
        go_wp2_with fail
        go_ret
        refine ⟨?_, HF2.out⟩
        rw [HRS.out]
        exact ⟨rfl, h1L, HR2.out⟩
      | some p =>
        have hL2 : 1 < L.length := by
          rcases Nat.lt_or_ge 1 L.length with h | h
          · exact h
          · rw [nextL_ge h] at hye
            rw [← hye, dirP_nil] at hdp
            cases hdp
        have hye2 : Hid (L[1] = y) := Lib.hid (by rw [← nextL_lt hL2]; exact hye)
        have HRS : Hid (RES = .inl (11, 2, (Lx.headN y : Int) + 1)) := by show _ = _; rw [hRS, hdp]; rfl
        have HDP := Lib.hid hdp
        obtain ⟨t, ht⟩ : ∃ t, Hid (Gl.lft y = t) := ⟨_, Lib.hid rfl⟩
        have htl : t.length ≤ y.length := by rw [← ht.out]; exact Lx.lft_le y
        have HZX := Lib.hid (bs_size y)
        have HZT := Lib.hid (bs_size t)
        have hzx : (bs y).size ≤ 70000 := by rw [HZX.out]; exact hl0
        have hzt : (bs t).size ≤ (bs y).size := by rw [HZX.out, HZT.out]; exact htl
        have HSUB : Hid (((bs y).size : Int) - ((bs t).size : Int) + 1 = ((Lx.headN y : Nat) : Int) + 1) := by show _ = _; rw [Lx.headN, ht.out, HZX.out, HZT.out]; omega
        clear hdp hRS hpk hR hye HD
        go_wp2_with fail
        refine (HPK.out).mono ?_
        rintro r w1 ⟨rfl, b1⟩
        have HM1 := Lib.hid (HMr.out.grow b1)
        have HF1 := Lib.hid (HF.out.trans (Fx.new b1))
        have HR1 := Lib.hid (HR0.out.new b1)
        clear b1
        go_wp2_with fail
        refine (directive_some (by omega) _ HM1.out HDP).mono ?_
        rintro r w2 ⟨rfl, b2⟩
        have HF2 := Lib.hid (HF1.out.trans (Fx.new b2))
        have HR2 := Lib.hid (HR1.out.new b2)
        clear b2
        go_wp2_with fail
        refine (next_line HR2.out hL2 (by omega) hye2).mono ?_
        rintro r w3 ⟨rfl, hR3, hG3⟩
        have HR3 := Lib.hid hR3
        have HF3 := Lib.hid (HF2.out.trans (Fx.row1 hG3))
        clear hR3 hG3
        go_wp2_with fail
        refine (number_any HR3.out).mono ?_
        rintro r w4 ⟨rfl, rfl⟩
        go_wp2_with fail
        refine (trimLeft_any y _ ht).mono ?_
        rintro r w5 ⟨rfl, b5⟩
        have HF5 := Lib.hid (HF3.out.trans (Fx.new b5))
        clear b5
        go_wp2_with fail
        refine (fault_any _ _ _ _).mono ?_
        rintro r w6 ⟨rfl, rfl⟩
        go_wp2_with fail
        go_ret
        refine ⟨?_, HF5.out⟩
        rw [HRS.out]
        show _ = Ending.returned (eFault 11 2 ((Lx.headN y : Int) + 1))
        rw [← HSUB.out]
        rfl
end Go.Proofs.YtpgnfianffjpnaaGreatDoor
