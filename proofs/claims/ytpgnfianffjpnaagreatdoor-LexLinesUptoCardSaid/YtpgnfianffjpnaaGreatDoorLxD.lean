/- lex.directive, copies, opening, walked. -/
import Derived.Test.YtpgnfianffjpnaaGreatDoorLxC
import Derived.Test.YtpgnfianffjpnaaGreatDoorLxP
namespace Go.Proofs.YtpgnfianffjpnaaGreatDoor
open Go Go.RowKit

/-- what directive answers. -/
def DirAns (l : List UInt8) (r : Option Nat) (e : Ending) : Prop := match r with
  | none => e = .returned (.tuple #[.string ⟨#[]⟩, .int .i64 0, .bool false])
  | some p => e = .returned (.tuple #[.string (bs (Lx.dirV l p)), .int .i64 (p : Int), .bool true])
theorem slice_one (S : ByteArray) (c : UInt8) (r : List UInt8) (h : S = bs (c :: r)) : ∀ wx, (Instr.slice 9 (.string S) (some (.int .i64 1)) none none).run Tryz.prog wx = .ok (.string (bs r)) wx := by
  subst h
  exact slice_from (c :: r) 1 1 rfl (by simp)
set_option maxRecDepth 100000 in
set_option maxHeartbeats 4000000 in
theorem directive_any (l : List UInt8) (hs : l.length ≤ 2000000) (w : World) (hm : Maxl w) {R : Option Nat} (H : Hid (Lx.dirP l = R)) : Calls Tryz.prog 88 #[.string (bs l)] w fun e w' => DirAns l R e ∧ Below w.heap.size w w' := by
  cases hl : Gl.lft l with
  | nil =>
    have HR : Hid (R = none) := by show _ = _; rw [← H.out, Lx.dir_nil hl]
    have hcall : Calls Tryz.prog 92 #[.string (bs l), .string ⟨#[32, 9, 13]⟩] w fun e w' => e = .returned (.string ⟨#[]⟩) ∧ Below w.heap.size w w' := trimLeft_any l w (Lib.hid hl)
    have HCL := Lib.hid hcall
    clear hcall H hl
    go_enter Tryz.func88, Tryz.ntmps88
    go_wp2_with fail
    refine (HCL.out).mono ?_
    rintro e w1 ⟨rfl, b1⟩
    go_wp2_with fail
    go_ret3
    exact ⟨by rw [HR.out]; rfl, b1⟩
  | cons c r =>
    obtain ⟨S, hS⟩ : ∃ S, bs (c :: r) = S := ⟨_, rfl⟩
    have hT := txtIs c r
    have hcall := trimLeft_any l w (Lib.hid hl)
    rw [hS] at hT hcall
    obtain ⟨z1, z2, z3, z4, z5⟩ := hT
    have hby : c.toNat < 256 := UInt8.toNat_lt _
    have hlen := Lx.lft_le l
    rw [hl, List.length_cons] at hlen
    have HCL := Lib.hid hcall
    have hsl := slice_one S c r hS.symm
    clear hcall hS
    by_cases hc : c = 35
    · have t1 : ((c.toNat : Int) != 35) = false := by have := u8_yes (d := 35) hc; rw [bne, show (35 : Int) = ((35 : UInt8).toNat : Int) from rfl, this]; rfl
      subst hc
      rcases Lx.cut61 r with ⟨h1, h2⟩ | ⟨a, v, h1, h2, h3⟩
      · have HR : Hid (R = none) := by show _ = _; rw [← H.out, Lx.dir_miss hl h1]
        have HC := Lib.hid h2
        clear h1 h2 H hl z1
        go_enter Tryz.func88, Tryz.ntmps88
        go_wp2_with fail
        refine (HCL.out).mono ?_
        rintro e w1 ⟨rfl, b1⟩
        go_wp2_with fail
        refine (cutEq_any r _ (by omega) (hm.grow b1) HC).mono ?_
        rintro e w2 ⟨rfl, b2⟩
        go_wp2_with fail
        go_ret3
        exact ⟨by rw [HR.out]; rfl, below_of_below b1 b2 b1.size⟩
      · have HC := Lib.hid h3
        have hdir := Lx.dir_hit hl h1 h2
        have hval := Lx.dir_value hl h1
        obtain ⟨t, ht⟩ : ∃ t, Hid (Gl.trimL a = t) := ⟨_, Lib.hid rfl⟩
        obtain ⟨tv, htv⟩ : ∃ t, Hid (Gl.trimL v = t) := ⟨_, Lib.hid rfl⟩
        have hal : a.length + v.length + 1 = r.length := by rw [h1]; simp; omega
        have hal1 : a.length ≤ 2000000 := by omega
        have hal2 : v.length ≤ 2000000 := by omega
        have hal3 : v.length ≤ l.length := by omega
        have hz1 := bs_size l
        have hz2 := bs_size v
        rw [ht.out] at hdir
        obtain ⟨sb, hsb⟩ : ∃ b, Hid (Lx.sameL t Lx.escW = b) := ⟨_, Lib.hid rfl⟩
        cases sb with
        | false =>
          have HR : Hid (R = none) := by show _ = _; rw [← H.out, hdir, if_neg (by rw [hsb.out]; simp)]
          clear h1 h2 h3 H hl z1 hdir hval hal
          go_enter Tryz.func88, Tryz.ntmps88
          go_wp2_with fail
          refine (HCL.out).mono ?_
          rintro e w1 ⟨rfl, b1⟩
          go_wp2_with fail
          refine (cutEq_any r _ (by omega) (hm.grow b1) HC).mono ?_
          rintro e w2 ⟨rfl, b2⟩
          have B2 := below_of_below b1 b2 b1.size
          go_wp2_with fail
          refine (trim_any a _ (by omega) ht).mono ?_
          rintro e w3 ⟨rfl, b3⟩
          have B3 := below_of_below B2 b3 B2.size
          go_wp2_with fail
          refine (same_any t Lx.escW (by decide) _ hsb).mono ?_
          rintro e w4 ⟨rfl, rfl⟩
          go_wp2_with fail
          go_ret3
          exact ⟨by rw [HR.out]; rfl, B3⟩
        | true =>
          have HR : Hid (R = some (l.length - v.length)) := by show _ = _; rw [← H.out, hdir, if_pos hsb.out]
          have HV : Hid (Lx.dirV l (l.length - v.length) = tv) := by show _ = _; rw [Lx.dirV, hval]; exact htv.out
          have hsub : ((l.length - v.length : Nat) : Int) = ((bs l).size : Int) - ((bs v).size : Int) := by rw [hz1, hz2]; omega
          have hge : ((bs v).size : Int) ≤ ((bs l).size : Int) := by rw [hz1, hz2]; omega
          have hge2 : ((bs l).size : Int) ≤ 2000000 := by rw [hz1]; omega
          have HSUB := Lib.hid hsub
          clear h1 h2 h3 H hl z1 hdir hval hal hz1 hz2 hsub
          go_enter Tryz.func88, Tryz.ntmps88
          go_wp2_with fail
          refine (HCL.out).mono ?_
          rintro e w1 ⟨rfl, b1⟩
          go_wp2_with fail
          refine (cutEq_any r _ (by omega) (hm.grow b1) HC).mono ?_
          rintro e w2 ⟨rfl, b2⟩
          have B2 := below_of_below b1 b2 b1.size
          go_wp2_with fail
          refine (trim_any a _ (by omega) ht).mono ?_
          rintro e w3 ⟨rfl, b3⟩
          have B3 := below_of_below B2 b3 B2.size
          go_wp2_with fail
          refine (same_any t Lx.escW (by decide) _ hsb).mono ?_
          rintro e w4 ⟨rfl, rfl⟩
          go_wp2_with fail
          refine (trim_any v _ (by omega) htv).mono ?_
          rintro e w5 ⟨rfl, b5⟩
          have B5 := below_of_below B3 b5 B3.size
          go_wp2_with fail
          go_ret3
          refine ⟨?_, B5⟩
          rw [HR.out]
          show _ = Ending.returned (.tuple #[.string (bs (Lx.dirV l (l.length - v.length))), .int .i64 ((l.length - v.length : Nat) : Int), .bool true])
          rw [HV.out, HSUB.out]
          rfl
    · have t1 : ((c.toNat : Int) != 35) = true := by have := u8_no (d := 35) hc; rw [bne, show (35 : Int) = ((35 : UInt8).toNat : Int) from rfl, this]; rfl
      have HR : Hid (R = none) := by show _ = _; rw [← H.out, Lx.dir_no hl hc]
      clear H hl z1 hc
      go_enter Tryz.func88, Tryz.ntmps88
      go_wp2_with fail
      refine (HCL.out).mono ?_
      rintro e w1 ⟨rfl, b1⟩
      go_wp2_with fail
      go_ret3
      exact ⟨by rw [HR.out]; rfl, b1⟩
theorem ix_blank (c : UInt8) : (Lib.indexByte Gl.bls c = -1 ∧ Lx.blank c = false) ∨ (0 ≤ Lib.indexByte Gl.bls c ∧ Lx.blank c = true) := by
  by_cases h1 : c = 32
  · subst h1; exact .inr ⟨by decide, by decide⟩
  · by_cases h2 : c = 9
    · subst h2; exact .inr ⟨by decide, by decide⟩
    · by_cases h3 : c = 13
      · subst h3; exact .inr ⟨by decide, by decide⟩
      · refine .inl ⟨?_, by simp [Lx.blank, h1, h2, h3]⟩
        have e1 : ¬ (32 : UInt8) = c := fun e => h1 e.symm
        have e2 : ¬ (9 : UInt8) = c := fun e => h2 e.symm
        have e3 : ¬ (13 : UInt8) = c := fun e => h3 e.symm
        simp [Lib.indexByte, e1, e2, e3]
set_option maxRecDepth 100000 in
set_option maxHeartbeats 4000000 in
theorem copies_any (l : List UInt8) (hs : l.length ≤ 2000000) (w : World) {b : Bool} (H : Hid (Lx.copL l = b)) : Calls Tryz.prog 102 #[.string (bs l)] w fun e w' => e = .returned (.bool b) ∧ Below w.heap.size w w' := by
  obtain ⟨t, ht⟩ : ∃ t, Hid (Gl.lft l = t) := ⟨_, Lib.hid rfl⟩
  have hlen := Lx.lft_le l
  have hb := H.out
  unfold Lx.copL at hb
  rw [ht.out] at hb hlen
  have hz := bs_size t
  by_cases h4 : 4 < t.length
  · have g0 : decide ((4 : Int) < ((bs t).size : Int)) = true := by rw [hz, decide_eq_true_eq]; omega
    have g1 : 4 < (bs t).size := by omega
    rw [decide_eq_true h4, Bool.true_and, show t.getD 4 0 = (bs t)[4]'g1 by rw [List.getD, bs_at t 4 g1]; rfl] at hb
    obtain ⟨c, hc⟩ : ∃ c, (bs t)[4]'g1 = c := ⟨_, rfl⟩
    rw [hc] at hb
    have hby : c.toNat < 256 := UInt8.toNat_lt _
    obtain ⟨sb, hsb⟩ : ∃ b, Hid (Lx.sameL (t.take 4) Lx.copyW = b) := ⟨_, Lib.hid rfl⟩
    rw [hsb.out] at hb
    have hsl := slice_to t 4 4 rfl (by omega)
    have g2 : (bs t).size ≤ 2000000 := by omega
    cases sb with
    | false =>
      have HB : Hid (b = false) := by show _ = _; rw [← hb]; rfl
      clear hb H hz hc h4 hlen
      go_enter Tryz.func102, Tryz.ntmps102
      go_wp2_with fail
      refine (trimLeft_any l _ ht).mono ?_
      rintro e w1 ⟨rfl, b1⟩
      go_wp2_with fail
      refine (same_any _ Lx.copyW (by decide) _ hsb).mono ?_
      rintro e w2 ⟨rfl, rfl⟩
      go_wp2_with fail
      go_ret
      exact ⟨by rw [HB.out]; rfl, b1⟩
    | true =>
      have HB : Hid (b = Lx.blank c) := by show _ = _; rw [← hb]; rfl
      obtain ⟨x, hx⟩ : ∃ x, Hid (Lib.indexByte Gl.bls c = x) := ⟨_, Lib.hid rfl⟩
      rcases ix_blank c with ⟨k1, k2⟩ | ⟨k1, k2⟩
      · have hxe : Lib.indexByte Gl.bls c = -1 := k1
        have HX := Lib.hid hxe
        have HB2 : Hid (b = false) := by show _ = _; rw [HB.out, k2]
        clear hb H hz h4 hlen k1 k2 hxe
        go_enter Tryz.func102, Tryz.ntmps102
        go_wp2_with fail
        refine (trimLeft_any l _ ht).mono ?_
        rintro e w1 ⟨rfl, b1⟩
        go_wp2_with fail
        refine (same_any _ Lx.copyW (by decide) _ hsb).mono ?_
        rintro e w2 ⟨rfl, rfl⟩
        go_wp2_with fail
        refine (indexByte_any Gl.bls _ _ HX).mono ?_
        rintro e w2 ⟨rfl, rfl⟩
        go_wp2_with fail
        go_ret
        exact ⟨by rw [HB2.out]; rfl, b1⟩
      · rw [hx.out] at k1
        have g5 : decide ((0 : Int) ≤ x) = true := by rw [decide_eq_true_eq]; exact k1
        have HB2 : Hid (b = true) := by show _ = _; rw [HB.out, k2]
        clear hb H hz h4 hlen k1 k2
        go_enter Tryz.func102, Tryz.ntmps102
        go_wp2_with fail
        refine (trimLeft_any l _ ht).mono ?_
        rintro e w1 ⟨rfl, b1⟩
        go_wp2_with fail
        refine (same_any _ Lx.copyW (by decide) _ hsb).mono ?_
        rintro e w2 ⟨rfl, rfl⟩
        go_wp2_with fail
        refine (indexByte_any Gl.bls _ _ hx).mono ?_
        rintro e w2 ⟨rfl, rfl⟩
        go_wp2_with fail
        go_ret
        exact ⟨by rw [HB2.out]; rfl, b1⟩
  · have g0 : decide ((4 : Int) < ((bs t).size : Int)) = false := by rw [hz, decide_eq_false_iff_not]; omega
    have HB : Hid (b = false) := by show _ = _; rw [← hb, decide_eq_false h4]; rfl
    clear hb H hz h4 hlen
    go_enter Tryz.func102, Tryz.ntmps102
    go_wp2_with fail
    refine (trimLeft_any l _ ht).mono ?_
    rintro e w1 ⟨rfl, b1⟩
    go_wp2_with fail
    go_ret
    exact ⟨by rw [HB.out]; rfl, b1⟩
end Go.Proofs.YtpgnfianffjpnaaGreatDoor
