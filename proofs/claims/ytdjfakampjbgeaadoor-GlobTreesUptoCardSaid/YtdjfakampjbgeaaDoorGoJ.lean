/- stratalaw02.GlobLast, walked: true. -/
import Derived.Test.YtdjfakampjbgeaaDoorMH
namespace Go.Proofs.YtdjfakampjbgeaaDoor
open Go Go.RowKit

/-- the program's list as values. -/
def LstV (RES : (Nat × Nat) ⊕ List Gl.Rl) (w' : World) (vl ve : Value) : Prop := match RES with
  | .inl (n, k) => vl = .pointer none ∧ ve = eFault (n : Int) (k : Int) 0
  | .inr rs => ∃ B, vl = .pointer (some ⟨B, 0, none⟩) ∧ ve = .nilIface ∧ ListAt w' (fun _ => True) B rs
theorem LstV.below {RES : (Nat × Nat) ⊕ List Gl.Rl} {w w' : World} {vl ve : Value} (h : LstV RES w vl ve) (hb : Below w.heap.size w w') : LstV RES w' vl ve := by
  cases RES with
  | inl nk => exact h
  | inr rs =>
    obtain ⟨B, e1, e2, e3⟩ := h
    exact ⟨B, e1, e2, e3.below hb⟩
theorem parse_l (s : ByteArray) (hs : s.size ≤ 2000000) (w : World) (hmx : Maxl w) {RES : (Nat × Nat) ⊕ List Gl.Rl} (H : Hid (Gl.parseL (bl s) = RES)) : Calls Tryd.prog 21 #[.string s] w fun e w' => (∃ vl ve, e = .returned (.tuple #[vl, ve]) ∧ LstV RES w' vl ve) ∧ Below w.heap.size w w' := by
  refine (parse_any s hs w hmx H).mono ?_
  rintro e w' ⟨hA, hb⟩
  refine ⟨?_, hb⟩
  cases RES with
  | inl nk => exact ⟨_, _, hA, rfl, rfl⟩
  | inr rs =>
    obtain ⟨B, e1, e2⟩ := hA
    exact ⟨_, _, e1, B, rfl, rfl, e2.keep fun g hs _ => ⟨rfl, trivial⟩⟩
/-- what is known of a list that was read. -/
def RsOk (rs : List Gl.Rl) : Prop := rs.length ≤ 256 ∧ ∀ r ∈ rs, Gl.RlOk 2000000 r
theorem RsOk.of {l : List UInt8} {rs : List Gl.Rl} (hl : l.length ≤ 2000000) (h : Gl.parseL l = .inr rs) : RsOk rs :=
  Gl.parseA_ok h (fun x hx => by have := Gl.cutL_piece 10 _ _ hx; omega) (by simp) (fun r hr => by simp at hr)
theorem out_at (rs : List Gl.Rl) (hok : Hid (RsOk rs)) (B : Nat) (x : List UInt8) (hx : x.length ≤ 2000000) (w : World) (hL : ListAt w (fun _ => True) B rs) (hm : Maxl w) {b : Bool} (H : Hid (Gl.outL rs (Gl.namesL x) = b)) :
    Calls Tryd.prog 24 #[.pointer (some ⟨B, 0, none⟩), .string (bs x)] w fun e w' => e = .returned (.bool b) ∧ Below w.heap.size w w' :=
  out_any rs B (bs x) w hL hok.out.1 hok.out.2 (by rw [bs_size]; exact hx) hm (Lib.hid (by rw [bl_bs]; exact H.out))
theorem head_20000 (s : ByteArray) (w : World) : Calls Tryd.prog 9 #[.string s, .int .i64 20000] w fun e w' => e = .returned (.string (bs ((bl s).take 20000))) ∧ w = w' := head_any s 20000 (by decide) (by decide) w
theorem head1000 (s : ByteArray) (w : World) : Calls Tryd.prog 9 #[.string s, .int .i64 1000] w fun e w' => e = .returned (.string (bs ((bl s).take 1000))) ∧ w = w' := head_any s 1000 (by decide) (by decide) w
/-- the law, plain. -/
theorem last_plain {T P : List UInt8} (hP : ∀ c ∈ P, c ≠ 10) {rs ra rb ro : List Gl.Rl} (h0 : Gl.parseL T = .inr rs) (h1 : Gl.parseL (T ++ 10 :: P) = .inr ra) (h2 : Gl.parseL (T ++ 10 :: 33 :: P) = .inr rb) (h3 : Gl.parseL P = .inr ro) :
    (Gl.ruleOf P = none → ra = rs) ∧ (∀ q, Gl.ruleOf P = some (true, q) → ∃ ps, Gl.readL q = some ps ∧ ra = rs ++ [⟨true, q, ps⟩]) ∧
    (∀ q, Gl.ruleOf P = some (false, q) → q = Gl.trimL P → ∃ ps, ra = rs ++ [⟨false, q, ps⟩] ∧ rb = rs ++ [⟨true, q, ps⟩] ∧ ro = [⟨false, q, ps⟩]) := by
  unfold Gl.parseL at h0 h1 h2 h3
  have hP2 : ∀ c ∈ (33 :: P : List UInt8), c ≠ 10 := fun c hc => by
    rcases List.mem_cons.1 hc with rfl | hc
    · decide
    · exact hP c hc
  rw [Gl.cutL_app, Gl.cutL_no 10 P hP, Gl.parseA_app _ _ _ _ _ h0] at h1
  rw [Gl.cutL_app, Gl.cutL_no 10 _ hP2, Gl.parseA_app _ _ _ _ _ h0] at h2
  rw [Gl.cutL_no 10 P hP] at h3
  refine ⟨fun hr => Gl.one_none hr h1, fun q hr => ?_, fun q hr hq => ?_⟩
  · obtain ⟨ps, a, b⟩ := Gl.one_some hr h1
    exact ⟨ps, a, b⟩
  · obtain ⟨ps, a, b⟩ := Gl.one_some hr h1
    obtain ⟨ps2, a2, b2⟩ := Gl.one_some (Gl.ruleOf_back P) h2
    obtain ⟨ps3, a3, b3⟩ := Gl.one_some hr h3
    subst hq
    rw [a] at a2 a3
    injection a2 with a2
    injection a3 with a3
    subst a2 a3
    exact ⟨ps, b, b2, by rw [b3, List.nil_append]⟩
set_option maxRecDepth 100000 in
set_option maxHeartbeats 16000000 in
theorem lawLast (s0 s1 s2 : ByteArray) (w : World) (hg : ErrVar w) (hm : Maxl w) : Calls Tryd.prog 7 #[.string s0, .string s1, .string s2] w fun e w' => e = .returned (.bool true) ∧ Below w.heap.size w w' := by
  have HG := Lib.hid hg
  have HM := Lib.hid hm
  clear hg hm
  obtain ⟨T, hT⟩ : ∃ a, (bl s0).take 20000 = a := ⟨_, rfl⟩
  obtain ⟨P0, hP0⟩ : ∃ a, (bl s1).take 1000 = a := ⟨_, rfl⟩
  obtain ⟨x, hxx⟩ : ∃ a, (bl s2).take 1000 = a := ⟨_, rfl⟩
  have lT : T.length ≤ 20000 := by rw [← hT, List.length_take]; omega
  have lP0 : P0.length ≤ 1000 := by rw [← hP0, List.length_take]; omega
  have lx : x.length ≤ 1000 := by rw [← hxx, List.length_take]; omega
  have k0 := head_20000 s0
  have k1 := head1000 s1
  have k2 := head1000 s2
  rw [hT] at k0
  rw [hP0] at k1
  rw [hxx] at k2
  clear hT hP0 hxx
  obtain ⟨P, hP⟩ : ∃ p, Hid (Gl.flatL (bl (bs P0)) = p) := ⟨_, Lib.hid rfl⟩
  have hPf : P = Gl.flatL P0 := by rw [← hP.out, bl_bs]
  have lP : P.length ≤ 1000 := by rw [hPf]; exact Nat.le_trans (Gl.flat_len P0) lP0
  have hPno : Hid (∀ c ∈ P, c ≠ 10) := Lib.hid (by rw [hPf]; exact Gl.flat_no P0)
  have zP0 : (bs P0).size ≤ 2000000 := by rw [bs_size]; omega
  have zT : (bs T).size ≤ 20000 := by rw [bs_size]; exact lT
  have zP : (bs P).size ≤ 1000 := by rw [bs_size]; exact lP
  have z1 : (⟨#[10]⟩ : ByteArray).size = 1 := rfl
  have z2 : (⟨#[10, 33]⟩ : ByteArray).size = 2 := rfl
  clear hPf
  obtain ⟨R0, H0⟩ : ∃ r, Hid (Gl.parseL (bl (bs T)) = r) := ⟨_, Lib.hid rfl⟩
  obtain ⟨R1, H1⟩ : ∃ r, Hid (Gl.parseL (bl (bs T ++ ⟨#[10]⟩ ++ bs P)) = r) := ⟨_, Lib.hid rfl⟩
  obtain ⟨R2, H2⟩ : ∃ r, Hid (Gl.parseL (bl (bs T ++ ⟨#[10, 33]⟩ ++ bs P)) = r) := ⟨_, Lib.hid rfl⟩
  obtain ⟨R3, H3⟩ : ∃ r, Hid (Gl.parseL (bl (bs P)) = r) := ⟨_, Lib.hid rfl⟩
  have zz1 : (bs T ++ ⟨#[10]⟩ ++ bs P).size ≤ 2000000 := by rw [ByteArray.size_append, ByteArray.size_append, z1]; omega
  have zz2 : (bs T ++ ⟨#[10, 33]⟩ ++ bs P).size ≤ 2000000 := by rw [ByteArray.size_append, ByteArray.size_append, z2]; omega
  have p0 : Hid (∀ w, Maxl w → Calls Tryd.prog 21 #[.string (bs T)] w fun e w' => (∃ vl ve, e = .returned (.tuple #[vl, ve]) ∧ LstV R0 w' vl ve) ∧ Below w.heap.size w w') := Lib.hid fun w h => parse_l _ (by omega) w h H0
  have p1 : Hid (∀ w, Maxl w → Calls Tryd.prog 21 #[.string (bs T ++ ⟨#[10]⟩ ++ bs P)] w fun e w' => (∃ vl ve, e = .returned (.tuple #[vl, ve]) ∧ LstV R1 w' vl ve) ∧ Below w.heap.size w w') := Lib.hid fun w h => parse_l _ zz1 w h H1
  have p2 : Hid (∀ w, Maxl w → Calls Tryd.prog 21 #[.string (bs T ++ ⟨#[10, 33]⟩ ++ bs P)] w fun e w' => (∃ vl ve, e = .returned (.tuple #[vl, ve]) ∧ LstV R2 w' vl ve) ∧ Below w.heap.size w w') := Lib.hid fun w h => parse_l _ zz2 w h H2
  have p3 : Hid (∀ w, Maxl w → Calls Tryd.prog 21 #[.string (bs P)] w fun e w' => (∃ vl ve, e = .returned (.tuple #[vl, ve]) ∧ LstV R3 w' vl ve) ∧ Below w.heap.size w w') := Lib.hid fun w h => parse_l _ (by omega) w h H3
  have E1 : Hid (bl (bs T ++ ⟨#[10]⟩ ++ bs P) = T ++ 10 :: P) := Lib.hid (by rw [bl_append, bl_append, bl_bs, bl_bs, List.append_assoc]; rfl)
  have E2 : Hid (bl (bs T ++ ⟨#[10, 33]⟩ ++ bs P) = T ++ 10 :: 33 :: P) := Lib.hid (by rw [bl_append, bl_append, bl_bs, bl_bs, List.append_assoc]; rfl)
  clear zz1 zz2
  go_enter Tryd.func7, Tryd.ntmps7
  go_wp2_with (first | (go_at_call 9; (first | (with_reducible refine (k0 _).mono ?_) | (with_reducible refine (k1 _).mono ?_) | (with_reducible refine (k2 _).mono ?_)); rintro e w1 ⟨rfl, rfl⟩) | (go_at_call 26; refine (without_any _ zP0 _ hP).mono ?_; rintro e w1 ⟨rfl, rfl⟩))
  clear k0 k1 k2
  refine (p0.out _ HM.out).mono ?_
  rintro e w1 ⟨⟨vl0, ve0, rfl, hV0⟩, b1⟩
  have V0 := Lib.hid hV0
  have m1 := HM.out.below b1 HM.out.lt
  clear hV0
  go_wp2_with fail
  refine (p1.out _ m1).mono ?_
  rintro e w2 ⟨⟨vl1, ve1, rfl, hV1⟩, b2⟩
  have V0 := Lib.hid (V0.out.below b2)
  have V1 := Lib.hid hV1
  have B2 := below_of_below b1 b2 b1.size
  have m2 := HM.out.below B2 HM.out.lt
  clear hV1 b1 b2 m1
  go_wp2_with fail
  refine (p2.out _ m2).mono ?_
  rintro e w3 ⟨⟨vl2, ve2, rfl, hV2⟩, b3⟩
  have V0 := Lib.hid (V0.out.below b3)
  have V1 := Lib.hid (V1.out.below b3)
  have V2 := Lib.hid hV2
  have B3 := below_of_below B2 b3 B2.size
  have m3 := HM.out.below B3 HM.out.lt
  clear hV2 b3 m2 B2
  go_wp2_with fail
  refine (p3.out _ m3).mono ?_
  rintro e w4 ⟨⟨vl3, ve3, rfl, hV3⟩, b4⟩
  have V0 := Lib.hid (V0.out.below b4)
  have V1 := Lib.hid (V1.out.below b4)
  have V2 := Lib.hid (V2.out.below b4)
  have V3 := Lib.hid hV3
  have B4 := below_of_below B3 b4 B3.size
  have m4 := HM.out.below B4 HM.out.lt
  have G4 := HG.out.below B4 HG.out.lt
  clear hV3 b4 m3 B3 p0 p1 p2 p3
  go_upto_region 8 with fail
  rcases R0 with ⟨n, k⟩ | rs
  · obtain ⟨rfl, rfl⟩ := V0.out
    go_wp2_with fail
    refine (works_any _ G4 m4).mono ?_
    rintro e w5 ⟨rfl, b5⟩
    go_wp2_with fail
    go_ret
    exact ⟨rfl, below_of_below B4 b5 B4.size⟩
  obtain ⟨L0, rfl, rfl, hL0⟩ := V0.out
  rcases R1 with ⟨n, k⟩ | ra
  · obtain ⟨rfl, rfl⟩ := V1.out
    go_wp2_with fail
    refine (works_any _ G4 m4).mono ?_
    rintro e w5 ⟨rfl, b5⟩
    go_wp2_with fail
    go_ret
    exact ⟨rfl, below_of_below B4 b5 B4.size⟩
  obtain ⟨L1, rfl, rfl, hL1⟩ := V1.out
  rcases R2 with ⟨n, k⟩ | rb
  · obtain ⟨rfl, rfl⟩ := V2.out
    go_wp2_with fail
    refine (works_any _ G4 m4).mono ?_
    rintro e w5 ⟨rfl, b5⟩
    go_wp2_with fail
    go_ret
    exact ⟨rfl, below_of_below B4 b5 B4.size⟩
  obtain ⟨L2, rfl, rfl, hL2⟩ := V2.out
  rcases R3 with ⟨n, k⟩ | ro
  · obtain ⟨rfl, rfl⟩ := V3.out
    go_wp2_with fail
    refine (works_any _ G4 m4).mono ?_
    rintro e w5 ⟨rfl, b5⟩
    go_wp2_with fail
    go_ret
    exact ⟨rfl, below_of_below B4 b5 B4.size⟩
  obtain ⟨L3, rfl, rfl, hL3⟩ := V3.out
  have h0 := H0.out
  have h1 := H1.out
  have h2 := H2.out
  have h3 := H3.out
  rw [bl_bs] at h0 h3
  rw [E1.out] at h1
  rw [E2.out] at h2
  have o0 := Lib.hid (RsOk.of (by omega) h0)
  have o1 := Lib.hid (RsOk.of (by rw [List.length_append, List.length_cons]; omega) h1)
  have o2 := Lib.hid (RsOk.of (by rw [List.length_append, List.length_cons, List.length_cons]; omega) h2)
  have o3 := Lib.hid (RsOk.of (by omega) h3)
  have hlaw := Lib.hid (last_plain hPno.out h0 h1 h2 h3)
  have A0 := Lib.hid hL0
  have A1 := Lib.hid hL1
  have A2 := Lib.hid hL2
  have A3 := Lib.hid hL3
  clear h0 h1 h2 h3 H0 H1 H2 H3 E1 E2 hL0 hL1 hL2 hL3 V0 V1 V2 V3 hP
  have htl := Gl.trimL_len P
  obtain ⟨S, hS⟩ : ∃ S, Hid (bs (Gl.trimL P) = S) := ⟨_, Lib.hid rfl⟩
  obtain ⟨bo, hbo⟩ : ∃ b, Hid (Gl.outL rs (Gl.namesL x) = b) := ⟨_, Lib.hid rfl⟩
  have tb : (bo == bo) = true := by simp
  have lx2 : x.length ≤ 2000000 := by omega
  cases htx : Gl.trimL P with
  | nil =>
    have HR : Hid (Gl.ruleOf P = none) := by show _ = _; rw [Gl.ruleOf, htx]
    have hSe : S = ⟨#[]⟩ := by rw [← hS.out, htx]; rfl
    subst hSe
    obtain rfl := hlaw.out.1 HR.out
    clear htx
    go_wp2_with fail
    refine (trimmed_at P (by omega) _ hS).mono ?_
    rintro e w5 ⟨rfl, rfl⟩
    go_wp2_with fail
    refine (out_at _ o1 L1 x lx2 _ A1.out m4 hbo).mono ?_
    rintro e w6 ⟨rfl, b6⟩
    have m6 := m4.below b6 m4.lt
    go_wp2_with fail
    refine (out_at _ o0 L0 x lx2 _ (A0.out.below b6) m6 hbo).mono ?_
    rintro e w7 ⟨rfl, b7⟩
    have B7 := below_of_below (below_of_below B4 b6 B4.size) b7 (below_of_below B4 b6 B4.size).size
    have m7 := HM.out.below B7 HM.out.lt
    have G7 := HG.out.below B7 HG.out.lt
    go_wp2_with fail
    refine (works_any _ G7 m7).mono ?_
    rintro e w8 ⟨rfl, b8⟩
    go_wp2_with fail
    go_ret
    exact ⟨by first | rfl | (simp; done), below_of_below B7 b8 B7.size⟩
  | cons c r =>
    have HT := Lib.hid htx
    rw [htx, List.length_cons] at htl
    have hz : S.size = r.length + 1 := by rw [← hS.out, htx, bs_size, List.length_cons]
    have hzz0 : 0 < S.size := by omega
    have hS0 : S[0]'hzz0 = c := by
      have h0 := hS.out
      rw [htx] at h0
      subst h0
      rfl
    have hne : S.toList.isEmpty = false := by
      have h0 := hS.out
      rw [htx] at h0
      rw [← h0, toList_bs]
      rfl
    have hne2 : (S.toList == []) = false := by
      have h0 := hS.out
      rw [htx] at h0
      rw [← h0, toList_bs]
      rfl
    have hS1 : Hid (S.extract 1 S.size = bs r) := by
      show _ = _
      have h0 := hS.out
      rw [htx] at h0
      rw [← h0, ext_bs, bl_bs, bs_size]
      simp
    have hby : c.toNat < 256 := UInt8.toNat_lt _
    clear htx
    by_cases h35 : c = 35
    · have t2 : ((c.toNat : Int) == 35) = true := by rw [h35]; rfl
      have HR : Hid (Gl.ruleOf P = none) := by show _ = _; rw [Gl.ruleOf, HT.out]; simp only [if_pos h35]
      obtain rfl := hlaw.out.1 HR.out
      clear HR h35 hz
      go_wp2_with fail
      refine (trimmed_at P (by omega) _ hS).mono ?_
      rintro e w5 ⟨rfl, rfl⟩
      go_wp2_with fail
      refine (out_at _ o1 L1 x lx2 _ A1.out m4 hbo).mono ?_
      rintro e w6 ⟨rfl, b6⟩
      have m6 := m4.below b6 m4.lt
      go_wp2_with fail
      refine (out_at _ o0 L0 x lx2 _ (A0.out.below b6) m6 hbo).mono ?_
      rintro e w7 ⟨rfl, b7⟩
      have B7 := below_of_below (below_of_below B4 b6 B4.size) b7 (below_of_below B4 b6 B4.size).size
      have m7 := HM.out.below B7 HM.out.lt
      have G7 := HG.out.below B7 HG.out.lt
      go_wp2_with fail
      refine (works_any _ G7 m7).mono ?_
      rintro e w8 ⟨rfl, b8⟩
      go_wp2_with fail
      go_ret
      exact ⟨by first | rfl | (simp; done), below_of_below B7 b8 B7.size⟩
    · have t2 : ((c.toNat : Int) == 35) = false := by simp only [beq_eq_false_iff_ne, ne_eq]; exact fun e => h35 (UInt8.toNat_inj.1 (by rw [show (35 : UInt8).toNat = 35 from rfl]; omega))
      by_cases h33 : c = 33
      · have t3 : ((c.toNat : Int) == 33) = true := by rw [h33]; rfl
        have HR : Gl.ruleOf P = some (true, Gl.lft r) := by rw [Gl.ruleOf, HT.out]; simp only [if_neg h35, if_pos h33]
        obtain ⟨ps, hq, rfl⟩ := hlaw.out.2.1 _ HR
        have hsl := slice_f S (bs r) 1 1 rfl (by omega) hS1.out
        have htr : Hid (bs (Gl.trimL r) = bs (Gl.lft r)) := by show _ = _; rw [Gl.trim_tail HT.out]
        have HQ := Lib.hid hq
        have hll := Gl.lft_len r
        obtain ⟨mt, hmt⟩ : ∃ b, Hid (Gl.meetsL ps (Gl.namesL x) = b) := ⟨_, Lib.hid rfl⟩
        have HA : Hid (Gl.outL (rs ++ [⟨true, Gl.lft r, ps⟩]) (Gl.namesL x) = if mt then false else bo) := by
          show _ = _
          rw [Gl.outL_snoc, hmt.out, hbo.out]
          rfl
        clear HR h35 h33 hz hq hlaw
        go_wp2_with fail
        refine (trimmed_at P (by omega) _ hS).mono ?_
        rintro e w5 ⟨rfl, rfl⟩
        go_wp2_with fail
        refine (trimmed_at r (by omega) _ htr).mono ?_
        rintro e w5 ⟨rfl, rfl⟩
        go_wp2_with fail
        refine (meets2_any (Gl.lft r) x (by omega) lx HQ _ m4 hmt).mono ?_
        rintro e w5 ⟨rfl, b5⟩
        have B5 := below_of_below B4 b5 B4.size
        have m5 := m4.below b5 m4.lt
        cases mt with
        | true =>
          go_wp2_with fail
          refine (out_at _ o1 L1 x lx2 _ (A1.out.below b5) m5 HA).mono ?_
          rintro e w6 ⟨rfl, b6⟩
          have B6 := below_of_below B5 b6 B5.size
          have m6 := HM.out.below B6 HM.out.lt
          have G6 := HG.out.below B6 HG.out.lt
          go_wp2_with fail
          refine (works_any _ G6 m6).mono ?_
          rintro e w8 ⟨rfl, b8⟩
          go_wp2_with fail
          go_ret
          exact ⟨by first | rfl | (simp; done), below_of_below B6 b8 B6.size⟩
        | false =>
          go_wp2_with fail
          refine (out_at _ o1 L1 x lx2 _ (A1.out.below b5) m5 HA).mono ?_
          rintro e w6 ⟨rfl, b6⟩
          have B6 := below_of_below B5 b6 B5.size
          have m6 := HM.out.below B6 HM.out.lt
          go_wp2_with fail
          refine (out_at _ o0 L0 x lx2 _ ((A0.out.below b5).below b6) m6 hbo).mono ?_
          rintro e w7 ⟨rfl, b7⟩
          have B7 := below_of_below B6 b7 B6.size
          have m7 := HM.out.below B7 HM.out.lt
          have G7 := HG.out.below B7 HG.out.lt
          go_wp2_with fail
          refine (works_any _ G7 m7).mono ?_
          rintro e w8 ⟨rfl, b8⟩
          go_wp2_with fail
          go_ret
          exact ⟨by first | rfl | (simp; done), below_of_below B7 b8 B7.size⟩
      · have t3 : ((c.toNat : Int) == 33) = false := by simp only [beq_eq_false_iff_ne, ne_eq]; exact fun e => h33 (UInt8.toNat_inj.1 (by rw [show (33 : UInt8).toNat = 33 from rfl]; omega))
        have HR : Gl.ruleOf P = some (false, c :: r) := by rw [Gl.ruleOf, HT.out]; simp only [if_neg h35, if_neg h33]
        obtain ⟨ps, rfl, rfl, rfl⟩ := hlaw.out.2.2 _ HR HT.out.symm
        obtain ⟨mt, hmt⟩ : ∃ b, Hid (Gl.meetsL ps (Gl.namesL x) = b) := ⟨_, Lib.hid rfl⟩
        have HA : Hid (Gl.outL (rs ++ [⟨false, c :: r, ps⟩]) (Gl.namesL x) = if mt then true else bo) := by
          show _ = _
          rw [Gl.outL_snoc, hmt.out, hbo.out]
          rfl
        have HB : Hid (Gl.outL (rs ++ [⟨true, c :: r, ps⟩]) (Gl.namesL x) = if mt then false else bo) := by
          show _ = _
          rw [Gl.outL_snoc, hmt.out, hbo.out]
          rfl
        have HO : Hid (Gl.outL [⟨false, c :: r, ps⟩] (Gl.namesL x) = mt) := by
          show _ = _
          have := Gl.outL_snoc [] ⟨false, c :: r, ps⟩ (Gl.namesL x)
          rw [List.nil_append] at this
          rw [this, hmt.out]
          cases mt <;> rfl
        clear HR h35 h33 hz hlaw
        go_wp2_with fail
        refine (trimmed_at P (by omega) _ hS).mono ?_
        rintro e w5 ⟨rfl, rfl⟩
        go_wp2_with fail
        refine (out_at _ o3 L3 x lx2 _ A3.out m4 HO).mono ?_
        rintro e w5 ⟨rfl, b5⟩
        have B5 := below_of_below B4 b5 B4.size
        have m5 := m4.below b5 m4.lt
        cases mt with
        | true =>
          go_wp2_with fail
          refine (out_at _ o1 L1 x lx2 _ (A1.out.below b5) m5 HA).mono ?_
          rintro e w6 ⟨rfl, b6⟩
          have B6 := below_of_below B5 b6 B5.size
          have m6 := HM.out.below B6 HM.out.lt
          go_wp2_with fail
          refine (out_at _ o2 L2 x lx2 _ ((A2.out.below b5).below b6) m6 HB).mono ?_
          rintro e w7 ⟨rfl, b7⟩
          have B7 := below_of_below B6 b7 B6.size
          have m7 := HM.out.below B7 HM.out.lt
          have G7 := HG.out.below B7 HG.out.lt
          go_wp2_with fail
          refine (works_any _ G7 m7).mono ?_
          rintro e w8 ⟨rfl, b8⟩
          go_wp2_with fail
          go_ret
          exact ⟨by first | rfl | (simp; done), below_of_below B7 b8 B7.size⟩
        | false =>
          go_wp2_with fail
          refine (out_at _ o1 L1 x lx2 _ (A1.out.below b5) m5 HA).mono ?_
          rintro e w6 ⟨rfl, b6⟩
          have B6 := below_of_below B5 b6 B5.size
          have m6 := HM.out.below B6 HM.out.lt
          go_wp2_with fail
          refine (out_at _ o0 L0 x lx2 _ ((A0.out.below b5).below b6) m6 hbo).mono ?_
          rintro e w7 ⟨rfl, b7⟩
          have B7 := below_of_below B6 b7 B6.size
          have m7 := HM.out.below B7 HM.out.lt
          go_wp2_with fail
          refine (out_at _ o2 L2 x lx2 _ (((A2.out.below b5).below b6).below b7) m7 HB).mono ?_
          rintro e w8 ⟨rfl, b8⟩
          have B8 := below_of_below B7 b8 B7.size
          have m8 := HM.out.below B8 HM.out.lt
          go_wp2_with fail
          refine (out_at _ o0 L0 x lx2 _ ((((A0.out.below b5).below b6).below b7).below b8) m8 hbo).mono ?_
          rintro e w9 ⟨rfl, b9⟩
          have B9 := below_of_below B8 b9 B8.size
          have m9 := HM.out.below B9 HM.out.lt
          have G9 := HG.out.below B9 HG.out.lt
          go_wp2_with fail
          refine (works_any _ G9 m9).mono ?_
          rintro e wa ⟨rfl, ba⟩
          go_wp2_with fail
          go_ret
          exact ⟨by first | rfl | (simp; done), below_of_below B9 ba B9.size⟩
end Go.Proofs.YtdjfakampjbgeaaDoor
