/- stratalaw02.GlobOut, walked: true. -/
import Derived.Test.YtdjfakampjbgeaaGreatDoorGoG
namespace Go.Proofs.YtdjfakampjbgeaaGreatDoor
open Go Go.RowKit

/-- the document's rules as values. -/
def RefV (RES : (Nat × Nat) ⊕ List Gl.Rl) (w w' : World) (vr : Value) (N K : Int) : Prop := match RES with
  | .inl (n, k) => N = (n : Int) ∧ K = (k : Int)
  | .inr rs => N = 0 ∧ K = 0 ∧ ∃ A c, vr = .slice A rs.length c ∧ RC w' (fun g => w.heap.size ≤ g ∧ g < w'.heap.size) (.slice A rs.length c) rs.length (rlC rs)
theorem refParse_v (s : ByteArray) (hs : s.size ≤ 2000000) (w : World) {RES : (Nat × Nat) ⊕ List Gl.Rl} (H : Hid (Gl.parseL (bl s) = RES)) : Calls Tryz.prog 5 #[.string s] w fun e w' => (∃ vr N K, e = .returned (.tuple #[vr, .int .i64 N, .int .i64 K]) ∧ RefV RES w w' vr N K) ∧ Below w.heap.size w w' := by
  refine (refParse_any s hs w H).mono ?_
  rintro e w' ⟨hA, hb⟩
  refine ⟨?_, hb⟩
  cases RES with
  | inl nk => exact ⟨_, _, _, hA, rfl, rfl⟩
  | inr rs =>
    obtain ⟨A, c, e1, e2⟩ := hA
    exact ⟨_, _, _, e1, rfl, rfl, A, c, rfl, e2⟩
/-- the program's list as values. -/
def ParV (RES : (Nat × Nat) ⊕ List Gl.Rl) (w w' : World) (vl ve : Value) : Prop := match RES with
  | .inl (n, k) => vl = .pointer none ∧ ve = eFault (n : Int) (k : Int) 0
  | .inr rs => ∃ B, vl = .pointer (some ⟨B, 0, none⟩) ∧ ve = .nilIface ∧ ListAt w' (fun g => w.heap.size ≤ g ∧ g < w'.heap.size) B rs
theorem parse_v (s : ByteArray) (hs : s.size ≤ 2000000) (w : World) (hmx : Maxl w) {RES : (Nat × Nat) ⊕ List Gl.Rl} (H : Hid (Gl.parseL (bl s) = RES)) : Calls Tryz.prog 6 #[.string s] w fun e w' => (∃ vl ve, e = .returned (.tuple #[vl, ve]) ∧ ParV RES w w' vl ve) ∧ Below w.heap.size w w' := by
  refine (parse_any s hs w hmx H).mono ?_
  rintro e w' ⟨hA, hb⟩
  refine ⟨?_, hb⟩
  cases RES with
  | inl nk => exact ⟨_, _, hA, rfl, rfl⟩
  | inr rs =>
    obtain ⟨B, e1, e2⟩ := hA
    exact ⟨_, _, e1, B, rfl, rfl, e2⟩
/-- two lists of one text: the program's and the document's; or none, with the number of what is wrong. -/
inductive Two (RES : (Nat × Nat) ⊕ List Gl.Rl) (w : World) (S : Nat → Prop) (N K : Int) (vr vl ve : Value) : Prop
  | bad (h1 : 1 ≤ N) (h2 : N ≤ 32) (hl : vl = .pointer none) (he : ve = eFault N K 0)
  | ok (B : Nat) (A : Option Addr) (c : Nat) (rs : List Gl.Rl) (hn : N = 0) (hr : vr = .slice A rs.length c) (hl : vl = .pointer (some ⟨B, 0, none⟩)) (he : ve = .nilIface) (hL : ListAt w S B rs) (hC : RC w S (.slice A rs.length c) rs.length (rlC rs)) (hz : rs.length ≤ 256) (ho : ∀ r ∈ rs, Gl.RlOk 2000000 r)
theorem Two.mk {RES : (Nat × Nat) ⊕ List Gl.Rl} {s : ByteArray} (hs : s.size ≤ 2000000) (H : Hid (Gl.parseL (bl s) = RES)) {w w1 w2 : World} {vr vl ve : Value} {N K : Int} (h1 : RefV RES w w1 vr N K) (h2 : ParV RES w1 w2 vl ve) (hb : Below w1.heap.size w1 w2) : Two RES w2 (fun _ => True) N K vr vl ve := by
  have hlen : ∀ x ∈ Gl.cutL 10 (bl s), x.length ≤ 2000000 := fun x hx => by
    have := Gl.cutL_piece 10 _ _ hx
    rw [bl_length] at this
    omega
  have hp := H.out
  cases RES with
  | inl nk =>
    obtain ⟨n, k⟩ := nk
    have he := (Gl.parseA_err hp).1
    obtain ⟨rfl, rfl⟩ := h1
    obtain ⟨rfl, rfl⟩ := h2
    exact .bad (by omega) (by omega) rfl rfl
  | inr rs =>
    obtain ⟨hz, ho⟩ := Gl.parseA_ok hp hlen (by simp) (fun r hr => by simp at hr)
    obtain ⟨rfl, rfl, A, c, rfl, hC⟩ := h1
    obtain ⟨B, rfl, rfl, hL⟩ := h2
    exact .ok B A c rs rfl rfl rfl rfl (hL.keep fun g hs _ => ⟨rfl, trivial⟩) ((hC.below hb).keep fun g hs _ => ⟨rfl, trivial⟩) hz ho
theorem Two.below {RES : (Nat × Nat) ⊕ List Gl.Rl} {w w' : World} {S : Nat → Prop} {vr vl ve : Value} {N K : Int} (h : Two RES w S N K vr vl ve) (hb : Below w.heap.size w w') : Two RES w' S N K vr vl ve := by
  cases h with
  | bad h1 h2 hl he => exact .bad h1 h2 hl he
  | ok B A c rs hn hr hl he hL hC hz ho => exact .ok B A c rs hn hr hl he (hL.below hb) (hC.below hb) hz ho
/-- texts that came in. -/
def ArgT (w : World) (Ap : Option Addr) (ps : List (List UInt8)) : Prop := ∀ j (hj : j < ps.length), ∃ a : Addr, Ap = some a ∧ w.cell? (a.add j) = some (.string (bs ps[j]))
theorem ArgT.below {w w' : World} {Ap : Option Addr} {ps : List (List UInt8)} (h : ArgT w Ap ps) (hb : Below w.heap.size w w') : ArgT w' Ap ps := fun j hj => by
  obtain ⟨a, e, hc⟩ := h j hj
  exact ⟨a, e, (hb.cell (p := a.add j) (World.block_lt_of_cell? w _ hc)).trans hc⟩
set_option maxRecDepth 100000 in
set_option maxHeartbeats 8000000 in
theorem lawOut (s o : ByteArray) (Ap : Option Addr) (cp : Nat) (ps : List (List UInt8)) (w : World) (hs : s.size ≤ 1048576) (ho : o.size ≤ 1048576) (hR : ArgT w Ap ps) (hpx : ∀ x ∈ ps, x.length ≤ 2000000) (hg : ErrVar w) (hm : Maxl w) :
    Calls Tryz.prog 38 #[.string s, .string o, .slice Ap ps.length cp] w fun e w' => e = .returned (.bool true) ∧ Below w.heap.size w w' := by
  have HG := Lib.hid hg
  have HR := Lib.hid hR
  have HX := Lib.hid hpx
  have HMX := Lib.hid hm
  clear hg hR hpx hm
  obtain ⟨R1, H1⟩ : ∃ r, Hid (Gl.parseL (bl s) = r) := ⟨_, Lib.hid rfl⟩
  obtain ⟨R2, H2⟩ : ∃ r, Hid (Gl.parseL (bl o) = r) := ⟨_, Lib.hid rfl⟩
  have ff : (false != false) = false := rfl
  have tt : (true != true) = false := rfl
  go_enter Tryz.func38, Tryz.ntmps38
  go_wp2_with fail
  refine (refParse_v s (by omega) _ H1).mono ?_
  rintro e w1 ⟨⟨vr, N, K, rfl, hV1⟩, b1⟩
  have hm1 := HMX.out.below b1 HMX.out.lt
  go_wp2_with fail
  refine (parse_v s (by omega) _ hm1 H1).mono ?_
  rintro e w2 ⟨⟨vl, ve, rfl, hP1⟩, b2⟩
  have T1 := Lib.hid (Two.mk (by omega) H1 hV1 hP1 b2)
  have B2 := below_of_below b1 b2 b1.size
  have G2 := HG.out.below B2 HG.out.lt
  clear hV1 hP1 b1 b2 hm1
  go_upto_region 3 with fail
  go_cut [41] (fun s41 wx => s41 = .bool false ∧ Below w2.heap.size w2 wx)
  case first =>
    rcases T1.out with ⟨h1, h2, rfl, rfl⟩ | ⟨B, A, c, rs, rfl, rfl, rfl, rfl, _, _, _, _⟩
    · have t0 : (N == 0) = false := by simp; omega
      have t1 : (N != 0) = true := by simp; omega
      go_wp2_with fail
      refine (at_fault N K 0 h1 h2 _ G2).mono ?_
      rintro e w3 ⟨rfl, b3⟩
      go_wp2_with fail
      go_meet
      exact ⟨rfl, b3⟩
    · go_wp2_with fail
      refine (at_nil K 0 _).mono ?_
      rintro e w3 ⟨rfl, rfl⟩
      go_wp2_with fail
      go_meet
      exact ⟨rfl, Below.refl _ _⟩
  case rest =>
    obtain ⟨rfl, b3⟩ := hcut
    have B3 := below_of_below B2 b3 B2.size
    have T3 := Lib.hid (T1.out.below b3)
    clear T1 b3 B2 G2
    obtain ⟨w3, hw3⟩ : ∃ w3, wc = w3 := ⟨_, rfl⟩
    subst hw3
    go_wp2_with fail
    refine (refParse_v o (by omega) _ H2).mono ?_
    rintro e w4 ⟨⟨vr2, N2, K2, rfl, hV2⟩, b4⟩
    have B4 := below_of_below B3 b4 B3.size
    have hm4 := HMX.out.below B4 HMX.out.lt
    go_wp2_with fail
    refine (parse_v o (by omega) _ hm4 H2).mono ?_
    rintro e w5 ⟨⟨vl2, ve2, rfl, hP2⟩, b5⟩
    have U5 := Lib.hid (Two.mk (by omega) H2 hV2 hP2 b5)
    have T5 := Lib.hid ((T3.out.below b4).below b5)
    have B5 := below_of_below B4 b5 B4.size
    clear hV2 hP2 b4 b5 hm4 B3 B4 T3
    go_upto_region 7 with fail
    go_cut [63] (fun s63 wx => s63 = .bool false ∧ Below w5.heap.size w5 wx)
    case first =>
      rcases U5.out with ⟨h1, h2, rfl, rfl⟩ | ⟨B, A, c, rs, rfl, rfl, rfl, rfl, _, _, _, _⟩
      · have t1 : (N2 != 0) = true := by simp; omega
        have t2 : (N2 != N2) = false := by simp
        go_wp2_with fail
        refine (num_fault N2 K2 0 h1 h2 _).mono ?_
        rintro e w6 ⟨rfl, b6⟩
        go_wp2_with fail
        go_meet
        exact ⟨rfl, b6⟩
      · go_wp2_with fail
        refine (num_nil _).mono ?_
        rintro e w6 ⟨rfl, rfl⟩
        go_wp2_with fail
        go_meet
        exact ⟨rfl, Below.refl _ _⟩
    case rest =>
      obtain ⟨rfl, b6⟩ := hcut
      obtain ⟨w6, hw6⟩ : ∃ w6, wc = w6 := ⟨_, rfl⟩
      rw [hw6] at b6
      rw [hw6]
      have B6 := below_of_below B5 b6 B5.size
      have T6 := Lib.hid (T5.out.below b6)
      have U6 := Lib.hid (U5.out.below b6)
      have HR6 := Lib.hid (HR.out.below B6)
      have hm6 := HMX.out.below B6 HMX.out.lt
      have HM6 := Lib.hid hm6
      have HB6 := Lib.hid B6
      clear b6 B5 B6 T5 U5 hm6 hw6
      go_wp2_with fail
      go_loopw [17, 18] (fun t17 _ wr => ∃ i : Nat, i ≤ 200 ∧ t17 = .int .i64 (i : Int) ∧ Below w6.heap.size w6 wr) (fun t17 _ _ => 200 - (intOf t17).toNat)
      case atStart => exact ⟨0, by omega, rfl, Below.refl _ _⟩
      case round =>
        obtain ⟨i, hi, rfl, hB⟩ := hrel
        have j0 : (0 : Int) ≤ (i : Int) := by omega
        have B7 := below_of_below HB6.out hB HB6.out.size
        by_cases hin : i < ps.length ∧ i < 200
        · have i0 : decide ((i : Int) < (ps.length : Int)) = true := by rw [decide_eq_true_eq]; omega
          have i1 : (i : Int) < (ps.length : Int) := by omega
          have i2 : decide ((i : Int) < 200) = true := by rw [decide_eq_true_eq]; omega
          have hQ := HR6.out.below hB
          obtain ⟨a, hA, d0⟩ := hQ i hin.1
          subst hA
          clear hQ
          have hlx := HX.out _ (List.getElem_mem hin.1)
          obtain ⟨x, hxe⟩ : ∃ x, ps[i] = x := ⟨_, rfl⟩
          rw [hxe] at d0 hlx
          have hxz : (bs x).size ≤ 2000000 := by rw [bs_size]; exact hlx
          have i200 : i < 200 := hin.2
          have T7 := Lib.hid (T6.out.below hB)
          have U7 := Lib.hid (U6.out.below hB)
          have hm7 := HM6.out.below hB HM6.out.lt
          have HB := Lib.hid hB
          have HB7 := Lib.hid B7
          clear hxe hin hB B7
          go_upto_region 13 with fail
          clear d0
          go_cut [88] (fun s88 wx => s88 = .bool false ∧ Below wr.heap.size wr wx)
          case first =>
            rcases T7.out with ⟨h1, h2, rfl, rfl⟩ | ⟨B, A, c, rs, rfl, rfl, rfl, rfl, hL, hC, hz, hok⟩
            · have t0 : (N == 0) = false := by simp; omega
              go_wp2_with fail
              go_meet
              exact ⟨rfl, Below.refl _ _⟩
            · obtain ⟨b, hb⟩ : ∃ b, Hid (Gl.outL rs (Gl.namesL (bl (bs x))) = b) := ⟨_, Lib.hid rfl⟩
              have tb : (b != b) = false := by simp
              go_wp2_with fail
              refine (out_any rs B (bs x) _ hL hz hok hxz hm7 hb).mono ?_
              rintro e w8 ⟨rfl, b8⟩
              have hC8 := hC.below b8
              go_wp2_with fail
              refine (refOut_any rs A c (bs x) _ hC8 hz hok (Nat.le_refl _) hxz hb).mono ?_
              rintro e w9 ⟨rfl, b9⟩
              go_wp2_with fail
              go_meet
              exact ⟨rfl, below_of_below b8 b9 b8.size⟩
          case rest =>
            obtain ⟨rfl, b8⟩ := hcut
            obtain ⟨w8, hw8⟩ : ∃ w8, wc = w8 := ⟨_, rfl⟩
            rw [hw8] at b8
            rw [hw8]
            have hB8 := below_of_below HB.out b8 HB.out.size
            have T8 := Lib.hid (T7.out.below b8)
            have U8 := Lib.hid (U7.out.below b8)
            have hm8 := HM6.out.below hB8 HM6.out.lt
            have HB8 := Lib.hid hB8
            clear b8 hB8 T7 U7 hm7 hw8 HB HB7
            go_upto_region 15 with fail
            go_cut [99] (fun s99 wx => s99 = .bool false ∧ Below w8.heap.size w8 wx)
            case first =>
              rcases U8.out with ⟨h1, h2, rfl, rfl⟩ | ⟨B, A, c, rs, rfl, rfl, rfl, rfl, hL, hC, hz, hok⟩
              · have t0 : (N2 == 0) = false := by simp; omega
                go_wp2_with fail
                go_meet
                exact ⟨rfl, Below.refl _ _⟩
              · obtain ⟨b, hb⟩ : ∃ b, Hid (Gl.outL rs (Gl.namesL (bl (bs x))) = b) := ⟨_, Lib.hid rfl⟩
                have tb : (b != b) = false := by simp
                go_wp2_with fail
                refine (out_any rs B (bs x) _ hL hz hok hxz hm8 hb).mono ?_
                rintro e w9 ⟨rfl, b9⟩
                have hC9 := hC.below b9
                go_wp2_with fail
                refine (refOut_any rs A c (bs x) _ hC9 hz hok (Nat.le_refl _) hxz hb).mono ?_
                rintro e wa ⟨rfl, ba⟩
                go_wp2_with fail
                go_meet
                exact ⟨rfl, below_of_below b9 ba b9.size⟩
            case rest =>
              obtain ⟨rfl, b9⟩ := hcut
              obtain ⟨w9, hw9⟩ : ∃ w9, wc = w9 := ⟨_, rfl⟩
              rw [hw9] at b9
              rw [hw9]
              have hB9 := below_of_below HB8.out b9 HB8.out.size
              have T9 := Lib.hid (T8.out.below b9)
              have hm9 := HM6.out.below hB9 HM6.out.lt
              have HB9 := Lib.hid hB9
              clear b9 hB9 T8 U8 hm8 hw9 HB8
              go_upto_region 17 with fail
              go_cut [110] (fun s110 wx => s110 = .bool false ∧ Below w9.heap.size w9 wx)
              case first =>
                rcases T9.out with ⟨h1, h2, rfl, rfl⟩ | ⟨B, A, c, rs, rfl, rfl, rfl, rfl, hL, hC, hz, hok⟩
                · have t0 : (N == 0) = false := by simp; omega
                  go_wp2_with fail
                  go_meet
                  exact ⟨rfl, Below.refl _ _⟩
                · obtain ⟨b, hb⟩ : ∃ b, Hid (Gl.outL rs (Gl.namesL (bl (bs x))) = b) := ⟨_, Lib.hid rfl⟩
                  have tb : (b != b) = false := by simp
                  go_wp2_with fail
                  refine (out_any rs B (bs x) _ hL hz hok hxz hm9 hb).mono ?_
                  rintro e wa ⟨rfl, ba⟩
                  have hCa := hC.below ba
                  go_wp2_with fail
                  refine (refOut_any rs A c (bs x) _ hCa hz hok (Nat.le_refl _) hxz hb).mono ?_
                  rintro e wb ⟨rfl, bb⟩
                  go_wp2_with fail
                  go_meet
                  exact ⟨rfl, below_of_below ba bb ba.size⟩
              case rest =>
                obtain ⟨rfl, ba⟩ := hcut
                have hBa := below_of_below HB9.out ba HB9.out.size
                clear ba T9 hm9
                go_wp2_with fail
                go_roundw
                case rel => exact ⟨i + 1, by omega, by go_num, hBa⟩
                case measure => simp [intOf]; omega
        · have G7 := HG.out.below B7 HG.out.lt
          have hm7 := HMX.out.below B7 HMX.out.lt
          rcases Nat.lt_or_ge i ps.length with hl | hl
          · have i0 : decide ((i : Int) < (ps.length : Int)) = true := by rw [decide_eq_true_eq]; omega
            have i2 : decide ((i : Int) < 200) = false := by rw [decide_eq_false_iff_not]; omega
            clear hin
            go_wp2_with fail
            refine (works_any _ G7 hm7).mono ?_
            rintro e w8 ⟨rfl, b8⟩
            go_wp2_with fail
            go_ret
            exact ⟨rfl, below_of_below B7 b8 B7.size⟩
          · have i0 : decide ((i : Int) < (ps.length : Int)) = false := by rw [decide_eq_false_iff_not]; omega
            clear hin
            go_wp2_with fail
            refine (works_any _ G7 hm7).mono ?_
            rintro e w8 ⟨rfl, b8⟩
            go_wp2_with fail
            go_ret
            exact ⟨rfl, below_of_below B7 b8 B7.size⟩
end Go.Proofs.YtdjfakampjbgeaaGreatDoor
