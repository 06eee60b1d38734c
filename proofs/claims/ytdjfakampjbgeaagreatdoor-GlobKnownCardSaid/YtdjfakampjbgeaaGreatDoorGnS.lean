/- stratalaw02's shown, walked: true (printed by wip/gengns.py). -/
import Derived.Test.YtdjfakampjbgeaaGreatDoorGrH
import Derived.Test.YtdjfakampjbgeaaGreatDoorGoJ
import Derived.Test.YtdjfakampjbgeaaGreatDoorMI
namespace Go.Proofs.YtdjfakampjbgeaaGreatDoor
open Go Go.RowKit

/-- the rows of the examples. -/
def rowsL : List (List UInt8 × List UInt8 × Int) := [([97, 42, 99], [97, 98, 98, 99], 1), ([97, 42, 99], [97, 99], 1), ([97, 42, 99], [97, 98, 47, 99], 0), ([47, 97, 47, 47, 98, 47], [97, 47, 98], 1), ([97], [47, 97, 47], 1), ([42], [], 0), ([42, 42, 47, 99], [99], 1), ([42, 42, 47, 99], [97, 47, 98, 47, 99], 1), ([97, 47, 42, 42, 47, 99], [97, 47, 99], 1), ([97, 47, 42, 42], [97], 1), ([42, 42], [], 1), ([97, 42, 42, 99], [97, 47, 99], 0), ([63], [97, 98], 0), ([63, 98], [97, 98], 1), ([91, 97, 45, 99, 93, 120], [98, 120], 1), ([91, 33, 97, 45, 99, 93, 120], [98, 120], 0), ([91, 93, 97, 93], [93], 1), ([91, 97, 45, 93], [45], 1), ([91, 92, 93, 97, 93], [93], 1), ([91, 94, 93, 93], [93], 0), ([91, 45, 45, 48, 93], [46], 1), ([97, 93], [97, 93], 1), ([92, 42], [42], 1), ([92, 42], [97], 0), ([91, 97, 98], [97], 2), ([91, 98, 45, 97, 93], [97], 2), ([97, 92], [97], 2), ([47, 47], [], 2), ([91, 97, 47, 98, 93], [97], 2)]
def rowOk (r : List UInt8 × List UInt8 × Int) : Bool := decide (Gl.matchL r.1 r.2.1 = if r.2.2 = 2 then none else some (r.2.2 == 1)) && decide (r.1.length ≤ 100) && decide (r.2.1.length ≤ 100)
theorem rows_ok : rowsL.all rowOk = true := by decide +kernel
def rowC (l : List (List UInt8 × List UInt8 × Int)) : List Value := l.flatMap fun r => [.string (bs r.1), .string (bs r.2.1), .int .i64 r.2.2]
theorem rowC_at : ∀ (l : List (List UInt8 × List UInt8 × Int)) (i : Nat) (hi : i < l.length), (rowC l)[i * 3]? = some (.string (bs l[i].1)) ∧ (rowC l)[i * 3 + 1]? = some (.string (bs l[i].2.1)) ∧ (rowC l)[i * 3 + 2]? = some (.int .i64 l[i].2.2)
  | [], _, h => absurd h (by simp)
  | _ :: _, 0, _ => ⟨rfl, rfl, rfl⟩
  | r :: l, i + 1, h => by
    have ih := rowC_at l i (by simpa using h)
    have e : rowC (r :: l) = [.string (bs r.1), .string (bs r.2.1), .int .i64 r.2.2] ++ rowC l := rfl
    rw [e, show (i + 1) * 3 = i * 3 + 3 by omega, show i * 3 + 3 + 1 = i * 3 + 1 + 3 by omega, show i * 3 + 3 + 2 = i * 3 + 2 + 3 by omega]
    exact ih
/-- what a list says of a text; none: it is none. -/
def sayL (t x : List UInt8) : Option Bool := match Gl.parseL t with | .inr rs => some (Gl.outL rs (Gl.namesL x)) | .inl _ => none
def errL (t : List UInt8) : Option (Nat × Nat) := match Gl.parseL t with | .inr _ => none | .inl e => some e
def stayL (t : List UInt8) (es : List En) : Option (List En) := match Gl.parseL t with | .inr rs => some (Gl.keepL rs es) | .inl _ => none
theorem say_out {t x : List UInt8} {rs : List Gl.Rl} {b : Bool} (h : Gl.parseL t = .inr rs) (hs : sayL t x = some b) : Hid (Gl.outL rs (Gl.namesL x) = b) := by
  rw [sayL, h] at hs
  injection hs
def exE : List En := [⟨[100], 1, 0, [], []⟩, ⟨[100, 47, 120, 46, 111], 2, 0, [], []⟩, ⟨[100, 47, 121], 2, 0, [], []⟩]
set_option maxRecDepth 100000 in
set_option maxHeartbeats 16000000 in
theorem shown_any (w : World) (hg : ErrVar w) (hm : Maxl w) : Calls Tryz.prog 16 #[] w fun e w' => e = .returned (.bool true) ∧ Below w.heap.size w w' := by
  have HG := Lib.hid hg
  have HM := Lib.hid hm
  clear hg hm
  obtain ⟨R1, H1⟩ : ∃ r, Hid (Gl.parseL (bl ⟨#[35, 32, 97, 108, 108, 10, 42, 46, 111, 10, 33, 32, 32, 107, 101, 101, 112, 46, 111, 10, 98, 105, 110]⟩) = r) := ⟨_, Lib.hid rfl⟩
  obtain ⟨R2, H2⟩ : ∃ r, Hid (Gl.parseL (bl ⟨#[97, 10, 10, 91]⟩) = r) := ⟨_, Lib.hid rfl⟩
  obtain ⟨R3, H3⟩ : ∃ r, Hid (Gl.parseL (bl ⟨#[33]⟩) = r) := ⟨_, Lib.hid rfl⟩
  obtain ⟨R4, H4⟩ : ∃ r, Hid (Gl.parseL (bl ⟨#[100, 10, 33, 100, 47, 121]⟩) = r) := ⟨_, Lib.hid rfl⟩
  have S0 : sayL [35, 32, 97, 108, 108, 10, 42, 46, 111, 10, 33, 32, 32, 107, 101, 101, 112, 46, 111, 10, 98, 105, 110] [120, 46, 111] = some true := by decide +kernel
  have S1 : sayL [35, 32, 97, 108, 108, 10, 42, 46, 111, 10, 33, 32, 32, 107, 101, 101, 112, 46, 111, 10, 98, 105, 110] [107, 101, 101, 112, 46, 111] = some false := by decide +kernel
  have S2 : sayL [35, 32, 97, 108, 108, 10, 42, 46, 111, 10, 33, 32, 32, 107, 101, 101, 112, 46, 111, 10, 98, 105, 110] [100, 47, 120, 46, 111] = some false := by decide +kernel
  have S3 : sayL [35, 32, 97, 108, 108, 10, 42, 46, 111, 10, 33, 32, 32, 107, 101, 101, 112, 46, 111, 10, 98, 105, 110] [98, 105, 110, 47, 97, 47, 98] = some true := by decide +kernel
  have E2 : errL [97, 10, 10, 91] = some (24, 3) := by decide +kernel
  have E3 : errL [33] = some (24, 1) := by decide +kernel
  have K4 : stayL [100, 10, 33, 100, 47, 121] exE = some [⟨[100], 1, 0, [], []⟩, ⟨[100, 47, 121], 2, 0, [], []⟩] := by decide +kernel
  have h1 : Gl.parseL [35, 32, 97, 108, 108, 10, 42, 46, 111, 10, 33, 32, 32, 107, 101, 101, 112, 46, 111, 10, 98, 105, 110] = R1 := H1.out
  have h2 : Gl.parseL [97, 10, 10, 91] = R2 := H2.out
  have h3 : Gl.parseL [33] = R3 := H3.out
  have h4 : Gl.parseL [100, 10, 33, 100, 47, 121] = R4 := H4.out
  obtain ⟨r1, e1⟩ : ∃ r, R1 = .inr r := by
    cases R1 with
    | inr r => exact ⟨r, rfl⟩
    | inl e => rw [sayL, h1] at S0; cases S0
  obtain e2 : R2 = .inl (24, 3) := by
    cases R2 with
    | inr r => rw [errL, h2] at E2; cases E2
    | inl e => rw [errL, h2] at E2; injection E2 with E2; rw [E2]
  obtain e3 : R3 = .inl (24, 1) := by
    cases R3 with
    | inr r => rw [errL, h3] at E3; cases E3
    | inl e => rw [errL, h3] at E3; injection E3 with E3; rw [E3]
  obtain ⟨r4, e4⟩ : ∃ r, R4 = .inr r := by
    cases R4 with
    | inr r => exact ⟨r, rfl⟩
    | inl e => rw [stayL, h4] at K4; cases K4
  subst e1 e2 e3 e4
  have o1 := Lib.hid (RsOk.of (l := [35, 32, 97, 108, 108, 10, 42, 46, 111, 10, 33, 32, 32, 107, 101, 101, 112, 46, 111, 10, 98, 105, 110]) (by decide) h1)
  have o4 := Lib.hid (RsOk.of (l := [100, 10, 33, 100, 47, 121]) (by decide) h4)
  have P0 := say_out h1 S0
  have P1 := say_out h1 S1
  have P2 := say_out h1 S2
  have P3 := say_out h1 S3
  have PK : Hid (Gl.keepL r4 exE = [⟨[100], 1, 0, [], []⟩, ⟨[100, 47, 121], 2, 0, [], []⟩]) := by
    rw [stayL, h4] at K4
    injection K4 with K4
  clear S0 S1 S2 S3 E2 E3 K4 h1 h2 h3 h4
  have m1 : Hid (Gl.metaL (bl ⟨#[97, 42, 98]⟩) = true) := Lib.hid (by decide +kernel)
  have m2 : Hid (Gl.metaL (bl ⟨#[97, 92, 98]⟩) = false) := Lib.hid (by decide +kernel)
  have m3 : Hid (Gl.metaL (bl ⟨#[]⟩) = false) := Lib.hid (by decide +kernel)
  have hB0 := (Below.refl w.heap.size w).alloc (Nat.le_refl _) (.cells (rowC rowsL).toArray 71)
  have hK0 := Blk.new w 71 (rowC rowsL).toArray
  obtain ⟨w0, hw0⟩ : ∃ w0, w.alloc (.cells (rowC rowsL).toArray 71) = w0 := ⟨_, rfl⟩
  rw [hw0] at hB0 hK0
  have HW0 : Hid (w.alloc (.cells #[.string ⟨#[97, 42, 99]⟩, .string ⟨#[97, 98, 98, 99]⟩, .int .i64 1, .string ⟨#[97, 42, 99]⟩, .string ⟨#[97, 99]⟩, .int .i64 1, .string ⟨#[97, 42, 99]⟩, .string ⟨#[97, 98, 47, 99]⟩, .int .i64 0, .string ⟨#[47, 97, 47, 47, 98, 47]⟩, .string ⟨#[97, 47, 98]⟩, .int .i64 1, .string ⟨#[97]⟩, .string ⟨#[47, 97, 47]⟩, .int .i64 1, .string ⟨#[42]⟩, .string ⟨#[]⟩, .int .i64 0, .string ⟨#[42, 42, 47, 99]⟩, .string ⟨#[99]⟩, .int .i64 1, .string ⟨#[42, 42, 47, 99]⟩, .string ⟨#[97, 47, 98, 47, 99]⟩, .int .i64 1, .string ⟨#[97, 47, 42, 42, 47, 99]⟩, .string ⟨#[97, 47, 99]⟩, .int .i64 1, .string ⟨#[97, 47, 42, 42]⟩, .string ⟨#[97]⟩, .int .i64 1, .string ⟨#[42, 42]⟩, .string ⟨#[]⟩, .int .i64 1, .string ⟨#[97, 42, 42, 99]⟩, .string ⟨#[97, 47, 99]⟩, .int .i64 0, .string ⟨#[63]⟩, .string ⟨#[97, 98]⟩, .int .i64 0, .string ⟨#[63, 98]⟩, .string ⟨#[97, 98]⟩, .int .i64 1, .string ⟨#[91, 97, 45, 99, 93, 120]⟩, .string ⟨#[98, 120]⟩, .int .i64 1, .string ⟨#[91, 33, 97, 45, 99, 93, 120]⟩, .string ⟨#[98, 120]⟩, .int .i64 0, .string ⟨#[91, 93, 97, 93]⟩, .string ⟨#[93]⟩, .int .i64 1, .string ⟨#[91, 97, 45, 93]⟩, .string ⟨#[45]⟩, .int .i64 1, .string ⟨#[91, 92, 93, 97, 93]⟩, .string ⟨#[93]⟩, .int .i64 1, .string ⟨#[91, 94, 93, 93]⟩, .string ⟨#[93]⟩, .int .i64 0, .string ⟨#[91, 45, 45, 48, 93]⟩, .string ⟨#[46]⟩, .int .i64 1, .string ⟨#[97, 93]⟩, .string ⟨#[97, 93]⟩, .int .i64 1, .string ⟨#[92, 42]⟩, .string ⟨#[42]⟩, .int .i64 1, .string ⟨#[92, 42]⟩, .string ⟨#[97]⟩, .int .i64 0, .string ⟨#[91, 97, 98]⟩, .string ⟨#[97]⟩, .int .i64 2, .string ⟨#[91, 98, 45, 97, 93]⟩, .string ⟨#[97]⟩, .int .i64 2, .string ⟨#[97, 92]⟩, .string ⟨#[97]⟩, .int .i64 2, .string ⟨#[47, 47]⟩, .string ⟨#[]⟩, .int .i64 2, .string ⟨#[91, 97, 47, 98, 93]⟩, .string ⟨#[97]⟩, .int .i64 2] 71) = w0) := Lib.hid hw0
  obtain ⟨n0, hn0⟩ : ∃ n0, w.heap.size = n0 := ⟨_, rfl⟩
  rw [hn0] at hK0
  have HN0 := Lib.hid hn0
  have HK0 := Lib.hid hK0
  have HB0 := Lib.hid hB0
  clear hw0 hn0 hK0 hB0
  go_enter Tryz.func16, Tryz.ntmps16
  go_upto_region 2 with fail
  rw [HW0.out, HN0.out]
  clear HW0
  go_wp2_with fail
  go_loopw [2, 3, 4] (fun t2 _ _ wx => ∃ i : Nat, i ≤ 29 ∧ t2 = .int .i64 (i : Int) ∧ Below w0.heap.size w0 wx) (fun t2 _ _ _ => 29 - (intOf t2).toNat)
  case atStart => exact ⟨0, by omega, rfl, Below.refl _ _⟩
  case round =>
    obtain ⟨i, hi, rfl, hB⟩ := hrel
    have j0 : (0 : Int) ≤ (i : Int) := by omega
    have hBw := below_of_below HB0.out hB HB0.out.size
    rcases Nat.lt_or_ge i 29 with hin | hin
    · have i0 : decide ((i : Int) < 29) = true := by rw [decide_eq_true_eq]; omega
      have i1 : (i : Int) < 29 := by omega
      have hil : i < rowsL.length := hin
      have hK := HK0.out.below hB HK0.out.lt
      obtain ⟨q0, q1, q2⟩ := rowC_at rowsL i hil
      have c0 : wr.cell? ⟨n0, i * 3, none⟩ = some (.string (bs rowsL[i].1)) := by rw [hK.cell]; simpa using q0
      have c1 : wr.cell? ⟨n0, i * 3 + 1, none⟩ = some (.string (bs rowsL[i].2.1)) := by rw [hK.cell]; simpa using q1
      have c2 : wr.cell? ⟨n0, i * 3 + 2, none⟩ = some (.int .i64 rowsL[i].2.2) := by rw [hK.cell]; simpa using q2
      have hok := List.all_eq_true.1 rows_ok _ (List.getElem_mem hil)
      obtain ⟨⟨a, b, n⟩, hr⟩ : ∃ r, rowsL[i] = r := ⟨_, rfl⟩
      rw [hr] at c0 c1 c2 hok
      simp only [rowOk, Bool.and_eq_true, decide_eq_true_eq] at hok
      obtain ⟨⟨hmt, la⟩, lb⟩ := hok
      have hlt := hK.lt
      have hMr := HM.out.below hBw HM.out.lt
      have hGr := HG.out.below hBw HG.out.lt
      obtain ⟨gb, ve, hgv, hcase⟩ : ∃ (gb : Bool) (ve : Value), matchE (if n = 2 then none else some (n == 1)) = .tuple #[.bool gb, ve] ∧ ((n = 2 ∧ gb = false ∧ ve = eno 24) ∨ (n ≠ 2 ∧ gb = (n == 1) ∧ ve = .nilIface)) := by
        by_cases h : n = 2
        · exact ⟨false, eno 24, by rw [if_pos h]; rfl, .inl ⟨h, rfl, rfl⟩⟩
        · exact ⟨n == 1, .nilIface, by rw [if_neg h]; rfl, .inr ⟨h, rfl, rfl⟩⟩
      have HMT : Hid (Gl.matchL (bl (bs a)) (bl (bs b)) = if n = 2 then none else some (n == 1)) := Lib.hid (by rw [bl_bs, bl_bs]; exact hmt)
      have HGV := Lib.hid hgv
      have HCS := Lib.hid hcase
      have HMr := Lib.hid hMr
      have HGr := Lib.hid hGr
      have HBr := Lib.hid hB
      have za : (bs a).size ≤ 1100000 := by rw [bs_size]; omega
      have zb : (bs b).size ≤ 1100000 := by rw [bs_size]; omega
      have C2 := Lib.hid c2
      have D0 := Lib.hid hlt
      clear hK q0 q1 q2 hr hmt la lb hgv hcase hMr hGr hB hBw c2
      go_upto_region 5 with fail
      go_cut [3, 4] (fun s3 s4 wx => s3 = .bool gb ∧ s4 = ve ∧ Below wr.heap.size wr wx)
      case first =>
        go_region_held3 (fun w' => w'.cell? ⟨n0, i * 3, none⟩ = some (.string (bs a)) ∧ w'.cell? ⟨n0, i * 3 + 1, none⟩ = some (.string (bs b))) (exact ⟨c0, c1⟩) ((go_at_call 26; refine (match_at (bs a) (bs b) za zb _ (by first | exact HMr.out | exact HMr.out.below ((Below.refl _ _).drew) HMr.out.lt) HMT HGV.out).mono ?_; rintro e v1 ⟨rfl, b1⟩; have c0 := (b1.cell (p := ⟨n0, i * 3, none⟩) D0.out).trans c0; have c1 := (b1.cell (p := ⟨n0, i * 3 + 1, none⟩) D0.out).trans c1; have BX := below_of_below (by first | exact Below.refl wr.heap.size wr | exact (Below.refl wr.heap.size wr).drew) b1 (by first | exact Nat.le_refl _ | rfl)))
        go_wp2_with fail
        go_meet
        exact ⟨rfl, rfl, BX⟩
      case rest =>
        obtain ⟨rfl, rfl, bx⟩ := hcut
        have c2 := (bx.cell (p := ⟨n0, i * 3 + 2, none⟩) D0.out).trans C2.out
        have hB2 := below_of_below HBr.out bx HBr.out.size
        have hG2 := HGr.out.below bx HGr.out.lt
        have D1 := Nat.lt_of_lt_of_le D0.out bx.size
        clear c0 c1 bx
        rcases HCS.out with ⟨rfl, rfl, rfl⟩ | ⟨hn2, rfl, rfl⟩
        · go_wp2_with fail
          refine (plain_24 _ hG2).mono ?_
          rintro e v2 ⟨rfl, b2⟩
          have c2 := (b2.cell (p := ⟨n0, i * 3 + 2, none⟩) D1).trans c2
          have hB3 := below_of_below hB2 b2 hB2.size
          go_wp2_with fail
          go_roundw
          case rel => exact ⟨i + 1, by omega, by go_num, hB3⟩
          case measure => simp [intOf]; omega
        · have t2 : (n == 2) = false := by simpa using hn2
          have t3 : (n != 2) = true := by simpa using hn2
          obtain ⟨g1, hg1⟩ : ∃ g, (n == 1) = g := ⟨_, rfl⟩
          have t4 : (g1 != g1) = false := by simp
          rw [hg1]
          clear HCS HGV HMT hn2
          go_wp2_with fail
          go_roundw
          case rel => exact ⟨i + 1, by omega, by go_num, hB2⟩
          case measure => simp [intOf]; omega
    · have i0 : decide ((i : Int) < 29) = false := by rw [decide_eq_false_iff_not]; omega
      have hM1 := HM.out.below hBw HM.out.lt
      clear hB
      go_wp2_with fail
      refine (parse_l ⟨#[35, 32, 97, 108, 108, 10, 42, 46, 111, 10, 33, 32, 32, 107, 101, 101, 112, 46, 111, 10, 98, 105, 110]⟩ (by decide) _ hM1 H1).mono ?_
      rintro e v1 ⟨⟨vl1, ve1, rfl, hV1⟩, b1⟩
      obtain ⟨L1, rfl, rfl, hL1⟩ := hV1
      have B1 := below_of_below hBw b1 hBw.size
      clear b1 hM1 hBw
      go_wp2_with fail
      refine (out_at r1 o1 L1 [120, 46, 111] (by decide) _ hL1 (HM.out.below B1 HM.out.lt) P0).mono ?_
      rintro e u0 ⟨rfl, b0⟩
      have hL2 := hL1.below b0
      have B2 := below_of_below B1 b0 B1.size
      clear b0 B1 hL1
      go_wp2_with fail
      refine (out_at r1 o1 L1 [107, 101, 101, 112, 46, 111] (by decide) _ hL2 (HM.out.below B2 HM.out.lt) P1).mono ?_
      rintro e u1 ⟨rfl, b1⟩
      have hL3 := hL2.below b1
      have B3 := below_of_below B2 b1 B2.size
      clear b1 B2 hL2
      go_wp2_with fail
      refine (out_at r1 o1 L1 [100, 47, 120, 46, 111] (by decide) _ hL3 (HM.out.below B3 HM.out.lt) P2).mono ?_
      rintro e u2 ⟨rfl, b2⟩
      have hL4 := hL3.below b2
      have B4 := below_of_below B3 b2 B3.size
      clear b2 B3 hL3
      go_wp2_with fail
      refine (out_at r1 o1 L1 [98, 105, 110, 47, 97, 47, 98] (by decide) _ hL4 (HM.out.below B4 HM.out.lt) P3).mono ?_
      rintro e u3 ⟨rfl, b3⟩
      have hL5 := hL4.below b3
      have B5 := below_of_below B4 b3 B4.size
      clear b3 B4 hL4
      go_wp2_with fail
      refine (parse_l ⟨#[97, 10, 10, 91]⟩ (by decide) _ (HM.out.below B5 HM.out.lt) H2).mono ?_
      rintro e v2 ⟨⟨vl2, ve2, rfl, hV2⟩, b1⟩
      obtain ⟨rfl, rfl⟩ := hV2
      have B6 := below_of_below B5 b1 B5.size
      clear b1 B5 hL5
      go_wp2_with fail
      refine (parse_l ⟨#[33]⟩ (by decide) _ (HM.out.below B6 HM.out.lt) H3).mono ?_
      rintro e v3 ⟨⟨vl3, ve3, rfl, hV3⟩, b1⟩
      obtain ⟨rfl, rfl⟩ := hV3
      have B7 := below_of_below B6 b1 B6.size
      clear b1 B6
      go_wp2_with fail
      refine (parse_l ⟨#[100, 10, 33, 100, 47, 121]⟩ (by decide) _ (HM.out.below B7 HM.out.lt) H4).mono ?_
      rintro e v4 ⟨⟨vl4, ve4, rfl, hV4⟩, b1⟩
      obtain ⟨L4, rfl, rfl, hL4⟩ := hV4
      have B8 := below_of_below B7 b1 B7.size
      clear b1 B7
      go_wp2_with fail
      refine (at_fault 24 3 0 (by decide) (by decide) _ (HG.out.below B8 HG.out.lt)).mono ?_
      rintro e v5 ⟨rfl, b1⟩
      have hL5 := hL4.below b1
      have B9 := below_of_below B8 b1 B8.size
      clear b1 B8 hL4
      go_wp2_with fail
      refine (at_fault 24 1 0 (by decide) (by decide) _ (HG.out.below B9 HG.out.lt)).mono ?_
      rintro e v6 ⟨rfl, b1⟩
      have hL6 := hL5.below b1
      have BA := below_of_below B9 b1 B9.size
      clear b1 B9 hL5
      have hB7 := BA.alloc BA.size (.cells (enCs exE).toArray 38)
      have hK7 := Blk.new v6 38 (enCs exE).toArray
      have hL7 := hL6.below ((Below.refl v6.heap.size v6).alloc (Nat.le_refl _) (.cells (enCs exE).toArray 38))
      obtain ⟨v7, hv7⟩ : ∃ v7, v6.alloc (.cells (enCs exE).toArray 38) = v7 := ⟨_, rfl⟩
      rw [hv7] at hB7 hK7 hL7
      have HV7 : Hid (v6.alloc (.cells #[.string ⟨#[100]⟩, .int .i64 1, .int .i64 0, .string ⟨#[]⟩, .string ⟨#[]⟩, .string ⟨#[100, 47, 120, 46, 111]⟩, .int .i64 2, .int .i64 0, .string ⟨#[]⟩, .string ⟨#[]⟩, .string ⟨#[100, 47, 121]⟩, .int .i64 2, .int .i64 0, .string ⟨#[]⟩, .string ⟨#[]⟩] 38) = v7) := Lib.hid hv7
      have hR7 : RE v7 (fun _ => True) (.slice (some ⟨v6.heap.size, 0, none⟩) exE.length 3) exE := RC.of_blk hK7 trivial
      obtain ⟨n7, hn7⟩ : ∃ n, v6.heap.size = n := ⟨_, rfl⟩
      rw [hn7] at hR7
      have HN7 := Lib.hid hn7
      have hM7 := HM.out.below hB7 HM.out.lt
      have hkeep : Calls Tryz.prog 11 #[.pointer (some ⟨L4, 0, none⟩), .slice (some ⟨n7, 0, none⟩) 3 3] v7 fun e w' => (∃ A c Bs, e = .returned (.slice A 2 c) ∧ v7.heap.size ≤ Bs ∧ w'.ownsRow Bs 38 5 (.slice A 2 c) 2 (enCs [⟨[100], 1, 0, [], []⟩, ⟨[100, 47, 121], 2, 0, [], []⟩])) ∧ Below v7.heap.size v7 w' := keep_any r4 L4 exE (some ⟨n7, 0, none⟩) 3 v7 hL7 o4.out.1 o4.out.2 hR7 (by decide) (by decide) hM7 PK
      have HK7 := Lib.hid hkeep
      clear hv7 hn7 hK7 hR7 hL7 hL6 hM7 hkeep
      go_upto_region 17 with fail
      rw [HV7.out, HN7.out]
      clear HV7
      go_wp2_with fail
      refine HK7.out.mono ?_
      rintro e v8 ⟨⟨A, c, Bs, rfl, _, hown⟩, b1⟩
      have B10 := below_of_below hB7 b1 hB7.size
      have hRE : RE v8 (fun _ => True) (.slice A 2 c) [⟨[100], 1, 0, [], []⟩, ⟨[100, 47, 121], 2, 0, [], []⟩] := RC.own hown (fun _ _ => trivial)
      obtain ⟨g, oo, c', hvl, d0, _, _, _, _, _⟩ := hRE.at_ (j := 0) (by decide)
      obtain ⟨g', oo', c'', hvl', d1, _, _, _, _, _⟩ := hRE.at_ (j := 1) (by decide)
      obtain ⟨hA, hcc⟩ : A = some ⟨g, oo, none⟩ ∧ c = c' := by injection hvl with e1 _ e3; exact ⟨e1, e3⟩
      subst hA hcc
      obtain ⟨rfl, rfl⟩ : g = g' ∧ oo = oo' := by injection hvl' with e1 _ e3; injection e1 with e1; injection e1 with e1 e2; exact ⟨e1, e2⟩
      have f0 : v8.cell? ⟨g, oo, none⟩ = some (.string ⟨#[100]⟩) := d0
      have f1 : v8.cell? ⟨g, oo + 5, none⟩ = some (.string ⟨#[100, 47, 121]⟩) := d1
      have hlt : g < v8.heap.size := World.block_lt_of_cell? v8 _ f0
      clear hown hRE hvl hvl' d0 d1 b1 hB7 HK7
      go_wp2_with fail
      refine (meta_any ⟨#[97, 42, 98]⟩ (by decide) _ m1).mono ?_
      rintro e v9 ⟨rfl, b1⟩
      have f0 := (b1.cell (p := ⟨g, oo, none⟩) hlt).trans f0
      have f1 := (b1.cell (p := ⟨g, oo + 5, none⟩) hlt).trans f1
      have hlt := Nat.lt_of_lt_of_le hlt b1.size
      have B11 := below_of_below B10 b1 B10.size
      clear b1
      go_wp2_with fail
      refine (meta_any ⟨#[97, 92, 98]⟩ (by decide) _ m2).mono ?_
      rintro e va ⟨rfl, b1⟩
      have f0 := (b1.cell (p := ⟨g, oo, none⟩) hlt).trans f0
      have f1 := (b1.cell (p := ⟨g, oo + 5, none⟩) hlt).trans f1
      have hlt := Nat.lt_of_lt_of_le hlt b1.size
      have B12 := below_of_below B11 b1 B11.size
      clear b1
      go_wp2_with fail
      refine (meta_any ⟨#[]⟩ (by decide) _ m3).mono ?_
      rintro e vb ⟨rfl, b1⟩
      have f0 := (b1.cell (p := ⟨g, oo, none⟩) hlt).trans f0
      have f1 := (b1.cell (p := ⟨g, oo + 5, none⟩) hlt).trans f1
      have B13 := below_of_below B12 b1 B12.size
      clear b1
      go_wp2_with fail
      go_ret
      exact ⟨by first | rfl | (simp; done) | decide, B13⟩
end Go.Proofs.YtdjfakampjbgeaaGreatDoor
