/- strataref14.Body and Docs, walked. -/
import Derived.Test.YtpgnfianffjpnaaGreatDoorLxT
import Derived.Test.YtpgnfianffjpnaaGreatDoorLrE
import Derived.Test.YtpgnfianffjpnaaGreatDoorLrI
import Derived.Test.YtpgnfianffjpnaaGreatDoorLxS
namespace Go.Proofs.YtpgnfianffjpnaaGreatDoor
open Go Go.RowKit
set_option maxRecDepth 100000 in
set_option maxHeartbeats 1000000 in
theorem place14_any (ln : Lx.Ln) (vm vd : Value) (at_ : Int) (w : World) (hm : RdRow w vm ln.marks.length (mkC ln.marks)) (ht : ln.text.length ≤ 1000000000) (hn : ln.marks.length ≤ 1000000) {RES : Int × Int} (H : Hid (Lx.placeL ln at_ = RES)) :
    Calls Tryz.prog 16 #[.agg #[.int .i64 ln.line, .string (bs ln.text), vm, vd], .int .i64 at_] w fun r w' => r = .returned (.tuple #[.int .i64 RES.1, .int .i64 RES.2]) ∧ Below w.heap.size w w' := by
  obtain ⟨a, ha⟩ : ∃ a, Hid (Lx.clampL ln at_ = a) := ⟨_, Lib.hid rfl⟩
  obtain ⟨AA, ca, hvm⟩ := hm.form
  subst hvm
  have hz := bs_size ln.text
  have hcl : a = max 0 (min at_ ((bs ln.text).size : Int)) := by rw [← ha.out, Lx.clampL, hz]
  have ha0 : 0 ≤ a := by rw [hcl]; omega
  have ha1 : a ≤ ((bs ln.text).size : Int) := by rw [hcl]; omega
  have hzl : (bs ln.text).size ≤ 1000000000 := by omega
  have H0 : Hid (Lx.placeM (ln.marks.take 0) a (ln.line, a + 1) = (ln.line, a + 1)) := Lib.hid rfl
  have HRES : Hid (Lx.placeM ln.marks a (ln.line, a + 1) = RES) := by show _ = _; rw [← H.out, Lx.placeL, ha.out]
  have hB0 := (Below.refl w.heap.size w).alloc (Nat.le_refl _) (.cells #[.int .i64 ln.line, .string (bs ln.text), .slice AA ln.marks.length ca, vd] 64)
  have hK0 := Blk.new w 64 #[.int .i64 ln.line, .string (bs ln.text), .slice AA ln.marks.length ca, vd]
  have hm0 := hm.new hB0
  obtain ⟨w0, hw0⟩ : ∃ w0, w.alloc (.cells #[.int .i64 ln.line, .string (bs ln.text), .slice AA ln.marks.length ca, vd] 64) = w0 := ⟨_, rfl⟩
  rw [hw0] at hB0 hK0 hm0
  have HB0 := Lib.hid hB0
  have HK0 := Lib.hid hK0
  have HM0 := Lib.hid hm0
  have HW0 := Lib.hid hw0
  have HCL := Lib.hid hcl
  have hbs0 := hK0.lt
  obtain ⟨b, hb⟩ : ∃ b, b = max 0 at_ := ⟨_, rfl⟩
  have HBB := Lib.hid hb
  have hb0 : 0 ≤ b := by rw [hb]; omega
  have HAB : Hid (a = min b ((bs ln.text).size : Int)) := by show _ = _; rw [hcl, hb]; omega
  clear hm hB0 hK0 hm0 hw0 hz hcl H hb
  go_enter Tryz.func16, Tryz.ntmps16
  go_upto_region 1 with fail
  rw [HW0.out]
  have k1 : w0.cell? ⟨w.heap.size, 1, none⟩ = some (.string (bs ln.text)) := HK0.out.cell 1
  obtain ⟨p, hp⟩ : ∃ p, decide (at_ < 0) = p := ⟨_, rfl⟩
  have HPB : Hid (b = if p then 0 else at_) := by
    show _ = _
    rw [HBB.out, ← hp]
    by_cases h : at_ < 0
    · rw [decide_eq_true h]; simp only [if_true]; omega
    · rw [decide_eq_false h]; simp only [Bool.false_eq_true, if_false]; omega
  go_upto_if 10 with fail
  clear hp
  go_cut [1] (fun s1 wx => s1 = .int .i64 b ∧ wx = w0)
  case first =>
    cases p <;> (
      go_wp2_with fail
      go_meet
      exact ⟨by rw [HPB.out]; rfl, rfl⟩)
  case rest =>
    obtain ⟨rfl, hwx⟩ := hcut
    rw [hwx]
    clear hwx
    obtain ⟨q, hq⟩ : ∃ q, decide (((bs ln.text).size : Int) < b) = q := ⟨_, rfl⟩
    have HQB : Hid (a = if q then ((bs ln.text).size : Int) else b) := by
      show _ = _
      rw [HAB.out, ← hq]
      by_cases h : ((bs ln.text).size : Int) < b
      · rw [decide_eq_true h]; simp only [if_true]; omega
      · rw [decide_eq_false h]; simp only [Bool.false_eq_true, if_false]; omega
    go_upto_if 15 with fail
    clear hq
    go_cut [1] (fun s1 wx => s1 = .int .i64 a ∧ wx = w0)
    case first =>
      cases q <;> (
        go_wp2_with fail
        go_meet
        exact ⟨by rw [HQB.out]; rfl, rfl⟩)
    case rest =>
      obtain ⟨rfl, hwx⟩ := hcut
      rw [hwx]
      clear hwx k1
      have k0 : w0.cell? ⟨w.heap.size, 0, none⟩ = some (.int .i64 ln.line) := HK0.out.cell 0
      go_wp2_with fail
      clear k0
      go_loopw [6, 7, 8] (fun t6 t7 t8 wr => ∃ (k : Nat) (l cc : Int), k ≤ ln.marks.length ∧ t6 = .int .i64 l ∧ t7 = .int .i64 cc ∧ t8 = .int .i64 (k : Int) ∧ Hid (Lx.placeM (ln.marks.take k) a (ln.line, a + 1) = (l, cc)) ∧ Hid (Below w0.heap.size w0 wr)) (fun _ _ t8 _ => ln.marks.length - (intOf t8).toNat)
      case atStart => exact ⟨0, ln.line, a + 1, by omega, rfl, by go_num, rfl, H0, Lib.hid (Below.refl _ _)⟩
      case round =>
        clear H0
        obtain ⟨k, l, cc, hk, rfl, rfl, rfl, HP, HB⟩ := hrel
        have hsz := HB.out.size
        have hKr := HK0.out.below HB.out hbs0
        have k2 : wr.cell? ⟨w.heap.size, 2, none⟩ = some (.slice AA ln.marks.length ca) := hKr.cell 2
        clear hKr
        rcases Nat.lt_or_ge k ln.marks.length with hkn | hkn
        · have i0 : decide ((k : Int) < (ln.marks.length : Int)) = true := by rw [decide_eq_true_eq]; omega
          have hmr := HM0.out.new HB.out
          obtain ⟨b2, o, c, hv, c0, c1, c2⟩ := hmr.mark k hkn
          injection hv with e1 _ e3
          subst e1 e3
          have htk : ln.marks.take (k + 1) = ln.marks.take k ++ [ln.marks[k]] := by rw [List.take_add_one, List.getElem?_eq_getElem hkn]; rfl
          obtain ⟨m, hme⟩ : ∃ m, ln.marks[k] = m := ⟨_, rfl⟩
          have HN : Hid (Lx.placeM (ln.marks.take (k + 1)) a (ln.line, a + 1) = if m.at_ ≤ a then (m.line, Lx.w64 (m.col + Lx.w64 (a - m.at_))) else (l, cc)) := by
            show _ = _
            rw [htk, Lx.placeM_snoc, hme, HP.out]
          rw [hme] at c0 c1 c2
          have j0 : (0 : Int) ≤ (k : Int) := by omega
          have j1 : (k : Int) < (ln.marks.length : Int) := by omega
          clear htk hmr hme HP
          by_cases hle : m.at_ ≤ a
          · have t1 : decide (m.at_ ≤ a) = true := by rw [decide_eq_true_eq]; exact hle
            have HR : Hid (Lx.placeM (ln.marks.take (k + 1)) a (ln.line, a + 1) = (m.line, Lx.w64 (m.col + Lx.w64 (a - m.at_)))) := by show _ = _; rw [HN.out, if_pos hle]
            clear hle HN
            go_wp2_with fail
            go_quiet (fail)
            go_wp2_with fail
            go_roundw
            case rel => exact ⟨k + 1, m.line, Lx.w64 (m.col + Lx.w64 (a - m.at_)), by omega, rfl, by simp only [Lx.w64, IntWalk.i64_left], by go_num, HR, Lib.hid (by first | exact HB.out | exact below_drewN HB.out _)⟩
            case measure => simp [intOf]; omega
          · have t1 : decide (m.at_ ≤ a) = false := by rw [decide_eq_false_iff_not]; exact hle
            have HR : Hid (Lx.placeM (ln.marks.take (k + 1)) a (ln.line, a + 1) = (l, cc)) := by show _ = _; rw [HN.out, if_neg hle]
            clear hle HN
            go_wp2_with fail
            go_roundw
            case rel => exact ⟨k + 1, l, cc, by omega, rfl, rfl, by go_num, HR, HB⟩
            case measure => simp [intOf]; omega
        · have i0 : decide ((k : Int) < (ln.marks.length : Int)) = false := by rw [decide_eq_false_iff_not]; omega
          have HR : Hid (RES = (l, cc)) := by
            show _ = _
            rw [← HRES.out, ← HP.out, List.take_of_length_le hkn]
          have HBF := Lib.hid (below_of_below HB0.out HB.out HB0.out.size)
          clear HP
          go_wp2_with fail
          go_ret2
          exact ⟨by rw [HR.out]; rfl, HBF.out⟩
end Go.Proofs.YtpgnfianffjpnaaGreatDoor
namespace Go.Proofs.YtpgnfianffjpnaaGreatDoor
open Go Go.RowKit
set_option maxRecDepth 100000 in
set_option maxHeartbeats 4000000 in
theorem opening14_any (raw : List UInt8) (hs : raw.length ≤ 2000000) (h2 : 2 ≤ raw.length) (w : World) {N : List UInt8} {q t o : Bool} (hN : Hid (Lx.openName raw = N)) (hQ : Hid (Lx.openRaw raw = q)) (hT : Hid (Lx.openTabs raw = t)) (hO : Hid (Lx.nameOk N = o)) :
    Calls Tryz.prog 29 #[.string (bs raw)] w fun e w' => e = .returned (.tuple #[.string (bs N), .bool q, .bool t, .bool o]) ∧ Below w.heap.size w w' := by
  obtain ⟨S, hS⟩ : ∃ S, raw.drop 2 = S := ⟨_, rfl⟩
  have hsl := slice_from raw 2 2 rfl h2
  rw [hS] at hsl
  have hSl : S.length ≤ 2000000 := by rw [← hS, List.length_drop]; omega
  obtain ⟨nm, hnm⟩ : ∃ nm, Lib.trimPrefix S [45] = nm := ⟨_, rfl⟩
  have hTT : Hid (t = Lib.hasPrefix S [45]) := by show _ = _; rw [← hT.out, Lx.openTabs, hS]
  have hQQ : Hid (Lx.quotedB nm = q) := by show _ = _; rw [← hQ.out, Lx.openRaw, hS, hnm]
  have HON : Hid (N = if q then nm.tail.dropLast else nm) := by
    show _ = _
    rw [← hN.out, Lx.openName, hS, hnm, hQQ.out]
  have HNM := Lib.hid hnm
  have hlen : nm.length ≤ 2000000 := by
    have h := @hp_len S
    rw [hnm] at h
    omega
  have HZS := Lib.hid (bs_size S)
  have HZ := Lib.hid (bs_size nm)
  have hzle : (bs nm).size ≤ 2000000 := by rw [HZ.out]; exact hlen
  have hzs : (bs S).size ≤ 2000000 := by rw [HZS.out]; exact hSl
  have hnN : N.length ≤ 2000000 := by
    rw [HON.out]
    split
    · rw [List.length_dropLast, List.length_tail]; omega
    · exact hlen
  clear hS hnm hN hQ hT
  go_enter Tryz.func29, Tryz.ntmps29
  go_upto_region 2 with fail
  go_cut [7] (fun s7 wx => s7 = .bool t ∧ w = wx)
  case first =>
    cases S with
    | nil =>
      have HE : Hid (t = false) := by show _ = _; rw [hTT.out]; rfl
      have g0 : decide ((0 : Int) < ((bs ([] : List UInt8)).size : Int)) = false := by decide
      clear HON HNM hsl HZS hzs
      go_wp2_with fail
      go_meet
      exact ⟨by rw [HE.out], by first | rfl | trivial⟩
    | cons c r =>
      have hz1 : 0 < (bs (c :: r)).size := by rw [HZS.out]; simp
      have g0 : decide ((0 : Int) < ((bs (c :: r)).size : Int)) = true := by rw [decide_eq_true_eq]; omega
      have g1 : (0 : Int) < ((bs (c :: r)).size : Int) := by omega
      have hc0 : (bs (c :: r))[0]'hz1 = c := rfl
      have hby : c.toNat < 256 := UInt8.toNat_lt _
      obtain ⟨b, hb⟩ : ∃ b, ((c.toNat : Int) == 45) = b := ⟨_, rfl⟩
      have HE : Hid (t = b) := by
        show _ = _
        rw [hTT.out, ← hb, show (45 : Int) = ((45 : UInt8).toNat : Int) from rfl, u8_eq]
        simp [Lib.hasPrefix, List.isPrefixOf]
        rw [Bool.eq_iff_iff]
        simp
        exact eq_comm
      clear HON HNM hsl HZS hzs
      cases b <;> (
        go_wp2_with fail
        go_meet
        exact ⟨by rw [HE.out], by first | rfl | trivial⟩)
  case rest =>
    obtain ⟨rfl, rfl⟩ := hcut
    go_upto_if 20 with fail
    go_cut [6] (fun s6 wx => s6 = .string (bs nm) ∧ w = wx)
    case first =>
      cases t with
      | true =>
        have hp : Lib.hasPrefix S [45] = true := hTT.out.symm
        have hnmv : nm = S.drop 1 := by
          rw [← HNM.out, Lib.trimPrefix, if_pos hp]
          rfl
        have hS1 : 1 ≤ S.length := by
          cases S with
          | nil => cases hp
          | cons c r => simp
        have hsl1 := slice_from S 1 1 rfl hS1
        rw [← hnmv] at hsl1
        clear hp hnmv HNM
        go_wp2_with fail
        go_meet
        exact ⟨rfl, by first | rfl | trivial⟩
      | false =>
        have hp : Lib.hasPrefix S [45] = false := hTT.out.symm
        have hnmv : nm = S := by
          rw [← HNM.out, Lib.trimPrefix, hp]
          rfl
        subst hnmv
        clear hp HNM
        go_wp2_with fail
        go_meet
        exact ⟨rfl, by first | rfl | trivial⟩
    case rest =>
      obtain ⟨rfl, rfl⟩ := hcut
      go_upto_region 6 with fail
      go_cut [9] (fun s9 wx => s9 = .bool q ∧ ∃ n, wx = w.drewN n)
      case first =>
        clear HON
        rcases Nat.lt_or_ge (bs nm).size 2 with hl | hl
        · have HQ : Hid (q = false) := by show _ = _; rw [← hQQ.out, quoted_lt (by rw [← HZ.out]; exact hl)]
          have g0 : decide ((2 : Int) ≤ ((bs nm).size : Int)) = false := by rw [decide_eq_false_iff_not]; omega
          clear hl
          go_quiet (fail)
          go_wp2_with fail
          go_meet
          exact ⟨by rw [HQ.out], _, rfl⟩
        · have hl2 : 2 ≤ nm.length := by rw [← HZ.out]; exact hl
          have hq := quoted_ge hl2
          rw [hQQ.out] at hq
          have g0 : decide ((2 : Int) ≤ ((bs nm).size : Int)) = true := by rw [decide_eq_true_eq]; omega
          have g1 : 0 < (bs nm).size := by omega
          have g1i : (0 : Int) < ((bs nm).size : Int) := by omega
          obtain ⟨m, hm⟩ : ∃ m, (bs nm).size = m + 1 := ⟨(bs nm).size - 1, by omega⟩
          have hm2 : m < (bs nm).size := by omega
          have e1 : nm[0]'(by omega) = (bs nm)[0]'g1 := rfl
          have e2 : nm[nm.length - 1]'(by omega) = (bs nm)[m]'hm2 := by
            have : nm.length - 1 = m := by rw [← HZ.out, hm]; rfl
            simp only [this]
            rfl
          rw [e1, e2] at hq
          obtain ⟨a, ha⟩ : ∃ a, (bs nm)[0]'g1 = a := ⟨_, rfl⟩
          obtain ⟨z, hz⟩ : ∃ z, (bs nm)[m]'hm2 = z := ⟨_, rfl⟩
          rw [ha, hz] at hq
          have g3 : IntKind.i64.wrap (((bs nm).size : Int) - 1) = (m : Int) := by rw [IntWalk.i64_in _ (by omega)]; omega
          have g4 : (m : Int) < ((bs nm).size : Int) := by omega
          have g5 : (0 : Int) ≤ (m : Int) := by omega
          have q1 := u8_eq a 34
          have q2 := u8_eq a 39
          have q3 := u8_eq z a
          rw [show (((34 : UInt8).toNat : Nat) : Int) = 34 from rfl] at q1
          rw [show (((39 : UInt8).toNat : Nat) : Int) = 39 from rfl] at q2
          generalize decide (a = 34) = x1 at *
          generalize decide (a = 39) = x2 at *
          generalize decide (z = a) = x3 at *
          have HQ := Lib.hid hq
          have hby : a.toNat < 256 := UInt8.toNat_lt _
          have hby2 : z.toNat < 256 := UInt8.toNat_lt _
          clear hq hm e1 e2 hl hl2
          cases x1 <;> cases x2 <;> cases x3 <;> (
            go_quiet (fail)
            go_wp2_with fail
            go_meet
            exact ⟨by rw [HQ.out]; rfl, _, rfl⟩)
      case rest =>
        obtain ⟨rfl, n, hwx⟩ := hcut
        rw [hwx]
        clear hwx
        have hBd := below_drewN (Below.refl w.heap.size w) n
        obtain ⟨wd, hwd⟩ : ∃ wd, w.drewN n = wd := ⟨_, rfl⟩
        rw [hwd] at hBd
        rw [hwd]
        clear hwd
        go_upto_if 46 with fail
        go_cut [6] (fun s6 wx => s6 = .string (bs N) ∧ wd = wx)
        case first =>
          cases q with
          | true =>
            have hl2 : 2 ≤ nm.length := by
              rcases Nat.lt_or_ge nm.length 2 with h | h
              · exact absurd ((quoted_lt h).symm.trans hQQ.out) (by decide)
              · exact h
            have hsl2 := slice_bsi nm 1 (nm.length - 1) 1 (((bs nm).size : Int) - 1) rfl (by rw [HZ.out]; omega) (by omega) (by omega)
            rw [tail_dropLast] at hsl2
            have HE : Hid (N = nm.tail.dropLast) := by show _ = _; rw [HON.out]; rfl
            clear hl2 HON
            go_wp2_with fail
            go_meet
            exact ⟨by rw [HE.out], by first | rfl | trivial⟩
          | false =>
            have HE : Hid (N = nm) := by show _ = _; rw [HON.out]; rfl
            clear HON
            go_wp2_with fail
            go_meet
            exact ⟨by rw [HE.out], by first | rfl | trivial⟩
        case rest =>
          obtain ⟨rfl, rfl⟩ := hcut
          clear HON hsl
          go_wp2_with fail
          refine (isName14_any N hnN _ hO).mono ?_
          rintro e w1 ⟨rfl, rfl⟩
          go_wp2_with fail
          go_returns
          exact ⟨rfl, hBd⟩
end Go.Proofs.YtpgnfianffjpnaaGreatDoor
namespace Go.Proofs.YtpgnfianffjpnaaGreatDoor
open Go Go.RowKit
theorem byteSliceU : ElemT Tryz.prog 181 5 (.int .u8 0) 1 := ⟨Tryz.underlying181, by kernel_rfl, rfl⟩
theorem bs_eq2 (a b : List UInt8) : ((bs a).toList == (bs b).toList) = decide (a = b) := by
  rw [toList_bs, toList_bs, Bool.eq_iff_iff]
  simp
theorem bareL_le2 (tb : Bool) (x : List UInt8) : (Lx.bare tb x).length ≤ x.length := by
  unfold Lx.bare
  split
  · exact Lx.trimL_le x [9]
  · exact Nat.le_refl _
section
variable {n : List UInt8} {tb : Bool} {L : List (List UInt8)} {m : Nat} {acc : List UInt8} {x : List UInt8}
theorem body_end2 (h : L.length ≤ m) : Lx.bodyL n tb (L.drop m) acc m = none := by rw [List.drop_eq_nil_of_le h, Lx.bodyL]
theorem body_hit2 (h : L[m]? = some x) (hb : Lx.bare tb x = n) : Lx.bodyL n tb (L.drop m) acc m = some (acc, m + 1) := by
  obtain ⟨hm, rfl⟩ := List.getElem?_eq_some_iff.1 h
  rw [List.drop_eq_getElem_cons hm, Lx.bodyL, if_pos hb]
theorem body_go2 (h : L[m]? = some x) (hb : ¬ Lx.bare tb x = n) : Lx.bodyL n tb (L.drop m) acc m = Lx.bodyL n tb (L.drop (m + 1)) (acc ++ Lx.bare tb x ++ [10]) (m + 1) := by
  obtain ⟨hm, rfl⟩ := List.getElem?_eq_some_iff.1 h
  rw [List.drop_eq_getElem_cons hm, Lx.bodyL, if_neg hb]
end
/-- what Body answers. -/
def BodyAns14 (RES : Option (List UInt8 × Nat)) (r : Ending) : Prop := match RES with
  | none => ∃ z : Int, r = .returned (.tuple #[.string ⟨#[]⟩, .int .i64 z, .bool false])
  | some (t, m) => r = .returned (.tuple #[.string (bs t), .int .i64 (m : Int), .bool true])
set_option maxRecDepth 100000 in
set_option maxHeartbeats 4000000 in
theorem body14_any (w : World) {A : Option Addr} {c : Nat} {L : List (List UInt8)} (hr : Ls w A L) (q : Nat) (hq : q ≤ L.length) (hL : L.length ≤ 5000) (hx : Hid (∀ x ∈ L, x.length ≤ 70000)) (name : List UInt8) (tb : Bool) {RES : Option (List UInt8 × Nat)} (H : Hid (Lx.bodyL name tb (L.drop q) [] q = RES)) :
    Calls Tryz.prog 84 #[.slice A L.length c, .int .i64 (q : Int), .string (bs name), .bool tb] w fun r w' => BodyAns14 RES r ∧ Below w.heap.size w w' := by
  obtain ⟨N, hN⟩ : ∃ N, L.length = N := ⟨_, rfl⟩
  have HN := Lib.hid hN
  have HLS := Lib.hid hr
  rw [hN] at hL hq
  rw [hN]
  have HA0 : Hid (([] : List UInt8).length ≤ q * 70001) := Lib.hid (by simp)
  clear hr hN
  go_enter Tryz.func84, Tryz.ntmps84
  go_wp2_with fail
  go_loopw [1, 11, 12, 13] (fun t1 t11 _ _ wr => ∃ (i : Nat) (acc : List UInt8), i ≤ N ∧ t1 = .int .i64 (i : Int) ∧ Hid (Lx.bodyL name tb (L.drop i) acc i = RES) ∧ Hid (acc.length ≤ i * 70001) ∧ wr.ownsRow w.heap.size 5 1 t11 acc.length (bc acc) ∧ Below w.heap.size w wr) (fun t1 _ _ _ _ => N - (intOf t1).toNat)
  case atStart => exact ⟨q, [], hq, rfl, H, HA0, World.ownsRow_nil _ _ _ _, Below.refl _ _⟩
  case round =>
    clear H HA0
    rename World => wr
    obtain ⟨i, acc, hi, rfl, HB, HA, hown, hbel⟩ := hrel
    have j0 : (0 : Int) ≤ (i : Int) := by omega
    rcases Nat.lt_or_ge i N with hin | hin
    · have i0 : decide ((i : Int) < (N : Int)) = true := by rw [decide_eq_true_eq]; omega
      have i1 : (i : Int) < (N : Int) := by omega
      have hiL : i < L.length := by rw [HN.out]; exact hin
      obtain ⟨g, rfl, hgw, hcell⟩ := HLS.out (by omega)
      obtain ⟨x, hxe⟩ : ∃ x, L[i]? = some x := ⟨_, List.getElem?_eq_getElem hiL⟩
      have hxl : x.length ≤ 70000 := hx.out x (List.mem_of_getElem? hxe)
      have hx2 : x.length ≤ 2000000 := by omega
      have hci : wr.cell? ⟨g, i, none⟩ = some (.string (bs x)) := by rw [← hcell i x hxe]; exact hbel.cell (p := ⟨g, i, none⟩) hgw
      obtain ⟨S, hS⟩ : ∃ S, Hid (Lx.bare tb x = S) := ⟨_, Lib.hid rfl⟩
      have hSl : S.length ≤ 70000 := by have := bareL_le2 tb x; rw [hS.out] at this; omega
      obtain ⟨y, hy⟩ : ∃ y, ((bs S).toList == (bs name).toList) = y := ⟨_, rfl⟩
      have hyd : y = decide (S = name) := by rw [← hy, bs_eq2]
      have HYD := Lib.hid hyd
      have HXE := Lib.hid hxe
      clear hcell hxe hyd hiL HLS
      go_wp2_with fail
      refine (bare14_any x hx2 tb _ hS).mono ?_
      rintro r w9 ⟨rfl, rfl⟩
      clear hci
      cases y with
      | true =>
        have hSn : S = name := of_decide_eq_true HYD.out.symm
        have HR : Hid (RES = some (acc, i + 1)) := by show _ = _; rw [← HB.out, body_hit2 HXE.out (hS.out.trans hSn)]
        have hcv := run_str_own Tryz.underlying181 Tryz.underlying5 hown 9 Tryz.underlying9
        clear hSn
        go_wp2_with fail
        go_returns
        refine ⟨?_, hbel⟩
        rw [HR.out]
        first | rfl | exact rfl
      | false =>
        have hSn : ¬ S = name := of_decide_eq_false HYD.out.symm
        have HG : Hid (Lx.bodyL name tb (L.drop (i + 1)) (acc ++ S ++ [10]) (i + 1) = RES) := by show _ = _; rw [← HB.out, body_go2 HXE.out (by rw [hS.out]; exact hSn), hS.out]
        have hal : acc.length ≤ 350005000 := by
          have h1 := HA.out
          have h2 : i * 70001 ≤ 5000 * 70001 := Nat.mul_le_mul_right _ (by omega)
          omega
        have HA2 : Hid ((acc ++ S ++ [10]).length ≤ (i + 1) * 70001) := Lib.hid (by
          have h1 := HA.out
          rw [List.length_append, List.length_append, List.length_singleton, Nat.add_mul, Nat.one_mul]
          omega)
        have HZ := Lib.hid (bs_size S)
        have hzS : (bs S).size ≤ 70000 := by rw [HZ.out]; exact hSl
        clear hSn HB HA
        have HO : Hid (wr.ownsRow w.heap.size 5 1 _ (acc ++ S.take 0).length (bc (acc ++ S.take 0))) := Lib.hid (by rw [List.take_zero, List.append_nil]; exact hown)
        clear hown
        go_wp2_with fail
        go_loopw [11, 13] (fun t11 t13 wx => ∃ k : Nat, k ≤ (bs S).size ∧ t13 = .int .i64 (k : Int) ∧ wx.ownsRow w.heap.size 5 1 t11 (acc ++ S.take k).length (bc (acc ++ S.take k)) ∧ Below w.heap.size w wx) (fun _ t13 _ => (bs S).size - (intOf t13).toNat)
        case atStart => exact ⟨0, by omega, rfl, HO.out, hbel⟩
        case round =>
          clear HO hbel
          rename World => wx
          obtain ⟨k, hk, rfl, hown, hbel⟩ := hrel
          have k0 : (0 : Int) ≤ (k : Int) := by omega
          have hsz := hbel.size
          have hlen : (acc ++ S.take k).length ≤ 350100000 := by
            have := HZ.out
            rw [List.length_append, List.length_take]; omega
          rcases Nat.lt_or_ge k (bs S).size with hkn | hkn
          · have m0 : decide ((k : Int) < ((bs S).size : Int)) = true := by rw [decide_eq_true_eq]; omega
            have m1 : (k : Int) < ((bs S).size : Int) := by omega
            have hkS : k < S.length := by rw [← HZ.out]; exact hkn
            obtain ⟨d, hd⟩ : ∃ d, (bs S)[k]'hkn = d := ⟨_, rfl⟩
            have hby : d.toNat < 256 := UInt8.toNat_lt _
            have htk : acc ++ S.take (k + 1) = (acc ++ S.take k) ++ [d] := by
              rw [List.take_succ_eq_append_getElem hkS, List.append_assoc, ← hd]; rfl
            have HTK := Lib.hid htk
            obtain ⟨o1, ho1⟩ : ∃ o1, acc ++ S.take k = o1 := ⟨_, rfl⟩
            rw [ho1] at hown hlen
            have HO1 := Lib.hid ho1
            clear htk hkS ho1
            go_wp2_with (at_builtin; refine wpList_app rfl _ _ _ rfl byteSliceU _ _ _ _ rfl (hown.alloc _) _ _ _ _ rfl rfl (news_alloc _ _ _) (one_of_all rfl) (by omega) (by omega) (hbel.alloc hsz _) (by simp; omega) ?_; intro v1 w1 hown1 hb1 hg1 hat1)
            go_roundw
            case rel =>
              refine ⟨k + 1, by omega, by go_num, ?_, hb1⟩
              rw [HTK.out, HO1.out, bc_append, List.length_append]
              exact hown1
            case measure => simp [intOf]; omega
          · have m0 : decide ((k : Int) < ((bs S).size : Int)) = false := by rw [decide_eq_false_iff_not]; omega
            have htk : acc ++ S.take k = acc ++ S := by rw [List.take_of_length_le (by rw [← HZ.out]; exact hkn)]
            rw [htk] at hown hlen
            obtain ⟨o1, ho1⟩ : ∃ o1, acc ++ S = o1 := ⟨_, rfl⟩
            rw [ho1] at hown hlen HG HA2
            clear htk ho1
            go_wp2_with (at_builtin; refine wpList_app rfl _ _ _ rfl byteSliceU _ _ _ _ rfl (hown.alloc _) _ _ _ _ rfl rfl (news_alloc _ _ _) (one_of_all rfl) (by omega) (by omega) (hbel.alloc hsz _) (by simp; omega) ?_; intro v1 w1 hown1 hb1 hg1 hat1)
            go_roundw
            case rel =>
              refine ⟨i + 1, o1 ++ [10], by omega, by go_num, HG, HA2, ?_, hb1⟩
              rw [bc_append, List.length_append]
              exact hown1
            case measure => simp [intOf]; omega
    · have i0 : decide ((i : Int) < (N : Int)) = false := by rw [decide_eq_false_iff_not]; omega
      have HR : Hid (RES = none) := by show _ = _; rw [← HB.out, body_end2 (by rw [HN.out]; exact hin)]
      go_wp2_with fail
      go_returns
      refine ⟨?_, hbel⟩
      rw [HR.out]
      exact ⟨_, rfl⟩
end Go.Proofs.YtpgnfianffjpnaaGreatDoor
namespace Go.Proofs.YtpgnfianffjpnaaGreatDoor
open Go Go.RowKit
theorem RdRow.word {w : World} {v : Value} {l : List Lx.Wd} (h : RdRow w v l.length (wdC l)) (j : Nat) (hj : j < l.length) : ∃ b o c, v = .slice (some ⟨b, o, none⟩) l.length c ∧ w.cell? ⟨b, o + j * 2, none⟩ = some (.int .i64 (l[j].at_ : Int)) ∧ w.cell? ⟨b, o + j * 2 + 1, none⟩ = some (.string (bs l[j].raw)) := by
  obtain ⟨A, c, rfl, hc⟩ := h
  obtain ⟨h0, h1⟩ := wdC_get l j hj
  obtain ⟨b, o, rfl, d0⟩ := hc _ _ h0
  obtain ⟨b', o', e, d1⟩ := hc _ _ h1
  injection e with e; injection e with e1 e2
  subst e1 e2
  exact ⟨b, o, c, rfl, d0, by rw [Nat.add_assoc]; exact d1⟩
theorem cell_new2 {w w' : World} {b o : Nat} {v : Value} (k : Below w.heap.size w w') (h : w.cell? ⟨b, o, none⟩ = some v) : w'.cell? ⟨b, o, none⟩ = some v := by
  rw [← h]; exact k.cell (p := ⟨b, o, none⟩) (World.block_lt_of_cell? w _ h)
/-- what Docs answers. -/
def DocsAns14 (w w' : World) (RES : Lx.Err ⊕ (List Lx.Dc × Nat)) (r : Ending) : Prop := match RES with
  | .inl (no, l, a) => ∃ z : Int, r = .returned (.tuple #[.slice none 0 0, .int .i64 z, .int .i64 (no : Int), .int .i64 l, .int .i64 a])
  | .inr (ds, m) => ∃ v, r = .returned (.tuple #[v, .int .i64 (m : Int), .int .i64 0, .int .i64 0, .int .i64 0]) ∧ w'.ownsRow w.heap.size 83 4 v ds.length (dcC ds)
theorem isDoc_short {raw : List UInt8} (h : raw.length < 2) : Lx.isDoc raw = false := by
  cases hd : Lx.isDoc raw with
  | false => rfl
  | true => have := isDoc_len hd; omega
theorem isDoc_take {raw : List UInt8} (h : 2 ≤ raw.length) : Lx.isDoc raw = ((bs (raw.take 2)).toList == [60, 60]) := by
  rw [toList_bs]
  match raw, h with
  | a :: b :: r, _ =>
    show ([60, 60] : List UInt8).isPrefixOf (a :: b :: r) = ([a, b] == [60, 60])
    rw [Bool.eq_iff_iff]
    simp [List.isPrefixOf]
    constructor
    · rintro ⟨rfl, rfl⟩; exact ⟨rfl, rfl⟩
    · rintro ⟨rfl, rfl⟩; exact ⟨rfl, rfl⟩
set_option maxRecDepth 100000 in
set_option maxHeartbeats 8000000 in
theorem docs14_any (w : World) {A : Option Addr} {c : Nat} {L : List (List UInt8)} (hr : Ls w A L) (q : Nat) (hq : q ≤ L.length) (hL : L.length ≤ 5000) (hx : Hid (∀ x ∈ L, x.length ≤ 70000)) (e : UInt8) (ln : Lx.Ln) (am ad : Option Addr) (cm nd cd : Nat)
    (hm : RdRow w (.slice am ln.marks.length cm) ln.marks.length (mkC ln.marks)) (ht : ln.text.length ≤ 1000000) (hn : ln.marks.length ≤ 1000000) {RES : Lx.Err ⊕ (List Lx.Dc × Nat)} (H : Hid (Lx.docsL e L ln q = RES)) :
    Calls Tryz.prog 35 #[.slice A L.length c, .agg #[.int .i64 ln.line, .string (bs ln.text), .slice am ln.marks.length cm, .slice ad nd cd], .int .i64 (q : Int), .int .u8 (e.toNat : Int)] w fun r w' => DocsAns14 w w' RES r ∧ Below w.heap.size w w' := by
  obtain ⟨N, hN⟩ : ∃ N, L.length = N := ⟨_, rfl⟩
  have HN := Lib.hid hN
  have hNle : N ≤ 5000 := by rw [← hN]; exact hL
  have hqN : q ≤ N := by rw [← hN]; exact hq
  obtain ⟨cells, hcells⟩ : ∃ cells : Array Value, #[.int .i64 ln.line, .string (bs ln.text), .slice am ln.marks.length cm, .slice ad nd cd] = cells := ⟨_, rfl⟩
  have hB0 := (Below.refl w.heap.size w).alloc (Nat.le_refl _) (.cells #[.int .i64 ln.line, .string (bs ln.text), .slice am ln.marks.length cm, .slice ad nd cd] 64)
  have hK0 := Blk.new w 64 #[.int .i64 ln.line, .string (bs ln.text), .slice am ln.marks.length cm, .slice ad nd cd]
  obtain ⟨w0, hw0⟩ : ∃ w0, w.alloc (.cells #[.int .i64 ln.line, .string (bs ln.text), .slice am ln.marks.length cm, .slice ad nd cd] 64) = w0 := ⟨_, rfl⟩
  rw [hw0] at hB0 hK0
  have HW0 := Lib.hid hw0
  have HB0 := Lib.hid hB0
  have HK0 := Lib.hid hK0
  have HLS := Lib.hid (hr.below hB0 (Nat.le_refl _))
  have HMR := Lib.hid (hm.new hB0)
  obtain ⟨cp, hcp⟩ : ∃ b, Hid (Lx.copL ln.text = b) := ⟨_, Lib.hid rfl⟩
  have ht2 : ln.text.length ≤ 2000000 := by omega
  have hbe : e.toNat < 256 := UInt8.toNat_lt _
  rw [hN]
  clear hcells hB0 hK0 hw0 hN hr hm cells hq hL
  go_enter Tryz.func35, Tryz.ntmps35
  go_upto_region 1 with fail
  rw [HW0.out]
  have k1 : w0.cell? ⟨w.heap.size, 1, none⟩ = some (.string (bs ln.text)) := HK0.out.cell 1
  go_wp2_with fail
  refine (copies14_any ln.text ht2 _ hcp).mono ?_
  rintro r w1 ⟨rfl, p1⟩
  have HB1 := Lib.hid (below_of_below HB0.out p1 HB0.out.size)
  have HK1 := Lib.hid (HK0.out.below p1 HK0.out.lt)
  have HLS1 := Lib.hid (HLS.out.below p1 (Nat.le_refl _))
  have HMR1 := Lib.hid (HMR.out.new p1)
  clear p1 k1 HK0 HLS HMR
  cases cp with
  | false =>
    have HR : Hid (RES = .inr ([], q)) := by show _ = _; rw [← H.out, Lx.docsL, hcp.out, if_neg (by simp)]
    go_wp2_with fail
    go_returns
    refine ⟨?_, HB1.out⟩
    rw [HR.out]
    exact ⟨_, rfl, World.ownsRow_nil _ _ _ _⟩
  | true =>
    obtain ⟨WR, hWR⟩ : ∃ r, Hid (Lx.wordsL ln.text e = r) := ⟨_, Lib.hid rfl⟩
    have k1 : w1.cell? ⟨w.heap.size, 1, none⟩ = some (.string (bs ln.text)) := HK1.out.cell 1
    go_wp2_with fail
    refine (split13_any ln.text ht2 e _ hWR).mono ?_
    rintro r w2 ⟨hWA, p2⟩
    have HB2 := Lib.hid (below_of_below HB1.out p2 HB1.out.size)
    have HK2 := Lib.hid (HK1.out.below p2 HK1.out.lt)
    have HLS2 := Lib.hid (HLS1.out.below p2 (Nat.le_refl _))
    have HMR2 := Lib.hid (HMR1.out.new p2)
    have hsz1 := HB1.out.size
    clear p2 k1 HK1 HLS1 HMR1
    cases WR with
    | inl z =>
      have hr : r = .returned (.tuple #[.slice none 0 0, .int .i64 18, .int .i64 (z : Int)]) := hWA
      subst hr
      obtain ⟨P, hP⟩ : ∃ P, Hid (Lx.placeL ln (z : Int) = P) := ⟨_, Lib.hid rfl⟩
      have HR : Hid (RES = .inl (18, P.1, P.2)) := by show _ = _; rw [← H.out, Lx.docsL, hcp.out, if_pos rfl, hWR.out, ← hP.out]; rfl
      have d0 : w2.cell? ⟨w.heap.size, 0, none⟩ = some (.int .i64 ln.line) := HK2.out.cell 0
      have d1 : w2.cell? ⟨w.heap.size, 1, none⟩ = some (.string (bs ln.text)) := HK2.out.cell 1
      have d2 : w2.cell? ⟨w.heap.size, 2, none⟩ = some (.slice am ln.marks.length cm) := HK2.out.cell 2
      have d3 : w2.cell? ⟨w.heap.size, 3, none⟩ = some (.slice ad nd cd) := HK2.out.cell 3
      clear hWA H
      go_wp2_with fail
      have hcall := place14_any ln (.slice am ln.marks.length cm) (.slice ad nd cd) (z : Int) w2 HMR2.out (by omega) hn hP
      refine hcall.mono ?_
      rintro r w3 ⟨rfl, p3⟩
      have HB3 := Lib.hid (below_of_below HB2.out p3 HB2.out.size)
      clear p3 d0 d1 d2 d3 hcall
      go_wp2_with fail
      go_returns
      refine ⟨?_, HB3.out⟩
      rw [HR.out]
      exact ⟨_, rfl⟩
    | inr ws =>
      obtain ⟨vw, hr, howw⟩ := hWA
      subst hr
      obtain ⟨Aw, cw, rfl⟩ := ownk_form howw
      have HWW := Lib.hid (own_base howw hsz1)
      have HWL := Lib.hid (Lx.words_at hWR.out)
      obtain ⟨W, hW⟩ : ∃ W, ws.length = W := ⟨_, rfl⟩
      have HW := Lib.hid hW
      have hWle : W ≤ 1000001 := by have := Lx.words_count hWR.out; omega
      have HD0 : Hid (Lx.docsW L ln (ws.drop 1) q [] = RES) := by show _ = _; rw [← H.out, Lx.docsL, hcp.out, if_pos rfl, hWR.out, List.drop_one]
      rw [hW]
      clear howw hW H hWR
      go_wp2_with fail
      go_loopw [2, 18, 19, 20, 21, 22, 23, 24, 25, 26, 27, 28] (fun t2 t18 t19 _ _ _ _ _ _ _ _ _ wr => ∃ (k j : Nat) (ds : List Lx.Dc), 1 ≤ k ∧ t19 = .int .i64 (k : Int) ∧ t2 = .int .i64 (j : Int) ∧ j ≤ N ∧ ds.length ≤ k ∧ k ≤ 1000001 ∧ Hid (Lx.docsW L ln (ws.drop k) j ds = RES) ∧ Hid (Below w2.heap.size w2 wr) ∧ wr.ownsRow w2.heap.size 83 4 t18 ds.length (dcC ds)) (fun _ _ t19 _ _ _ _ _ _ _ _ _ _ => W - (intOf t19).toNat)
      case atStart => exact ⟨1, q, [], by omega, rfl, rfl, hqN, by simp, by omega, HD0, Lib.hid (Below.refl _ _), World.ownsRow_nil _ _ _ _⟩
      case round =>
        clear HD0
        rename World => wr
        obtain ⟨k, j, ds, hk1, rfl, rfl, hj, hdl, hk2, HD, HB, hown⟩ := hrel
        obtain ⟨VA, vc, rfl⟩ := ownk_form hown
        have k0 : (0 : Int) ≤ (k : Int) := by omega
        have j0 : (0 : Int) ≤ (j : Int) := by omega
        rcases Nat.lt_or_ge k W with hkn | hkn
        · have m0 : decide ((k : Int) < (W : Int)) = true := by rw [decide_eq_true_eq]; omega
          have m1 : (k : Int) < (W : Int) := by omega
          have hkl : k < ws.length := by rw [HW.out]; exact hkn
          have hrdw := (RdRow.own HWW.out).new HB.out
          obtain ⟨gw, ow, cw', hve, y0, y1⟩ := hrdw.word k hkl
          injection hve with e1 _ e3
          subst e1
          obtain ⟨x, hxx⟩ : ∃ x, ws[k] = x := ⟨_, rfl⟩
          have hxr : x.raw.length ≤ 1000000 := by have := (HWL.out x (by rw [← hxx]; exact List.getElem_mem hkl)).2; omega
          have hdrop : ws.drop k = x :: ws.drop (k + 1) := by rw [List.drop_eq_getElem_cons hkl, hxx]
          have hD := HD.out
          rw [hdrop] at hD
          have HD2 := Lib.hid hD
          rw [hxx] at y0 y1
          obtain ⟨db, hdb⟩ : ∃ b, Hid (Lx.isDoc x.raw = b) := ⟨_, Lib.hid rfl⟩
          have HOWN := Lib.hid hown
          have HZ := Lib.hid (bs_size x.raw)
          have hzr : (bs x.raw).size ≤ 1000000 := by rw [HZ.out]; exact hxr
          clear hdrop hD HD hrdw hxx hkl e3 hown
          go_upto_region 12 with fail
          go_cut [72] (fun s72 wx => s72 = .bool (!db) ∧ wr = wx)
          case first =>
            rcases Nat.lt_or_ge (bs x.raw).size 2 with hs2 | hs2
            · have z1 : decide (((bs x.raw).size : Int) < 2) = true := by rw [decide_eq_true_eq]; omega
              have HF : Hid (db = false) := by show _ = _; rw [← hdb.out]; exact isDoc_short (by rw [← HZ.out]; exact hs2)
              clear hs2
              go_wp2_with fail
              go_meet
              exact ⟨by rw [HF.out]; first | rfl | trivial, by first | rfl | trivial⟩
            · have z1 : decide (((bs x.raw).size : Int) < 2) = false := by rw [decide_eq_false_iff_not]; omega
              have hsl := slice_to x.raw 2 2 rfl (by rw [← HZ.out]; exact hs2)
              have hit := isDoc_take (raw := x.raw) (by rw [← HZ.out]; exact hs2)
              rw [hdb.out] at hit
              obtain ⟨T2, hT2⟩ : ∃ T2, bs (x.raw.take 2) = T2 := ⟨_, rfl⟩
              rw [hT2] at hsl hit
              have z2 := hit.symm
              clear hT2 hit hs2
              cases db <;> (
                go_wp2_with fail
                go_meet
                exact ⟨by first | rfl | trivial, by first | rfl | trivial⟩)
          case rest =>
            obtain ⟨rfl, rfl⟩ := hcut
            clear y1
            cases db with
            | false =>
              have HN2 : Hid (Lx.docsW L ln (ws.drop (k + 1)) j ds = RES) := by show _ = _; rw [← HD2.out, docsW_skip hdb.out]
              clear HD2 y0
              go_wp2_with fail
              go_roundw
              case rel => exact ⟨k + 1, j, ds, by omega, by go_num, by first | rfl | trivial, hj, by omega, by omega, HN2, HB, HOWN.out⟩
              case measure => simp [intOf]; omega
            | true =>
              have h2l := isDoc_len hdb.out
              obtain ⟨P, hP⟩ : ∃ P, Hid (Lx.placeL ln (x.at_ : Int) = P) := ⟨_, Lib.hid rfl⟩
              have HKR := Lib.hid (HK2.out.below HB.out HK2.out.lt)
              have HMRR := Lib.hid (HMR2.out.new HB.out)
              have d0 : wr.cell? ⟨w.heap.size, 0, none⟩ = some (.int .i64 ln.line) := HKR.out.cell 0
              have d1 : wr.cell? ⟨w.heap.size, 1, none⟩ = some (.string (bs ln.text)) := HKR.out.cell 1
              have d2 : wr.cell? ⟨w.heap.size, 2, none⟩ = some (.slice am ln.marks.length cm) := HKR.out.cell 2
              have d3 : wr.cell? ⟨w.heap.size, 3, none⟩ = some (.slice ad nd cd) := HKR.out.cell 3
              go_upto_region 13 with fail
              go_cut [21, 22] (fun s21 s22 wx => s21 = .int .i64 P.1 ∧ s22 = .int .i64 P.2 ∧ Below wr.heap.size wr wx)
              case first =>
                go_region_held3 (fun w' => w'.cell? ⟨w.heap.size, 0, none⟩ = some (.int .i64 ln.line) ∧ w'.cell? ⟨w.heap.size, 1, none⟩ = some (.string (bs ln.text)) ∧ w'.cell? ⟨w.heap.size, 2, none⟩ = some (.slice am ln.marks.length cm) ∧ w'.cell? ⟨w.heap.size, 3, none⟩ = some (.slice ad nd cd) ∧ w'.cell? ⟨gw, ow + k * 2, none⟩ = some (.int .i64 (x.at_ : Int))) (exact ⟨d0, d1, d2, d3, y0⟩) ((go_at_call 16; refine (place14_any ln (.slice am ln.marks.length cm) _ _ _ (HMRR.out.new (Below.refl _ _).drew) (by omega) hn hP).mono ?_; rintro r w11 ⟨rfl, b11⟩; have b11' : Below wr.heap.size wr w11 := (Below.refl _ _).drew.trans b11; have hK11 := HKR.out.below b11' HKR.out.lt; have y0' := y0; have d0 : w11.cell? ⟨w.heap.size, 0, none⟩ = some (.int .i64 ln.line) := hK11.cell 0; have d1 : w11.cell? ⟨w.heap.size, 1, none⟩ = some (.string (bs ln.text)) := hK11.cell 1; have d2 : w11.cell? ⟨w.heap.size, 2, none⟩ = some (.slice am ln.marks.length cm) := hK11.cell 2; have d3 : w11.cell? ⟨w.heap.size, 3, none⟩ = some (.slice ad nd cd) := hK11.cell 3; have y0 : w11.cell? ⟨gw, ow + k * 2, none⟩ = some (.int .i64 (x.at_ : Int)) := cell_new2 b11' y0'; clear hK11 y0'))
                go_wp2_with fail
                go_meet
                exact ⟨rfl, rfl, b11'⟩
              case rest =>
                rename World => w3
                obtain ⟨rfl, rfl, b3⟩ := hcut
                have HB3 := Lib.hid (below_of_below HB.out b3 HB.out.size)
                have HO3 := Lib.hid (own_below HOWN.out b3)
                clear d0 d1 d2 d3 y0 b3 HKR HMRR HOWN
                obtain ⟨n, hnm⟩ : ∃ n, Hid (Lx.openName x.raw = n) := ⟨_, Lib.hid rfl⟩
                obtain ⟨qu, hqu⟩ : ∃ q, Hid (Lx.openRaw x.raw = q) := ⟨_, Lib.hid rfl⟩
                obtain ⟨tb, htb⟩ : ∃ t, Hid (Lx.openTabs x.raw = t) := ⟨_, Lib.hid rfl⟩
                obtain ⟨ok, hok⟩ : ∃ b, Hid (Lx.nameOk n = b) := ⟨_, Lib.hid rfl⟩
                go_wp2_with fail
                refine (opening14_any x.raw (by omega) h2l _ hnm hqu htb hok).mono ?_
                rintro r w4 ⟨rfl, b4⟩
                have HB4 := Lib.hid (below_of_below HB3.out b4 HB3.out.size)
                have HO4 := Lib.hid (own_below HO3.out b4)
                clear b4 HB3 HO3
                cases ok with
                | false =>
                  have HR : Hid (RES = .inl (26, P.1, P.2)) := by show _ = _; rw [← HD2.out, docsW_name hdb.out (by rw [hnm.out]; exact hok.out), hP.out]; rfl
                  go_wp2_with fail
                  go_returns
                  refine ⟨?_, below_of_below HB2.out HB4.out HB2.out.size⟩
                  rw [HR.out]
                  exact ⟨_, rfl⟩
                | true =>
                  obtain ⟨BR, hBR⟩ : ∃ b, Hid (Lx.bodyL n tb (L.drop j) [] j = b) := ⟨_, Lib.hid rfl⟩
                  have HLS4 := Lib.hid (HLS2.out.below HB4.out (Nat.le_refl _))
                  go_wp2_with fail
                  have hcall := body14_any w4 (c := c) HLS4.out j (by rw [HN.out]; exact hj) (by rw [HN.out]; exact hNle) hx n tb hBR
                  rw [HN.out] at hcall
                  refine hcall.mono ?_
                  rintro r w5 ⟨hBA, b5⟩
                  have HB5 := Lib.hid (below_of_below HB4.out b5 HB4.out.size)
                  have HO5 := Lib.hid (own_below HO4.out b5)
                  clear b5 HO4 hcall HLS4
                  cases BR with
                  | none =>
                    obtain ⟨zz, hr⟩ := hBA
                    subst hr
                    have HR : Hid (RES = .inl (26, P.1, P.2)) := by show _ = _; rw [← HD2.out, docsW_end hdb.out (by rw [hnm.out]; exact hok.out) (by rw [hnm.out, htb.out]; exact hBR.out), hP.out]; rfl
                    go_wp2_with fail
                    go_returns
                    refine ⟨?_, below_of_below HB2.out HB5.out HB2.out.size⟩
                    rw [HR.out]
                    exact ⟨_, rfl⟩
                  | some tm =>
                    obtain ⟨t, m⟩ := tm
                    have hr : r = .returned (.tuple #[.string (bs t), .int .i64 (m : Int), .bool true]) := hBA
                    subst hr
                    have hble := Lx.bodyL_le _ _ _ _ _ hBR.out
                    rw [List.length_drop, HN.out] at hble
                    have hmN : m ≤ N := by omega
                    have HN2 : Hid (Lx.docsW L ln (ws.drop (k + 1)) m (ds ++ [⟨n, qu, (j : Int) + 1, t⟩]) = RES) := by
                      show _ = _
                      rw [← HD2.out, docsW_doc hdb.out (by rw [hnm.out]; exact hok.out) (by rw [hnm.out, htb.out]; exact hBR.out), hnm.out, hqu.out]
                    have hown := HO5.out
                    have hbel := HB5.out
                    have hszw := HB5.out.size
                    clear hBA hble HD2 HB4
                    go_wp2_with (at_builtin; refine wpList_appk rfl _ _ _ rfl docK _ _ _ _ rfl (hown.alloc _) _ _ _ _ rfl rfl (news_at _ _ (by simp) _ _) (by simp [Value.oneCell']) (by omega) (by omega) (hbel.alloc hszw _) (by simp; omega) ?_; intro v1 w9 ho1 hb1 hg1 hat1)
                    go_roundw
                    case rel => exact ⟨k + 1, m, ds ++ [⟨n, qu, (j : Int) + 1, t⟩], by omega, by go_num, by first | rfl | trivial, hmN, by rw [List.length_append, List.length_singleton]; omega, by omega, HN2, Lib.hid hb1, by rw [dcC_snoc, List.length_append]; exact ho1⟩
                    case measure => simp [intOf]; omega
        · have m0 : decide ((k : Int) < (W : Int)) = false := by rw [decide_eq_false_iff_not]; omega
          have HR : Hid (RES = .inr (ds, j)) := by show _ = _; rw [← HD.out, List.drop_eq_nil_of_le (by rw [HW.out]; exact hkn), Lx.docsW]
          clear HD
          go_wp2_with fail
          go_returns
          refine ⟨?_, below_of_below HB2.out HB.out HB2.out.size⟩
          rw [HR.out]
          exact ⟨_, rfl, own_base hown (by have := HB2.out.size; omega)⟩
end Go.Proofs.YtpgnfianffjpnaaGreatDoor
