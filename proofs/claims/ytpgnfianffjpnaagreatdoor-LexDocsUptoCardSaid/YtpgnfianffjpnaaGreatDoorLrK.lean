/- strataref14.Opening, walked. -/
import Derived.Test.YtpgnfianffjpnaaGreatDoorLrE
namespace Go.Proofs.YtpgnfianffjpnaaGreatDoor
open Go Go.RowKit
set_option maxRecDepth 100000 in
set_option maxHeartbeats 4000000 in
theorem opening14_any (raw : List UInt8) (hs : raw.length ≤ 2000000) (h2 : 2 ≤ raw.length) (w : World) {N : List UInt8} {q t o : Bool} (hN : Hid (Lx.openName raw = N)) (hQ : Hid (Lx.openRaw raw = q)) (hT : Hid (Lx.openTabs raw = t)) (hO : Hid (Lx.nameOk N = o)) :
    Calls Tryz.prog 29 #[.string (bs raw)] w fun e w' => e = .returned (.tuple #[.string (bs N), .bool q, .bool t, .bool o]) ∧ Below w.heap.size w w' := by
  obtain ⟨S, hS⟩ : ∃ S, raw.drop 2 = S := ⟨_, rfl⟩
  have hsl := slice_from raw 2 2 rfl h2
  rw [hS] at hsl
  have hSl : S.length ≤ 2000000 := by rw [← hS, List.length_drop]; omega
  obtain ⟨nm, hnm⟩ : ∃ nm, Lib.trimPrefix S [45] = nm := ⟨_, rfl⟩
  have hTT : Hid (t = Lib.hasPrefix S [45]) := by show _ = _; rw [← hT.out, Lx.openTabs, hS]
  have hQQ : Hid (Lx.quotedB nm = q) := by show _ = _; rw [← hQ.out, Lx.openRaw, hS, hnm]
  have HON : Hid (N = if q then nm.tail.dropLast else nm) := by
    show _ = _
    rw [← hN.out, Lx.openName, hS, hnm, hQQ.out]
  have HNM := Lib.hid hnm
  have hlen : nm.length ≤ 2000000 := by
    have h := @hp_len S
    rw [hnm] at h
    omega
  have HZS := Lib.hid (bs_size S)
  have HZ := Lib.hid (bs_size nm)
  have hzle : (bs nm).size ≤ 2000000 := by rw [HZ.out]; exact hlen
  have hzs : (bs S).size ≤ 2000000 := by rw [HZS.out]; exact hSl
  have hnN : N.length ≤ 2000000 := by
    rw [HON.out]
    split
    · rw [List.length_dropLast, List.length_tail]; omega
    · exact hlen
  clear hS hnm hN hQ hT
  go_enter Tryz.func29, Tryz.ntmps29
  go_upto_region 2 with fail
  go_cut [7] (fun s7 wx => s7 = .bool t ∧ w = wx)
  case first =>
    cases S with
    | nil =>
      have HE : Hid (t = false) := by show _ = _; rw [hTT.out]; rfl
      have g0 : decide ((0 : Int) < ((bs ([] : List UInt8)).size : Int)) = false := by decide
      clear HON HNM hsl HZS hzs
      go_wp2_with fail
      go_meet
      exact ⟨by rw [HE.out], by first | rfl | trivial⟩
    | cons c r =>
      have hz1 : 0 < (bs (c :: r)).size := by rw [HZS.out]; simp
      have g0 : decide ((0 : Int) < ((bs (c :: r)).size : Int)) = true := by rw [decide_eq_true_eq]; omega
      have g1 : (0 : Int) < ((bs (c :: r)).size : Int) := by omega
      have hc0 : (bs (c :: r))[0]'hz1 = c := rfl
      have hby : c.toNat < 256 := UInt8.toNat_lt _
      obtain ⟨b, hb⟩ : ∃ b, ((c.toNat : Int) == 45) = b := ⟨_, rfl⟩
      have HE : Hid (t = b) := by
        show _ = _
        rw [hTT.out, ← hb, show (45 : Int) = ((45 : UInt8).toNat : Int) from rfl, u8_eq]
        simp [Lib.hasPrefix, List.isPrefixOf]
        rw [Bool.eq_iff_iff]
        simp
        exact eq_comm
      clear HON HNM hsl HZS hzs
      cases b <;> (
        go_wp2_with fail
        go_meet
        exact ⟨by rw [HE.out], by first | rfl | trivial⟩)
  case rest =>
    obtain ⟨rfl, rfl⟩ := hcut
    go_upto_if 20 with fail
    go_cut [6] (fun s6 wx => s6 = .string (bs nm) ∧ w = wx)
    case first =>
      cases t with
      | true =>
        have hp : Lib.hasPrefix S [45] = true := hTT.out.symm
        have hnmv : nm = S.drop 1 := by
          rw [← HNM.out, Lib.trimPrefix, if_pos hp]
          rfl
        have hS1 : 1 ≤ S.length := by
          cases S with
          | nil => cases hp
          | cons c r => simp
        have hsl1 := slice_from S 1 1 rfl hS1
        rw [← hnmv] at hsl1
        clear hp hnmv HNM
        go_wp2_with fail
        go_meet
        exact ⟨rfl, by first | rfl | trivial⟩
      | false =>
        have hp : Lib.hasPrefix S [45] = false := hTT.out.symm
        have hnmv : nm = S := by
          rw [← HNM.out, Lib.trimPrefix, hp]
          rfl
        subst hnmv
        clear hp HNM
        go_wp2_with fail
        go_meet
        exact ⟨rfl, by first | rfl | trivial⟩
    case rest =>
      obtain ⟨rfl, rfl⟩ := hcut
      go_upto_region 6 with fail
      go_cut [9] (fun s9 wx => s9 = .bool q ∧ ∃ n, wx = w.drewN n)
      case first =>
        clear HON
        rcases Nat.lt_or_ge (bs nm).size 2 with hl | hl
        · have HQ : Hid (q = false) := by show _ = _; rw [← hQQ.out, quoted_lt (by rw [← HZ.out]; exact hl)]
          have g0 : decide ((2 : Int) ≤ ((bs nm).size : Int)) = false := by rw [decide_eq_false_iff_not]; omega
          clear hl
          go_quiet (fail)
          go_wp2_with fail
          go_meet
          exact ⟨by rw [HQ.out], _, rfl⟩
        · have hl2 : 2 ≤ nm.length := by rw [← HZ.out]; exact hl
          have hq := quoted_ge hl2
          rw [hQQ.out] at hq
          have g0 : decide ((2 : Int) ≤ ((bs nm).size : Int)) = true := by rw [decide_eq_true_eq]; omega
          have g1 : 0 < (bs nm).size := by omega
          have g1i : (0 : Int) < ((bs nm).size : Int) := by omega
          obtain ⟨m, hm⟩ : ∃ m, (bs nm).size = m + 1 := ⟨(bs nm).size - 1, by omega⟩
          have hm2 : m < (bs nm).size := by omega
          have e1 : nm[0]'(by omega) = (bs nm)[0]'g1 := rfl
          have e2 : nm[nm.length - 1]'(by omega) = (bs nm)[m]'hm2 := by
            have : nm.length - 1 = m := by rw [← HZ.out, hm]; rfl
            simp only [this]
            rfl
          rw [e1, e2] at hq
          obtain ⟨a, ha⟩ : ∃ a, (bs nm)[0]'g1 = a := ⟨_, rfl⟩
          obtain ⟨z, hz⟩ : ∃ z, (bs nm)[m]'hm2 = z := ⟨_, rfl⟩
          rw [ha, hz] at hq
          have g3 : IntKind.i64.wrap (((bs nm).size : Int) - 1) = (m : Int) := by rw [IntWalk.i64_in _ (by omega)]; omega
          have g4 : (m : Int) < ((bs nm).size : Int) := by omega
          have g5 : (0 : Int) ≤ (m : Int) := by omega
          have q1 := u8_eq a 34
          have q2 := u8_eq a 39
          have q3 := u8_eq z a
          rw [show (((34 : UInt8).toNat : Nat) : Int) = 34 from rfl] at q1
          rw [show (((39 : UInt8).toNat : Nat) : Int) = 39 from rfl] at q2
          generalize decide (a = 34) = x1 at *
          generalize decide (a = 39) = x2 at *
          generalize decide (z = a) = x3 at *
          have HQ := Lib.hid hq
          have hby : a.toNat < 256 := UInt8.toNat_lt _
          have hby2 : z.toNat < 256 := UInt8.toNat_lt _
          clear hq hm e1 e2 hl hl2
          cases x1 <;> cases x2 <;> cases x3 <;> (
            go_quiet (fail)
            go_wp2_with fail
            go_meet
            exact ⟨by rw [HQ.out]; rfl, _, rfl⟩)
      case rest =>
        obtain ⟨rfl, n, hwx⟩ := hcut
        rw [hwx]
        clear hwx
        have hBd := below_drewN (Below.refl w.heap.size w) n
        obtain ⟨wd, hwd⟩ : ∃ wd, w.drewN n = wd := ⟨_, rfl⟩
        rw [hwd] at hBd
        rw [hwd]
        clear hwd
        go_upto_if 46 with fail
        go_cut [6] (fun s6 wx => s6 = .string (bs N) ∧ wd = wx)
        case first =>
          cases q with
          | true =>
            have hl2 : 2 ≤ nm.length := by
              rcases Nat.lt_or_ge nm.length 2 with h | h
              · exact absurd ((quoted_lt h).symm.trans hQQ.out) (by decide)
              · exact h
            have hsl2 := slice_bsi nm 1 (nm.length - 1) 1 (((bs nm).size : Int) - 1) rfl (by rw [HZ.out]; omega) (by omega) (by omega)
            rw [tail_dropLast] at hsl2
            have HE : Hid (N = nm.tail.dropLast) := by show _ = _; rw [HON.out]; rfl
            clear hl2 HON
            go_wp2_with fail
            go_meet
            exact ⟨by rw [HE.out], by first | rfl | trivial⟩
          | false =>
            have HE : Hid (N = nm) := by show _ = _; rw [HON.out]; rfl
            clear HON
            go_wp2_with fail
            go_meet
            exact ⟨by rw [HE.out], by first | rfl | trivial⟩
        case rest =>
          obtain ⟨rfl, rfl⟩ := hcut
          clear HON hsl
          go_wp2_with fail
          refine (isName14_any N hnN _ hO).mono ?_
          rintro e w1 ⟨rfl, rfl⟩
          go_wp2_with fail
          go_returns
          exact ⟨rfl, hBd⟩
end Go.Proofs.YtpgnfianffjpnaaGreatDoor
