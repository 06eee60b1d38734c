/- stratalaw14's single, begins, walked. -/
import Derived.Test.YtpgnfianffjpnaaGreatDoorLyJ
import Derived.Test.YtpgnfianffjpnaaGreatDoorLrC
namespace Go.Proofs.YtpgnfianffjpnaaGreatDoor
open Go Go.RowKit
namespace Lx
/-- what the loop of single has seen. -/
def seen (s : Bs) (i : Nat) : Prop := ∀ j, j < i → ∀ c, s[j]? = some c → c ≠ 10 ∧ c ≠ 13 ∧ (c = 60 → s[j + 1]? ≠ some 60)
theorem seen_next {s : Bs} {i : Nat} {c : UInt8} (h : seen s i) (hc : s[i]? = some c) (h1 : c ≠ 10) (h2 : c ≠ 13) (h3 : c = 60 → s[i + 1]? ≠ some 60) : seen s (i + 1) := fun j hj d hd => by
  rcases Nat.lt_or_ge j i with h4 | h4
  · exact h j h4 d hd
  · obtain rfl : j = i := by omega
    rw [hc] at hd
    injection hd with hd
    subst hd
    exact ⟨h1, h2, h3⟩
end Lx
set_option maxRecDepth 100000 in
set_option maxHeartbeats 4000000 in
theorem single_any (s : List UInt8) (hs : s.length ≤ 2000000) (w : World) : Calls Tryz.prog 26 #[.string (bs s)] w fun e w' => (∃ b, e = .returned (.bool b) ∧ (b = true → Lx.Single s)) ∧ w = w' := by
  have hz := bs_size s
  obtain ⟨b0, e0⟩ : ∃ b, (bs s).toList.isEmpty = b := ⟨_, rfl⟩
  obtain ⟨b1, e1⟩ : ∃ b, decide ((60000 : Int) < ((bs s).size : Int)) = b := ⟨_, rfl⟩
  have hb0 : b0 = s.isEmpty := by rw [← e0, toList_bs]
  cases b0 with
  | true =>
    clear hb0 hz
    go_enter Tryz.func26, Tryz.ntmps26
    go_wp2_with fail
    go_ret
    exact ⟨⟨false, rfl, fun h => by cases h⟩, rfl⟩
  | false =>
    cases b1 with
    | true =>
      clear hb0 hz
      go_enter Tryz.func26, Tryz.ntmps26
      go_wp2_with fail
      go_ret
      exact ⟨⟨false, rfl, fun h => by cases h⟩, rfl⟩
    | false =>
      have hlen : (bs s).size ≤ 60000 := by rw [decide_eq_false_iff_not] at e1; omega
      obtain ⟨c, r, hcr⟩ : ∃ c r, s = c :: r := by
        cases s with
        | nil => simp at hb0
        | cons c r => exact ⟨c, r, rfl⟩
      have hpos : 0 < (bs s).size := by rw [hz, hcr]; simp
      have hposi : (0 : Int) < ((bs s).size : Int) := by omega
      have hc0 : (bs s)[0]'hpos = c := get_of (s := s) (k := 0) (by rw [hcr]; rfl) hpos
      have hby : c.toNat < 256 := UInt8.toNat_lt _
      obtain ⟨b2, hb2⟩ : ∃ b, Hid (Lx.blank c = b) := ⟨_, Lib.hid rfl⟩
      obtain ⟨b3, e3⟩ : ∃ b, ((c.toNat : Int) == 35) = b := ⟨_, rfl⟩
      have hb3 : b3 = decide (c = 35) := by rw [← e3]; exact u8_eq c 35
      cases b2 with
      | true =>
        clear hb0 hz hb3 hcr
        go_enter Tryz.func26, Tryz.ntmps26
        go_wp2_with fail
        refine (blank13_any _ _ hb2).mono ?_
        rintro e w1 ⟨rfl, rfl⟩
        go_wp2_with fail
        go_ret
        exact ⟨⟨false, rfl, fun h => by cases h⟩, rfl⟩
      | false =>
        cases b3 with
        | true =>
          clear hb0 hz hb3 hcr
          go_enter Tryz.func26, Tryz.ntmps26
          go_wp2_with fail
          refine (blank13_any _ _ hb2).mono ?_
          rintro e w1 ⟨rfl, rfl⟩
          go_wp2_with fail
          go_ret
          exact ⟨⟨false, rfl, fun h => by cases h⟩, rfl⟩
        | false =>
          have hc35 : c ≠ 35 := by simpa using hb3.symm
          have hhead : ∃ c r, s = c :: r ∧ Lx.blank c = false ∧ c ≠ 35 := ⟨c, r, hcr, hb2.out, hc35⟩
          have hlft : Gl.lft s = c :: r := by rw [hcr]; exact Lx.lft_in r hb2.out
          have hrg : 0 < (Lx.rgt s).length := by have := (Lx.lft_head hlft).rgt; omega
          have hrl := Lx.trimR_le s Gl.bls
          obtain ⟨m, hm⟩ : ∃ m, (Lx.rgt s).length = m + 1 := ⟨(Lx.rgt s).length - 1, by omega⟩
          have hms : m < (bs s).size := by rw [hz]; have : (Lx.rgt s).length ≤ s.length := hrl; omega
          have HLast : Hid (Lx.lastI s = (m : Int)) := by show _ = _; rw [Lx.lastI, hm]; omega
          obtain ⟨z, hzm⟩ : ∃ z, (bs s)[m]'hms = z := ⟨_, rfl⟩
          have hzs : s[m]? = some z := by rw [← hzm]; exact bs_at s m hms
          have hlast : (Lx.rgt s).getLast? = some z := by
            obtain ⟨b, hb, _⟩ := Lx.rgt_split s
            rw [List.getLast?_eq_getElem?, hm, show m + 1 - 1 = m by omega]
            have e5 : s[m]? = (Lx.rgt s ++ b)[m]? := congrArg (fun l : List UInt8 => l[m]?) hb
            rw [List.getElem?_append_left (by omega), hzs] at e5
            exact e5.symm
          have hmi : (m : Int) < ((bs s).size : Int) := by omega
          have hm0 : (0 : Int) ≤ (m : Int) := by omega
          obtain ⟨b9, e9⟩ : ∃ b, ((z.toNat : Int) != 92) = b := ⟨_, rfl⟩
          have hb9 : b9 = true → (Lx.rgt s).getLast? ≠ some 92 := fun h e => by
            rw [hlast] at e
            injection e with e
            subst e
            rw [← e9] at h
            cases h
          have hzby : z.toNat < 256 := UInt8.toNat_lt _
          have HEND : Hid (Lx.seen s (bs s).size → b9 = true → Lx.Single s) := Lib.hid fun h h9 =>
            ⟨by omega, hhead, fun c hc => by
              obtain ⟨j, hj, rfl⟩ := List.getElem_of_mem hc
              exact (h j (by omega) _ (List.getElem?_eq_getElem hj)).1, fun c hc => by
              obtain ⟨j, hj, rfl⟩ := List.getElem_of_mem hc
              exact (h j (by omega) _ (List.getElem?_eq_getElem hj)).2.1, fun i hi => (h i (by have := (List.getElem?_eq_some_iff.1 hi).1; omega) _ hi).2.2 rfl, hb9 h9⟩
          have HS0 : Hid (Lx.seen s 0) := Lib.hid fun j hj => absurd hj (by omega)
          have HC0 := Lib.hid hc0
          have HZM := Lib.hid hzm
          clear hb0 hz hb3 hcr hc35 hhead hlft hrg hrl hm hzs hlast hb9 hc0 hzm
          go_enter Tryz.func26, Tryz.ntmps26
          go_wp2_with fail
          rw [HC0.out]
          refine (blank13_any _ _ hb2).mono ?_
          rintro e w1 ⟨rfl, rfl⟩
          have hc0 := HC0.out
          go_wp2_with fail
          clear hc0
          go_loopw [3] (fun t3 wr => ∃ i : Nat, i ≤ (bs s).size ∧ t3 = .int .i64 (i : Int) ∧ Hid (Lx.seen s i) ∧ w = wr) (fun t3 _ => (bs s).size - (intOf t3).toNat)
          case atStart => exact ⟨0, by omega, rfl, HS0, by first | rfl | trivial⟩
          case round =>
            clear HS0
            obtain ⟨i, hi, rfl, HS, rfl⟩ := hrel
            have j0 : (0 : Int) ≤ (i : Int) := by omega
            rcases Nat.lt_or_ge i (bs s).size with hin | hin
            · have i0 : decide ((i : Int) < ((bs s).size : Int)) = true := by rw [decide_eq_true_eq]; omega
              have i1 : (i : Int) < ((bs s).size : Int) := by omega
              obtain ⟨d, hd⟩ : ∃ d, (bs s)[i]'hin = d := ⟨_, rfl⟩
              have hds : s[i]? = some d := by rw [← hd]; exact bs_at s i hin
              have hdb : d.toNat < 256 := UInt8.toNat_lt _
              obtain ⟨p1, f1⟩ : ∃ b, ((d.toNat : Int) == 10) = b := ⟨_, rfl⟩
              obtain ⟨p2, f2⟩ : ∃ b, ((d.toNat : Int) == 13) = b := ⟨_, rfl⟩
              obtain ⟨p3, f3⟩ : ∃ b, ((d.toNat : Int) == 60) = b := ⟨_, rfl⟩
              have g1 : p1 = decide (d = 10) := by rw [← f1]; exact u8_eq d 10
              have g2 : p2 = decide (d = 13) := by rw [← f2]; exact u8_eq d 13
              have g3 : p3 = decide (d = 60) := by rw [← f3]; exact u8_eq d 60
              rcases Nat.lt_or_ge (i + 1) (bs s).size with hn | hn
              · have n0 : decide ((i : Int) + 1 < ((bs s).size : Int)) = true := by rw [decide_eq_true_eq]; omega
                have n1 : (i : Int) + 1 < ((bs s).size : Int) := by omega
                have n2 : (0 : Int) ≤ (i : Int) + 1 := by omega
                obtain ⟨x, hx⟩ : ∃ x, (bs s)[i + 1]'hn = x := ⟨_, rfl⟩
                have hxs : s[i + 1]? = some x := by rw [← hx]; exact bs_at s (i + 1) hn
                have hxb : x.toNat < 256 := UInt8.toNat_lt _
                obtain ⟨p4, f4⟩ : ∃ b, ((x.toNat : Int) == 60) = b := ⟨_, rfl⟩
                have g4 : p4 = decide (x = 60) := by rw [← f4]; exact u8_eq x 60
                obtain ⟨q, hq⟩ : ∃ q, Hid ((p1 || p2 || (p3 && p4)) = q) := ⟨_, Lib.hid rfl⟩
                have HQ : Hid (q = false → Lx.seen s (i + 1)) := Lib.hid fun h => by
                  have hqo := hq.out
                  rw [h] at hqo
                  simp only [Bool.or_eq_false_iff, Bool.and_eq_false_iff] at hqo
                  refine Lx.seen_next HS.out hds ?_ ?_ ?_
                  · have := hqo.1.1; rw [g1] at this; simpa using this
                  · have := hqo.1.2; rw [g2] at this; simpa using this
                  · intro hd60 hx60
                    rw [hxs] at hx60
                    injection hx60 with hx60
                    rcases hqo.2 with h5 | h5
                    · rw [g3] at h5; simp [hd60] at h5
                    · rw [g4] at h5; simp [hx60] at h5
                clear hds hxs g1 g2 g3 g4
                go_upto_region 6 with fail
                go_cut [57] (fun s57 wx => s57 = .bool q ∧ w = wx)
                case first =>
                  clear HQ
                  cases p1 <;> cases p2 <;> cases p3 <;> cases p4 <;> (
                    go_wp2_with fail
                    go_meet
                    exact ⟨by rw [← hq.out]; rfl, by first | rfl | trivial⟩)
                case rest =>
                  obtain ⟨rfl, rfl⟩ := hcut
                  clear f1 f2 f3 f4 hq hd hx
                  cases q with
                  | true =>
                    go_wp2_with fail
                    go_ret
                    exact ⟨⟨false, rfl, fun h => by cases h⟩, by first | rfl | trivial⟩
                  | false =>
                    have HN := Lib.hid (HQ.out rfl)
                    clear HQ
                    go_wp2_with fail
                    go_roundw
                    case rel => exact ⟨i + 1, by omega, by go_num, HN, by first | rfl | trivial⟩
                    case measure => simp [intOf]; omega
              · have n0 : decide ((i : Int) + 1 < ((bs s).size : Int)) = false := by rw [decide_eq_false_iff_not]; omega
                have hxs : s[i + 1]? = none := by rw [List.getElem?_eq_none]; rw [← bs_size s]; exact hn
                obtain ⟨q, hq⟩ : ∃ q, Hid ((p1 || p2) = q) := ⟨_, Lib.hid rfl⟩
                have HQ : Hid (q = false → Lx.seen s (i + 1)) := Lib.hid fun h => by
                  have hqo := hq.out
                  rw [h] at hqo
                  simp only [Bool.or_eq_false_iff] at hqo
                  refine Lx.seen_next HS.out hds ?_ ?_ ?_
                  · have := hqo.1; rw [g1] at this; simpa using this
                  · have := hqo.2; rw [g2] at this; simpa using this
                  · intro _ hx60
                    rw [hxs] at hx60
                    cases hx60
                clear hds hxs g1 g2 g3
                go_upto_region 6 with fail
                go_cut [57] (fun s57 wx => s57 = .bool q ∧ w = wx)
                case first =>
                  clear HQ
                  cases p1 <;> cases p2 <;> cases p3 <;> (
                    go_wp2_with fail
                    go_meet
                    exact ⟨by rw [← hq.out]; rfl, by first | rfl | trivial⟩)
                case rest =>
                  obtain ⟨rfl, rfl⟩ := hcut
                  clear f1 f2 f3 hq hd
                  cases q with
                  | true =>
                    go_wp2_with fail
                    go_ret
                    exact ⟨⟨false, rfl, fun h => by cases h⟩, by first | rfl | trivial⟩
                  | false =>
                    have HN := Lib.hid (HQ.out rfl)
                    clear HQ
                    go_wp2_with fail
                    go_roundw
                    case rel => exact ⟨i + 1, by omega, by go_num, HN, by first | rfl | trivial⟩
                    case measure => simp [intOf]; omega
            · have i0 : decide ((i : Int) < ((bs s).size : Int)) = false := by rw [decide_eq_false_iff_not]; omega
              obtain rfl : i = (bs s).size := by omega
              have hzm := HZM.out
              have HF := Lib.hid (HEND.out HS.out)
              clear HS HEND
              go_wp2_with fail
              refine (last_any s hs _ HLast).mono ?_
              rintro e w1 ⟨rfl, rfl⟩
              go_wp2_with fail
              go_ret
              exact ⟨⟨b9, by first | rfl | trivial, HF.out⟩, by first | rfl | trivial⟩
theorem begins_is (c : UInt8) : Lx.begins c = (decide ((c.toNat : Int) < 128) || decide ((192 : Int) ≤ (c.toNat : Int))) := by
  rw [Lx.begins, Bool.eq_iff_iff]
  simp
  omega
set_option maxRecDepth 100000 in
theorem begins_any (s : List UInt8) (k : Nat) (hk : k < (bs s).size) (_ : (bs s).size ≤ 2000000) {c : UInt8} (hc : (bs s)[k] = c) (w : World) {b : Bool} (H : Hid (Lx.begins c = b)) : Calls Tryz.prog 28 #[.string (bs s), .int .i64 (k : Int)] w fun e w' => e = .returned (.bool b) ∧ w = w' := by
  have hb := H.out
  rw [begins_is] at hb
  obtain ⟨b1, e1⟩ : ∃ b, decide ((c.toNat : Int) < 128) = b := ⟨_, rfl⟩
  obtain ⟨b2, e2⟩ : ∃ b, decide ((192 : Int) ≤ (c.toNat : Int)) = b := ⟨_, rfl⟩
  rw [e1, e2] at hb
  have k1 : (k : Int) < ((bs s).size : Int) := by omega
  have k2 : (0 : Int) ≤ (k : Int) := by omega
  have hby : c.toNat < 256 := UInt8.toNat_lt _
  have HB := Lib.hid hb
  clear hb H
  cases b1 <;> cases b2 <;> (
    go_enter Tryz.func28, Tryz.ntmps28
    go_wp2_with fail
    go_ret
    exact ⟨by rw [← HB.out]; rfl, rfl⟩)
end Go.Proofs.YtpgnfianffjpnaaGreatDoor
