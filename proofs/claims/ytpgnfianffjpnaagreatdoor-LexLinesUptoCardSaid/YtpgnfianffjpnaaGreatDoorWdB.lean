/- strataref13.Blank, Escape, quote, word, Split, walked. -/
import Derived.Test.YtpgnfianffjpnaaGreatDoorWdA
import Derived.Deep.QuietTactic
import Derived.BigQuiet
namespace Go.Proofs.YtpgnfianffjpnaaGreatDoor
open Go Go.RowKit

namespace Lx
section
variable {s : Bs} {e : UInt8} {i f q : Nat}
theorem run_btw_win (h : i < s.length) (hb : blank s[i] = false) : runW s e (s.drop i) i .btw = runW s e (s.drop i) i (.win i) := by
  rw [run_btw_in h hb, run_win_in h hb]
theorem run_wesc_end (h : s.length ≤ i) : runW s e (s.drop i) i (.wesc f) = runW s e (s.drop i) i (.win f) := by rw [List.drop_eq_nil_of_le h, runW, runW]
theorem run_desc_end (h : s.length ≤ i) : runW s e (s.drop i) i (.desc f q) = runW s e (s.drop i) i (.dbl f q) := by rw [List.drop_eq_nil_of_le h, runW, runW]
theorem run_win_stop (h : i ≤ s.length) (hb : ∀ c, s[i]? = some c → blank c = true) : runW s e (s.drop i) i (.win f) = pushW ⟨f, sl s f i⟩ (runW s e (s.drop i) i .btw) := by
  rcases Nat.lt_or_ge i s.length with h2 | h2
  · have := hb _ (List.getElem?_eq_getElem h2)
    rw [run_win_blank h2 this, run_btw_blank h2 this]
  · obtain rfl : i = s.length := by omega
    rw [run_end_win (Nat.le_refl _), run_end_btw (Nat.le_refl _), pushW, sl_end]
/-- the quote that begins at i, its byte c. -/
def stQ (c : UInt8) (f q : Nat) : St := if c = 39 then .sgl f q else .dbl f q
def QuoteIs (s : Bs) (e c : UInt8) (i : Nat) (v : Int) : Prop :=
  (v = -1 ∧ ∀ f, runW s e (s.drop (i + 1)) (i + 1) (stQ c f i) = .inl i) ∨
  (∃ k : Nat, v = (k : Int) ∧ i < k ∧ k < s.length ∧ ∀ f, runW s e (s.drop (i + 1)) (i + 1) (stQ c f i) = runW s e (s.drop (k + 1)) (k + 1) (.win f))
def WordIs (s : Bs) (e : UInt8) (i : Nat) (v : Int) (ok : Bool) : Prop :=
  (ok = false ∧ ∃ q : Nat, v = (q : Int) ∧ ∀ f, runW s e (s.drop i) i (.win f) = .inl q) ∨
  (ok = true ∧ ∃ k : Nat, v = (k : Int) ∧ i ≤ k ∧ k ≤ s.length ∧ (k = i → ∀ c, s[i]? = some c → blank c = true) ∧ ∀ f, runW s e (s.drop i) i (.win f) = pushW ⟨f, sl s f k⟩ (runW s e (s.drop k) k .btw))
end
end Lx
set_option maxRecDepth 100000 in
theorem blank13_any (c : UInt8) (w : World) {b : Bool} (H : Hid (Lx.blank c = b)) : Calls Tryz.prog 27 #[.int .u8 (c.toNat : Int)] w fun e w' => e = .returned (.bool b) ∧ w = w' := by
  obtain ⟨b1, b2, b3, e1, e2, e3, hb⟩ := blank_three c H.out
  have HB := Lib.hid hb
  clear hb H
  have hc : c.toNat < 256 := c.toNat_lt
  cases b1 <;> cases b2 <;> cases b3 <;> (
    go_enter Tryz.func27, Tryz.ntmps27
    go_wp2_with fail
    go_ret
    exact ⟨by rw [HB.out]; rfl, rfl⟩)
set_option maxRecDepth 100000 in
theorem escape13_any (c : UInt8) (w : World) {d : UInt8} (H : Hid (Lx.escOf c = d)) : Calls Tryz.prog 134 #[.int .u8 (c.toNat : Int)] w fun e w' => e = .returned (.int .u8 (d.toNat : Int)) ∧ w = w' := by
  have hd := H.out
  unfold Lx.escOf at hd
  by_cases h : c = 96
  · have t1 : ((c.toNat : Int) == 96) = true := u8_yes (d := 96) h
    rw [if_pos h] at hd
    subst hd h
    go_enter Tryz.func134, Tryz.ntmps134
    go_wp2_with fail
    go_ret
    exact ⟨rfl, rfl⟩
  · have t1 : ((c.toNat : Int) == 96) = false := u8_no (d := 96) h
    rw [if_neg h] at hd
    subst hd
    go_enter Tryz.func134, Tryz.ntmps134
    go_wp2_with fail
    go_ret
    exact ⟨rfl, rfl⟩
/-- in the quote, at k. -/
def InQ (s : List UInt8) (e c : UInt8) (i k : Nat) : Prop := ∀ f, Lx.runW s e (s.drop (i + 1)) (i + 1) (Lx.stQ c f i) = Lx.runW s e (s.drop k) k (Lx.stQ c f i)
set_option maxRecDepth 100000 in
set_option maxHeartbeats 4000000 in
theorem quote13_any (s : List UInt8) (hs : s.length ≤ 2000000) (e : UInt8) (i : Nat) (hi : i < (bs s).size) (hq : (bs s)[i] = 39 ∨ (bs s)[i] = 34) (w : World) :
    Calls Tryz.prog 156 #[.string (bs s), .int .i64 (i : Int), .int .u8 (e.toNat : Int)] w fun r w' => ∃ v, r = .returned (.int .i64 v) ∧ Hid (Lx.QuoteIs s e (bs s)[i] i v) ∧ Below w.heap.size w w' := by
  have hz : (bs s).size = s.length := bs_size s
  have HZ := Lib.hid hz
  have hs2 : (bs s).size ≤ 2000000 := by omega
  have hi0 : (0 : Int) ≤ (i : Int) := by omega
  have hi1 : (i : Int) < ((bs s).size : Int) := by omega
  have H0 : Hid (InQ s e (bs s)[i] i (i + 1)) := Lib.hid fun f => rfl
  obtain ⟨c, hcc⟩ : ∃ c, (bs s)[i] = c := ⟨_, rfl⟩
  have HQ := Lib.hid hq
  clear hz hq
  go_enter Tryz.func156, Tryz.ntmps156
  go_wp2_with fail
  go_loopw [7] (fun t7 wr => ∃ k : Nat, i < k ∧ t7 = .int .i64 (k : Int) ∧ k ≤ (bs s).size + 1 ∧ Hid (InQ s e (bs s)[i] i k) ∧ Below w.heap.size w wr) (fun t7 _ => (bs s).size + 2 - (intOf t7).toNat)
  case atStart => exact ⟨i + 1, by omega, by go_num, by omega, H0, Below.refl _ _⟩
  case round =>
    clear H0
    obtain ⟨k, hik, rfl, hk, HI, HW⟩ := hrel
    have hwz := HW.size
    have k0 : (0 : Int) ≤ (k : Int) := by omega
    rcases Nat.lt_or_ge k (bs s).size with hkn | hkn
    · have i0 : decide ((k : Int) < ((bs s).size : Int)) = true := by rw [decide_eq_true_eq]; omega
      have i1 : (k : Int) < ((bs s).size : Int) := by omega
      have hkl : k < s.length := by rw [← HZ.out]; exact hkn
      have hks : s[k] = (bs s)[k]'hkn := rfl
      have hby : ((bs s)[k]'hkn).toNat < 256 := UInt8.toNat_lt _
      have hby2 : ((bs s)[i]'hi).toNat < 256 := UInt8.toNat_lt _
      by_cases hc : (bs s)[k]'hkn = (bs s)[i]'hi
      · have t1 : ((((bs s)[k]'hkn).toNat : Int) == (((bs s)[i]'hi).toNat : Int)) = true := u8_yes hc
        have HR : Hid (Lx.QuoteIs s e (bs s)[i] i (k : Int)) := Lib.hid (.inr ⟨k, rfl, hik, hkl, fun f => by
          rw [HI.out f]
          rcases HQ.out with h | h
          · rw [Lx.stQ, if_pos h, Lx.run_sgl hkl, hks, hc, if_pos h]
          · rw [Lx.stQ, if_neg (by rw [h]; decide), Lx.run_dbl hkl, hks, hc, if_pos h]⟩)
        clear HI hc hks hcc
        go_wp2_with fail
        go_quiet (fail)
        go_wp2_with fail
        go_ret
        exact ⟨_, rfl, HR, by first | exact HW | exact below_drewN HW _⟩
      · have t1 : ((((bs s)[k]'hkn).toNat : Int) == (((bs s)[i]'hi).toNat : Int)) = false := u8_no hc
        rcases HQ.out with h | h
        · have t2 : ((((bs s)[i]'hi).toNat : Int) == 34) = false := u8_no (d := 34) (by rw [h]; decide)
          have HR : Hid (InQ s e (bs s)[i] i (k + 1)) := Lib.hid fun f => by
            rw [HI.out f, Lx.stQ, if_pos h, Lx.run_sgl hkl, hks, if_neg (by rw [← h]; exact hc)]
          clear HI hc hks hcc h
          go_wp2_with fail
          go_quiet (fail)
          go_wp2_with fail
          go_roundw
          case rel => exact ⟨k + 1, by omega, by go_num, by omega, HR, by first | exact HW | exact below_drewN HW _⟩
          case measure => simp [intOf]; omega
        · have t2 : ((((bs s)[i]'hi).toNat : Int) == 34) = true := u8_yes (d := 34) h
          have h39 : ¬ (bs s)[i]'hi = 39 := by rw [h]; decide
          by_cases he : (bs s)[k]'hkn = e
          · have t3 : ((((bs s)[k]'hkn).toNat : Int) == (e.toNat : Int)) = true := u8_yes he
            have HR : Hid (InQ s e (bs s)[i] i (k + 2)) := Lib.hid fun f => by
              rw [HI.out f, Lx.stQ, if_neg h39, Lx.run_dbl hkl, hks, if_neg (by rw [← h]; exact hc), if_pos he, Lx.run_desc]
            clear HI hc hks hcc h h39 he
            go_wp2_with fail
            go_quiet (fail)
            go_wp2_with fail
            go_roundw
            case rel => exact ⟨k + 2, by omega, by go_num, by omega, HR, by first | exact HW | exact below_drewN HW _⟩
            case measure => simp [intOf]; omega
          · have t3 : ((((bs s)[k]'hkn).toNat : Int) == (e.toNat : Int)) = false := u8_no he
            have HR : Hid (InQ s e (bs s)[i] i (k + 1)) := Lib.hid fun f => by
              rw [HI.out f, Lx.stQ, if_neg h39, Lx.run_dbl hkl, hks, if_neg (by rw [← h]; exact hc), if_neg he]
            clear HI hc hks hcc h h39 he
            go_wp2_with fail
            go_quiet (fail)
            go_wp2_with fail
            go_roundw
            case rel => exact ⟨k + 1, by omega, by go_num, by omega, HR, by first | exact HW | exact below_drewN HW _⟩
            case measure => simp [intOf]; omega
    · have i0 : decide ((k : Int) < ((bs s).size : Int)) = false := by rw [decide_eq_false_iff_not]; omega
      have hkl : s.length ≤ k := by rw [← HZ.out]; exact hkn
      have HR : Hid (Lx.QuoteIs s e (bs s)[i] i (-1)) := Lib.hid (.inl ⟨rfl, fun f => by
        rw [HI.out f]
        rcases HQ.out with h | h
        · rw [Lx.stQ, if_pos h, Lx.run_end_sgl hkl]
        · rw [Lx.stQ, if_neg (by rw [h]; decide), Lx.run_end_dbl hkl]⟩)
      clear HI hcc
      go_wp2_with fail
      go_ret
      exact ⟨_, rfl, HR, by first | exact HW | exact below_drewN HW _⟩
/-- in the word, at k. -/
def InW (s : List UInt8) (e : UInt8) (i k : Nat) : Prop := ∀ f, Lx.runW s e (s.drop i) i (.win f) = Lx.runW s e (s.drop k) k (.win f)
set_option maxRecDepth 100000 in
set_option maxHeartbeats 8000000 in
theorem word13_any (s : List UInt8) (hs : s.length ≤ 2000000) (e : UInt8) (i : Nat) (hi : i ≤ s.length) (w : World) :
    Calls Tryz.prog 135 #[.string (bs s), .int .i64 (i : Int), .int .u8 (e.toNat : Int)] w fun r w' => ∃ v ok, r = .returned (.tuple #[.int .i64 v, .bool ok]) ∧ Hid (Lx.WordIs s e i v ok) ∧ Below w.heap.size w w' := by
  have hz : (bs s).size = s.length := bs_size s
  have HZ := Lib.hid hz
  have hs2 : (bs s).size ≤ 2000000 := by omega
  have hi2 : i ≤ (bs s).size := by omega
  have H0 : Hid (InW s e i i) := Lib.hid fun f => rfl
  clear hz
  go_enter Tryz.func135, Tryz.ntmps135
  go_wp2_with fail
  go_loopw [1, 8] (fun t1 t8 wr => ∃ k : Nat, i ≤ k ∧ t1 = .int .i64 (k : Int) ∧ k ≤ (bs s).size ∧ Hid (InW s e i k) ∧ Below w.heap.size w wr) (fun t1 _ _ => (bs s).size + 2 - (intOf t1).toNat)
  case atStart => exact ⟨i, by omega, rfl, by omega, H0, Below.refl _ _⟩
  case round =>
    clear H0
    obtain ⟨k, hik, rfl, hk, HI, HW⟩ := hrel
    have hwz := HW.size
    have k0 : (0 : Int) ≤ (k : Int) := by omega
    have fin : (∀ c, s[k]? = some c → Lx.blank c = true) → Lx.WordIs s e i (k : Int) true := fun h => .inr ⟨rfl, k, rfl, hik, by rw [← HZ.out]; exact hk, fun hki => by subst hki; exact h, fun f => by
      rw [HI.out f, Lx.run_win_stop (by rw [← HZ.out]; exact hk) h]⟩
    rcases Nat.lt_or_ge k (bs s).size with hkn | hkn
    · have i0 : decide ((k : Int) < ((bs s).size : Int)) = true := by rw [decide_eq_true_eq]; omega
      have i1 : (k : Int) < ((bs s).size : Int) := by omega
      have hkl : k < s.length := by rw [← HZ.out]; exact hkn
      have hks : s[k] = (bs s)[k]'hkn := rfl
      have hby : ((bs s)[k]'hkn).toNat < 256 := UInt8.toNat_lt _
      have h1 : s[k]? = some ((bs s)[k]'hkn) := bs_at s k hkn
      cases hb : Lx.blank ((bs s)[k]'hkn) with
      | true =>
        have HR := Lib.hid (fin (fun c hc => by rw [h1] at hc; injection hc with hc; rw [← hc]; exact hb))
        have HB := Lib.hid hb
        clear HI hks fin h1 hb
        go_wp2_with fail
        refine (blank13_any _ _ HB).mono ?_
        rintro e1 w1 ⟨rfl, rfl⟩
        go_wp2_with fail
        go_ret2
        exact ⟨_, _, rfl, HR, by first | exact HW | exact BV⟩
      | false =>
        have HB := Lib.hid hb
        have hwin : ∀ f, Lx.runW s e (s.drop k) k (.win f) = Lx.runW s e (s.drop (k + 1)) (k + 1) (Lx.inn e ((bs s)[k]'hkn) f k) := fun f => by rw [Lx.run_win_in hkl (by rw [hks]; exact hb), hks]
        have HWN := Lib.hid hwin
        clear fin h1 hb hwin
        by_cases hq : (bs s)[k]'hkn = 39 ∨ (bs s)[k]'hkn = 34
        · have hin : ∀ f, Lx.inn e ((bs s)[k]'hkn) f k = Lx.stQ ((bs s)[k]'hkn) f k := fun f => by
            rcases hq with h | h
            · rw [Lx.inn, if_pos h, Lx.stQ, if_pos h]
            · rw [Lx.inn, if_neg (by rw [h]; decide), if_pos h, Lx.stQ, if_neg (by rw [h]; decide)]
          have HIN := Lib.hid hin
          have HQ := Lib.hid hq
          obtain ⟨b1, hb1⟩ : ∃ b, ((((bs s)[k]'hkn).toNat : Int) == 39) = b := ⟨_, rfl⟩
          obtain ⟨b2, hb2⟩ : ∃ b, ((((bs s)[k]'hkn).toNat : Int) == 34) = b := ⟨_, rfl⟩
          have HBB : Hid (b1 = true ∨ b2 = true) := Lib.hid (by
            rcases hq with h | h
            · exact .inl (hb1.symm.trans (u8_yes (d := 39) h))
            · exact .inr (hb2.symm.trans (u8_yes (d := 34) h)))
          clear hq hin hks
          go_wp2_with fail
          refine (blank13_any _ _ HB).mono ?_
          rintro e1 w1 ⟨rfl, rfl⟩
          go_upto_region 3 with fail
          go_cut [22] (fun s22 wx => s22 = .bool true ∧ wx = wr)
          case first =>
            cases b1 <;> cases b2 <;> first
              | exact absurd HBB.out (by decide)
              | (go_wp2_with fail
                 go_meet
                 exact ⟨rfl, rfl⟩)
          case rest =>
            obtain ⟨rfl, hwx⟩ := hcut
            rw [hwx]
            clear hwx hb1 hb2 HBB
            go_wp2_with fail
            refine (quote13_any s hs e k hkn HQ.out _).mono ?_
            rintro e1 w1 ⟨v, rfl, HV, bv⟩
            have BV := below_of_below HW bv hwz
            have hV := HV.out
            rcases hV with ⟨rfl, hV⟩ | ⟨m, rfl, hm1, hm2, hV⟩
            · have HR : Hid (Lx.WordIs s e i (k : Int) false) := Lib.hid (.inl ⟨rfl, k, rfl, fun f => by rw [HI.out f, HWN.out f, HIN.out f, hV f]⟩)
              clear hV HI
              go_wp2_with fail
              go_ret2
              exact ⟨_, _, rfl, HR, by first | exact HW | exact BV⟩
            · have HR : Hid (InW s e i (m + 1)) := Lib.hid fun f => by rw [HI.out f, HWN.out f, HIN.out f, hV f]
              have hm3 : m < (bs s).size := by rw [HZ.out]; exact hm2
              have m0 : decide ((m : Int) < 0) = false := by rw [decide_eq_false_iff_not]; omega
              clear hV HI
              go_wp2_with fail
              go_roundw
              case rel => exact ⟨m + 1, by omega, by go_num, by omega, HR, BV⟩
              case measure => simp [intOf]; omega
        · have q1 : ¬ (bs s)[k]'hkn = 39 := fun h => hq (.inl h)
          have q2 : ¬ (bs s)[k]'hkn = 34 := fun h => hq (.inr h)
          have t1 : ((((bs s)[k]'hkn).toNat : Int) == 39) = false := u8_no (d := 39) q1
          have t2 : ((((bs s)[k]'hkn).toNat : Int) == 34) = false := u8_no (d := 34) q2
          by_cases he : (bs s)[k]'hkn = e
          · have t3 : ((((bs s)[k]'hkn).toNat : Int) == (e.toNat : Int)) = true := u8_yes he
            rcases Nat.lt_or_ge (k + 1) (bs s).size with hk1 | hk1
            · have HR : Hid (InW s e i (k + 2)) := Lib.hid fun f => by rw [HI.out f, HWN.out f, Lx.inn, if_neg q1, if_neg q2, if_pos he, Lx.run_wesc]
              have i2 : decide ((k : Int) + 1 < ((bs s).size : Int)) = true := by rw [decide_eq_true_eq]; omega
              clear HI hks hq q1 q2 he
              go_wp2_with fail
              refine (blank13_any _ _ HB).mono ?_
              rintro e1 w1 ⟨rfl, rfl⟩
              go_wp2_with fail
              go_roundw
              case rel => exact ⟨k + 2, by omega, by go_num, by omega, HR, by first | exact HW | exact below_drewN HW _⟩
              case measure => simp [intOf]; omega
            · have HR : Hid (InW s e i (k + 1)) := Lib.hid fun f => by rw [HI.out f, HWN.out f, Lx.inn, if_neg q1, if_neg q2, if_pos he, Lx.run_wesc_end (by rw [← HZ.out]; exact hk1)]
              have i2 : decide ((k : Int) + 1 < ((bs s).size : Int)) = false := by rw [decide_eq_false_iff_not]; omega
              clear HI hks hq q1 q2 he
              go_wp2_with fail
              refine (blank13_any _ _ HB).mono ?_
              rintro e1 w1 ⟨rfl, rfl⟩
              go_wp2_with fail
              go_roundw
              case rel => exact ⟨k + 1, by omega, by go_num, by omega, HR, by first | exact HW | exact below_drewN HW _⟩
              case measure => simp [intOf]; omega
          · have t3 : ((((bs s)[k]'hkn).toNat : Int) == (e.toNat : Int)) = false := u8_no he
            have HR : Hid (InW s e i (k + 1)) := Lib.hid fun f => by rw [HI.out f, HWN.out f, Lx.inn, if_neg q1, if_neg q2, if_neg he]
            clear HI hks hq q1 q2 he
            go_wp2_with fail
            refine (blank13_any _ _ HB).mono ?_
            rintro e1 w1 ⟨rfl, rfl⟩
            go_wp2_with fail
            go_roundw
            case rel => exact ⟨k + 1, by omega, by go_num, by omega, HR, by first | exact HW | exact below_drewN HW _⟩
            case measure => simp [intOf]; omega
    · have i0 : decide ((k : Int) < ((bs s).size : Int)) = false := by rw [decide_eq_false_iff_not]; omega
      have HR := Lib.hid (fin (fun c hc => by rw [List.getElem?_eq_none (by rw [← HZ.out]; exact hkn)] at hc; cases hc))
      clear fin HI
      go_wp2_with fail
      go_ret2
      exact ⟨_, _, rfl, HR, by first | exact HW | exact BV⟩
/-- what the reference's Split answers. -/
def WrAns (r : Nat ⊕ List Lx.Wd) (w w' : World) (e : Ending) : Prop := match r with
  | .inl q => e = .returned (.tuple #[.slice none 0 0, .int .i64 18, .int .i64 (q : Int)])
  | .inr l => ∃ v, e = .returned (.tuple #[v, .int .i64 0, .int .i64 0]) ∧ w'.ownsRow w.heap.size 146 2 v l.length (wdC l)
set_option maxRecDepth 100000 in
set_option maxHeartbeats 8000000 in
theorem split13_any (s : List UInt8) (hs : s.length ≤ 2000000) (esc : UInt8) (w : World) {RES : Nat ⊕ List Lx.Wd} (H : Hid (Lx.wordsL s esc = RES)) : Calls Tryz.prog 83 #[.string (bs s), .int .u8 (esc.toNat : Int)] w fun e w' => WrAns RES w w' e ∧ Below w.heap.size w w' := by
  obtain ⟨e, he⟩ : ∃ e, Hid (Lx.escOf esc = e) := ⟨_, Lib.hid rfl⟩
  have hz : (bs s).size = s.length := bs_size s
  have HZ := Lib.hid hz
  have hs2 : (bs s).size ≤ 2000000 := by omega
  have H0 : Hid (RES = Lx.putW [] (Lx.runW s e (s.drop 0) 0 .btw)) := by
    show _ = _
    rw [Lx.putW_nil, ← H.out, ← he.out, List.drop_zero]; rfl
  clear hz
  go_enter Tryz.func83, Tryz.ntmps83
  go_wp2_with fail
  refine (escape13_any esc _ he).mono ?_
  rintro e1 w1 ⟨rfl, rfl⟩
  go_wp2_with fail
  go_loopw [8, 9, 10, 11] (fun v t9 _ _ wr => ∃ (i : Nat) (out : List Lx.Wd), i ≤ (bs s).size ∧ out.length ≤ i ∧ t9 = .int .i64 (i : Int) ∧ Hid (RES = Lx.putW out (Lx.runW s e (s.drop i) i .btw)) ∧ wr.ownsRow w.heap.size 146 2 v out.length (wdC out) ∧ Below w.heap.size w wr) (fun _ t9 _ _ _ => (bs s).size - (intOf t9).toNat)
  case atStart => exact ⟨0, [], by omega, by simp, rfl, H0, World.ownsRow_nil _ _ _ _, Below.refl _ _⟩
  case round =>
    clear H0
    obtain ⟨i, out, hi, hol, rfl, HS, hown, hB⟩ := hrel
    obtain ⟨AA, ca, rfl⟩ := ownk_form hown
    have hbs := hB.size
    have j0 : (0 : Int) ≤ (i : Int) := by omega
    rcases Nat.lt_or_ge i (bs s).size with hin | hin
    · have i0 : decide ((i : Int) < ((bs s).size : Int)) = true := by rw [decide_eq_true_eq]; omega
      have i1 : (i : Int) < ((bs s).size : Int) := by omega
      have hby : ((bs s)[i]'hin).toNat < 256 := UInt8.toNat_lt _
      have hil : i < s.length := by rw [← HZ.out]; exact hin
      have hc : s[i] = (bs s)[i]'hin := rfl
      cases hb : Lx.blank ((bs s)[i]'hin) with
      | true =>
        have HB := Lib.hid hb
        have HR : Hid (RES = Lx.putW out (Lx.runW s e (s.drop (i + 1)) (i + 1) .btw)) := by show _ = _; rw [HS.out, Lx.run_btw_blank hil (by rw [hc]; exact hb)]
        clear hb HS hc
        go_wp2_with fail
        refine (blank13_any _ _ HB).mono ?_
        rintro e1 w1 ⟨rfl, rfl⟩
        go_wp2_with fail
        go_roundw
        case rel => exact ⟨i + 1, out, by omega, by omega, by go_num, HR, hown, hB⟩
        case measure => simp [intOf]; omega
      | false =>
        have HB := Lib.hid hb
        have HR : Hid (RES = Lx.putW out (Lx.runW s e (s.drop i) i (.win i))) := by show _ = _; rw [HS.out, Lx.run_btw_win hil (by rw [hc]; exact hb)]
        have hil2 : i ≤ s.length := Nat.le_of_lt hil
        have HCC : Hid (∀ c, s[i]? = some c → Lx.blank c = false) := Lib.hid fun c h => by
          rw [bs_at s i hin] at h; injection h with h; rw [← h]; exact hb
        clear hb HS hc
        go_wp2_with fail
        refine (blank13_any _ _ HB).mono ?_
        rintro e1 w1 ⟨rfl, rfl⟩
        go_wp2_with fail
        refine (word13_any s hs e i hil2 _).mono ?_
        rintro e1 w1 ⟨v, ok, rfl, HV, bv⟩
        have hBD := below_of_below hB bv hbs
        have hbsD := hBD.size
        have hownD := own_below hown bv
        rcases HV.out with ⟨rfl, q, rfl, hV⟩ | ⟨rfl, k, rfl, hik, hk, hki, hV⟩
        · have HR2 : Hid (RES = .inl q) := by show _ = _; rw [HR.out, hV i, Lx.putW]
          clear hV HR
          go_wp2_with fail
          go_ret3
          refine ⟨?_, hBD⟩
          rw [HR2.out]
          rfl
        · have hsl := slice_bs s i k hik hk
          obtain ⟨X, hX⟩ : ∃ X, Lx.sl s i k = X := ⟨_, rfl⟩
          have HR2 : Hid (RES = Lx.putW (out ++ [⟨i, X⟩]) (Lx.runW s e (s.drop k) k .btw)) := by show _ = _; rw [HR.out, hV i, Lx.putW_push, hX]
          rw [show (s.drop i).take (k - i) = X from hX] at hsl
          have hkz : k ≤ (bs s).size := by rw [HZ.out]; exact hk
          have hik2 : i < k := by
            rcases Nat.lt_or_ge i k with h | h
            · exact h
            · exfalso
              have h1 := hki (by omega) _ (List.getElem?_eq_getElem hil)
              rw [HCC.out _ (List.getElem?_eq_getElem hil)] at h1
              cases h1
          clear hV HR hX HCC hki hown hB
          go_wp2_with (at_builtin; refine wpList_appk rfl _ _ _ rfl wordK _ _ _ _ rfl (hownD.alloc _) _ _ _ _ rfl rfl (news_alloc _ _ _) (by simp [Value.oneCell']) (by omega) (by omega) (hBD.alloc hbsD _) (by simp; omega) ?_; intro v2 w2 hown1 hb1 hg1 hat1)
          go_roundw
          case rel => exact ⟨k, out ++ [⟨i, X⟩], by omega, by simp only [List.length_append, List.length_cons, List.length_nil]; omega, rfl, HR2, by rw [wdC_snoc, List.length_append]; exact hown1, hb1⟩
          case measure => simp [intOf]; omega
    · have i0 : decide ((i : Int) < ((bs s).size : Int)) = false := by rw [decide_eq_false_iff_not]; omega
      have hil : s.length ≤ i := by rw [← HZ.out]; exact hin
      have HR : Hid (RES = .inr out) := by show _ = _; rw [HS.out, Lx.run_end_btw hil, Lx.putW, List.append_nil]
      clear HS
      go_wp2_with fail
      go_ret3
      refine ⟨?_, hB⟩
      rw [HR.out]
      exact ⟨_, rfl, hown⟩
end Go.Proofs.YtpgnfianffjpnaaGreatDoor
