/- check's small questions: is, variable, stage, mode, walked. check.opens, walked. -/
import Derived.Test.YtnlkmljdcmfogaaGreatDoorGwX0
import Derived.Test.YtnlkmljdcmfogaaGreatDoorCut0
import Derived.Shelf.Strings.SlTrimAscii
import Derived.Test.YtnlkmljdcmfogaaGreatDoorRely0
import Derived.Test.YtnlkmljdcmfogaaGreatDoorLxA0
import Derived.Deep.QuietTactic
import Derived.Ground.NamesProg
import Derived.Shelf.Abstract
import Derived.Shelf.RegionOpen
import Derived.Shelf.Strings.Prefix
import Derived.BigQuiet
namespace Go.Proofs.YtnlkmljdcmfogaaGreatDoor
open Go Go.RowKit Go.Shelf
set_option maxRecDepth 100000 in
theorem is_any (c : UInt8) (w : World) {b : Bool} (H : Hid (Ck.digit c = b)) : Calls Tryz.prog 233 #[.int .u8 (c.toNat : Int)] w fun e w' => e = .returned (.bool b) ∧ w = w' := by
  obtain ⟨b1, e1⟩ : ∃ b1, decide ((48 : Int) ≤ (c.toNat : Int)) = b1 := ⟨_, rfl⟩
  obtain ⟨b2, e2⟩ : ∃ b2, decide ((c.toNat : Int) ≤ 57) = b2 := ⟨_, rfl⟩
  have HB : Hid (b = (b1 && b2)) := by show _ = _; rw [← H.out, digit_is, e1, e2]
  clear H
  cases b1 <;> cases b2 <;> (
    go_enter Tryz.func233, Tryz.ntmps233
    go_wp2_with fail
    go_ret
    exact ⟨by rw [HB.out]; rfl, rfl⟩)
theorem of_us (s : List UInt8) (hs : s.length ≤ 2000000) (w : World) {b : Bool} (H : Hid (Ck.ofL s [95] true = b)) : Calls Tryz.prog 174 #[.string (bs s), .string ⟨#[95]⟩, .bool true] w fun e w' => e = .returned (.bool b) ∧ w = w' := of_any s [95] true hs w H
theorem of_stage (s : List UInt8) (hs : s.length ≤ 2000000) (w : World) {b : Bool} (H : Hid (Ck.ofL s [45, 95, 46] false = b)) : Calls Tryz.prog 174 #[.string (bs s), .string ⟨#[45, 95, 46]⟩, .bool false] w fun e w' => e = .returned (.bool b) ∧ w = w' := of_any s [45, 95, 46] false hs w H
theorem of_label (s : List UInt8) (hs : s.length ≤ 2000000) (w : World) {b : Bool} (H : Hid (Ck.ofL s [46, 45, 95, 47] true = b)) : Calls Tryz.prog 174 #[.string (bs s), .string ⟨#[46, 45, 95, 47]⟩, .bool true] w fun e w' => e = .returned (.bool b) ∧ w = w' := of_any s [46, 45, 95, 47] true hs w H
theorem of_cons {s o : List UInt8} {cp : Bool} (h : Ck.ofL s o cp = true) : ∃ c r, s = c :: r := by
  cases s with
  | nil => exact absurd h (by simp [Ck.ofL])
  | cons c r => exact ⟨c, r, rfl⟩
theorem head_at {s : List UInt8} {c : UInt8} {r : List UInt8} (h : s = c :: r) (hp : 0 < (bs s).size) : (bs s)[0]'hp = c := by
  subst h
  rfl
set_option maxRecDepth 100000 in
set_option maxHeartbeats 1000000 in
theorem var_any (s : List UInt8) (hs : s.length ≤ 2000000) (w : World) {b : Bool} (H : Hid (Ck.varP s = b)) : Calls Tryz.prog 175 #[.string (bs s)] w fun e w' => e = .returned (.bool b) ∧ w = w' := by
  obtain ⟨o, ho⟩ : ∃ o, Hid (Ck.ofL s [95] true = o) := ⟨_, Lib.hid rfl⟩
  cases o with
  | false =>
    have HF : Hid (b = false) := Lib.hid (by rw [← H.out, Ck.varP, ho.out]; rfl)
    clear H
    go_enter Tryz.func175, Tryz.ntmps175
    go_wp2_with fail
    refine (of_us s hs _ ho).mono ?_
    rintro e w1 ⟨rfl, rfl⟩
    go_wp2_with fail
    go_ret
    exact ⟨by rw [HF.out]; rfl, rfl⟩
  | true =>
    obtain ⟨c, r, hc⟩ := of_cons ho.out
    have hpos : 0 < (bs s).size := by rw [bs_size, hc]; simp
    have hposi : (0 : Int) < ((bs s).size : Int) := by omega
    have hc0 := head_at hc hpos
    have hby : c.toNat < 256 := UInt8.toNat_lt _
    obtain ⟨d, hd⟩ : ∃ d, Hid (Ck.digit c = d) := ⟨_, Lib.hid rfl⟩
    have HF : Hid (b = !d) := Lib.hid (by rw [← H.out, Ck.varP, ho.out, hc, List.head?_cons, Option.any_some, hd.out, Bool.true_and])
    clear H hc
    go_enter Tryz.func175, Tryz.ntmps175
    go_wp2_with fail
    refine (of_us s hs _ ho).mono ?_
    rintro e w1 ⟨rfl, rfl⟩
    go_wp2_with fail
    refine (is_any c _ hd).mono ?_
    rintro e w1 ⟨rfl, rfl⟩
    cases d <;> (
      go_wp2_with fail
      go_ret
      exact ⟨by rw [HF.out]; rfl, rfl⟩)
set_option maxRecDepth 100000 in
set_option maxHeartbeats 1000000 in
theorem stage_any (s : List UInt8) (hs : s.length ≤ 2000000) (w : World) {b : Bool} (H : Hid (Ck.stageP s = b)) : Calls Tryz.prog 113 #[.string (bs s)] w fun e w' => e = .returned (.bool b) ∧ w = w' := by
  obtain ⟨o, ho⟩ : ∃ o, Hid (Ck.ofL s [45, 95, 46] false = o) := ⟨_, Lib.hid rfl⟩
  cases o with
  | false =>
    have HF : Hid (b = false) := Lib.hid (by rw [← H.out, Ck.stageP, ho.out]; rfl)
    clear H
    go_enter Tryz.func113, Tryz.ntmps113
    go_wp2_with fail
    refine (of_stage s hs _ ho).mono ?_
    rintro e w1 ⟨rfl, rfl⟩
    go_wp2_with fail
    go_ret
    exact ⟨by rw [HF.out]; rfl, rfl⟩
  | true =>
    obtain ⟨c, r, hc⟩ := of_cons ho.out
    have hpos : 0 < (bs s).size := by rw [bs_size, hc]; simp
    have hposi : (0 : Int) < ((bs s).size : Int) := by omega
    have hc0 := head_at hc hpos
    have hby : c.toNat < 256 := UInt8.toNat_lt _
    have hsz : (bs s).size ≤ 2000000 := by rw [bs_size]; exact hs
    obtain ⟨b1, e1⟩ : ∃ b, decide ((97 : Int) ≤ (c.toNat : Int)) = b := ⟨_, rfl⟩
    obtain ⟨b2, e2⟩ : ∃ b, decide ((c.toNat : Int) ≤ 122) = b := ⟨_, rfl⟩
    obtain ⟨b3, e3⟩ : ∃ b, decide (((bs s).size : Int) ≤ 96) = b := ⟨_, rfl⟩
    obtain ⟨b4, e4⟩ : ∃ b, (!(bs s).toList == [115, 99, 114, 97, 116, 99, 104]) = b := ⟨_, rfl⟩
    have HF : Hid (b = (b1 && b2 && b3 && b4)) := Lib.hid (by
      have h3 : decide (s.length ≤ 96) = b3 := by rw [← e3, bs_size, decide_eq_decide]; omega
      have h4 : decide (s ≠ Ck.scratch) = b4 := by
        rw [← e4, bs_list, Bool.eq_iff_iff, decide_eq_true_eq, Bool.not_eq_true', beq_eq_false_iff_ne]
        exact Iff.rfl
      rw [← H.out, Ck.stageP, ho.out, h3, h4, hc, List.head?_cons, Option.any_some, small_is, e1, e2, Bool.true_and])
    clear H hc
    go_enter Tryz.func113, Tryz.ntmps113
    go_wp2_with fail
    refine (of_stage s hs _ ho).mono ?_
    rintro e w1 ⟨rfl, rfl⟩
    cases b1 with
    | false =>
      go_wp2_with fail
      go_ret
      exact ⟨by rw [HF.out]; rfl, rfl⟩
    | true =>
      cases b2 with
      | false =>
        go_wp2_with fail
        go_ret
        exact ⟨by rw [HF.out]; rfl, rfl⟩
      | true =>
        cases b3 <;> cases b4 <;> (
          go_wp2_with fail
          go_ret
          exact ⟨by rw [HF.out]; rfl, rfl⟩)
theorem trimOct_any (l : List UInt8) (w : World) (hs : l.length ≤ 2000000) {t : List UInt8} (H : Hid (Lib.trimS l [48, 49, 50, 51, 52, 53, 54, 55] = t)) : Calls Tryz.prog 123 #[.string (bs l), .string ⟨#[48, 49, 50, 51, 52, 53, 54, 55]⟩] w fun e w' => e = .returned (.string (bs t)) ∧ Below w.heap.size w w' := by
  rw [← H.out]
  exact Any.strings_Trim_laid Tryz.lays160 (by kernel_rfl) (bs l) ⟨#[48, 49, 50, 51, 52, 53, 54, 55]⟩ w (by rw [bs_size]; omega) (by decide) (ascii_of_all (by decide))
theorem trimDig_any (l : List UInt8) (w : World) (hs : l.length ≤ 2000000) {t : List UInt8} (H : Hid (Lib.trimS l [48, 49, 50, 51, 52, 53, 54, 55, 56, 57] = t)) : Calls Tryz.prog 123 #[.string (bs l), .string ⟨#[48, 49, 50, 51, 52, 53, 54, 55, 56, 57]⟩] w fun e w' => e = .returned (.string (bs t)) ∧ Below w.heap.size w w' := by
  rw [← H.out]
  exact Any.strings_Trim_laid Tryz.lays160 (by kernel_rfl) (bs l) ⟨#[48, 49, 50, 51, 52, 53, 54, 55, 56, 57]⟩ w (by rw [bs_size]; omega) (by decide) (ascii_of_all (by decide))
set_option maxRecDepth 100000 in
set_option maxHeartbeats 1000000 in
theorem mode_any (s : List UInt8) (hs : s.length ≤ 2000000) (w : World) {b : Bool} (H : Hid (Ck.modeR s = b)) : Calls Tryz.prog 173 #[.string (bs s)] w fun e w' => e = .returned (.bool b) ∧ Below w.heap.size w w' := by
  obtain ⟨t, ht⟩ : ∃ t, Hid (Lib.trimS s [48, 49, 50, 51, 52, 53, 54, 55] = t) := ⟨_, Lib.hid rfl⟩
  have hsz : (bs s).size ≤ 2000000 := by rw [bs_size]; exact hs
  obtain ⟨b1, e1⟩ : ∃ b, (bs s).toList.isEmpty = b := ⟨_, rfl⟩
  obtain ⟨b3, e3⟩ : ∃ b, decide (((bs s).size : Int) ≤ 4) = b := ⟨_, rfl⟩
  obtain ⟨b4, e4⟩ : ∃ b, (bs t).toList.isEmpty = b := ⟨_, rfl⟩
  have HF : Hid (b = (!b1 && b3 && b4)) := Lib.hid (by
    have h1 : s.isEmpty = b1 := by rw [← e1, bs_list]
    have h3 : decide (s.length ≤ 4) = b3 := by rw [← e3, bs_size, decide_eq_decide]; omega
    have h4 : decide (t = []) = b4 := by rw [← e4, bs_list]; cases t <;> rfl
    rw [← H.out, ← Ck.mode_same, ht.out, h1, h3, h4])
  clear H
  cases b1 with
  | true =>
    go_enter Tryz.func173, Tryz.ntmps173
    go_wp2_with fail
    go_ret
    exact ⟨by rw [HF.out]; rfl, Below.refl _ _⟩
  | false =>
    cases b3 with
    | false =>
      go_enter Tryz.func173, Tryz.ntmps173
      go_wp2_with fail
      go_ret
      exact ⟨by rw [HF.out]; rfl, Below.refl _ _⟩
    | true =>
      cases b4 <;> (
        go_enter Tryz.func173, Tryz.ntmps173
        go_wp2_with fail
        refine (trimOct_any s _ hs ht).mono ?_
        rintro e w1 ⟨rfl, p1⟩
        go_wp2_with fail
        go_ret
        exact ⟨by rw [HF.out]; rfl, p1⟩)
end Go.Proofs.YtnlkmljdcmfogaaGreatDoor
namespace Go.Proofs.YtnlkmljdcmfogaaGreatDoor
open Go Go.RowKit Go.Shelf
def Tryz.lays101_ren : Go.Shelf.Ren := ⟨fun | 101 => 235 | 208 => 263 | 206 => 234 | n => n, fun | 9 => 9 | 4 => 4 | 3 => 3 | n => n, fun | n => n⟩
theorem Tryz.lays101 : Go.Proofs.Lays.n101 Tryz.prog Tryz.lays101_ren := {
  mixed := by kernel_rfl
  f101 := Tryz.func235.trans (congrArg some (by kernel_rfl))
  f206 := Tryz.func234.trans (congrArg some (by kernel_rfl))
  f208 := Tryz.func263.trans (congrArg some (by kernel_rfl))
  t3 := Tryz.underlying3
  a3 := Tryz.isAgg3
  z3 := Tryz.sizeOf3
  v3 := Tryz.zeroValue3
  t4 := Tryz.underlying4
  a4 := Tryz.isAgg4
  z4 := Tryz.sizeOf4
  v4 := Tryz.zeroValue4
  t9 := Tryz.underlying9
  a9 := Tryz.isAgg9
  z9 := Tryz.sizeOf9
  v9 := Tryz.zeroValue9 }
theorem trimPre_any (l p : List UInt8) (w : World) {t : List UInt8} (H : Hid (Lib.trimPrefix l p = t)) : Calls Tryz.prog 235 #[.string (bs l), .string (bs p)] w fun e w' => e = .returned (.string (bs t)) ∧ w = w' := by
  refine (Any.strings_TrimPrefix Tryz.lays101 (bs l) (bs p) w).mono ?_
  rintro e w' ⟨rfl, h⟩
  rw [← H.out]
  exact ⟨rfl, h.symm⟩
theorem eq_int' (c k : UInt8) : ((c.toNat : Int) == (k.toNat : Int)) = (c == k) := by
  have := ne_int c k
  rw [bne] at this
  cases h : ((c.toNat : Int) == (k.toNat : Int)) <;> cases h2 : (c == k) <;> simp_all
namespace Ck
def opQ (u : List UInt8) : Bool := decide (2 ≤ u.length) && (u.head? == some 34 || u.head? == some 39) && u.getLast? == u.head?
def opT (u : List UInt8) : List UInt8 := if opQ u then (u.drop 1).dropLast else u
def opU (w : List UInt8) : List UInt8 := if w.head? = some 45 then w.drop 1 else w
def opOk (t : List UInt8) : Bool := ofL t [95] true && decide (t.length ≤ 96)
theorem opens_eq (w : List UInt8) : opensL w = if opOk (opT (opU w)) then some (opT (opU w), opQ (opU w)) else none := by
  have e : ∀ t : List UInt8, (t.all (fun c => Ex.letter c || digit c) ∧ 1 ≤ t.length ∧ t.length ≤ 96) ↔ opOk t = true := fun t => by
    have e1 : ∀ d : UInt8, (small d || digit d || true && big d || ([95] : List UInt8).contains d) = (Ex.letter d || digit d) := fun d => by
      rw [has1]
      unfold Ex.letter
      cases small d <;> cases digit d <;> cases big d <;> cases (d == 95) <;> rfl
    unfold opOk ofL
    rw [show (fun d : UInt8 => small d || digit d || true && big d || ([95] : List UInt8).contains d) = fun d => Ex.letter d || digit d from funext e1]
    simp only [Bool.and_eq_true, decide_eq_true_eq, Bool.not_eq_true', List.isEmpty_eq_false_iff]
    constructor
    · rintro ⟨h1, h2, h3⟩; exact ⟨⟨h1, List.length_pos_iff.1 h2⟩, h3⟩
    · rintro ⟨⟨h1, h2⟩, h3⟩; exact ⟨h1, List.length_pos_iff.2 h2, h3⟩
  have := e (opT (opU w))
  have key : opensL w = if (opT (opU w)).all (fun c => Ex.letter c || digit c) ∧ 1 ≤ (opT (opU w)).length ∧ (opT (opU w)).length ≤ 96 then some (opT (opU w), opQ (opU w)) else none := rfl
  rw [key]
  by_cases h : opOk (opT (opU w)) = true
  · rw [if_pos h, if_pos (this.2 h)]
  · rw [if_neg h, if_neg (fun h2 => h (this.1 h2))]
theorem trim_dash (w : List UInt8) : Lib.trimPrefix w [45] = opU w := by
  unfold Lib.trimPrefix opU Lib.hasPrefix
  cases w with
  | nil => rfl
  | cons c r =>
    by_cases h : c = 45
    · subst h; rfl
    · have h1 : (45 == c) = false := by rw [beq_eq_false_iff_ne]; exact fun e => h e.symm
      have h2 : ¬ (some c = some (45 : UInt8)) := fun e => h (Option.some.inj e)
      rw [List.head?_cons, if_neg h2]
      simp [List.isPrefixOf, h1]
theorem trim_open {w : List UInt8} (h : opening w = true) : Lib.trimPrefix w [60, 60] = w.drop 2 := by
  unfold opening at h
  rw [beq_iff_eq] at h
  unfold Lib.trimPrefix Lib.hasPrefix
  have : ([60, 60] : List UInt8).isPrefixOf w = true := by
    rw [List.isPrefixOf_iff_prefix, ← h]
    exact List.take_prefix 2 w
  rw [this]
  rfl
end Ck
set_option maxRecDepth 100000 in
set_option maxHeartbeats 1000000 in
theorem opens_any (s u : List UInt8) (w : World) {s1 : List UInt8} (H1 : Hid (Lib.trimPrefix s [60, 60] = s1)) (H2 : Hid (Lib.trimPrefix s1 [45] = u)) (hul : u.length ≤ 2000000) {t : List UInt8} {q ok : Bool} (HT : Hid (Ck.opT u = t)) (HQ : Hid (Ck.opQ u = q)) (HO : Hid (Ck.opOk t = ok)) :
    Calls Tryz.prog 177 #[.string (bs s)] w fun e w' => e = .returned (.tuple #[.string (bs t), .bool q, .bool ok]) ∧ Below w.heap.size w w' := by
  have hsz : (bs u).size ≤ 2000000 := by rw [bs_size]; exact hul
  have HZ : Hid ((bs u).size = u.length) := Lib.hid (bs_size u)
  go_enter Tryz.func177, Tryz.ntmps177
  go_wp2_with fail
  refine (trimPre_any s [60, 60] _ H1).mono ?_
  rintro e w1 ⟨rfl, rfl⟩
  go_wp2_with fail
  refine (trimPre_any s1 [45] _ H2).mono ?_
  rintro e w1 ⟨rfl, rfl⟩
  go_upto_region 3 with fail
  go_cut [31] (fun s31 wx => s31 = .bool q ∧ ∃ n, w.drewN n = wx)
  case first =>
    rcases Nat.lt_or_ge u.length 2 with h2 | h2
    · have n0 : decide ((2 : Int) ≤ ((bs u).size : Int)) = false := by have := HZ.out; rw [decide_eq_false_iff_not]; omega
      have HF : Hid (q = false) := Lib.hid (by rw [← HQ.out, Ck.opQ, decide_eq_false (by omega)]; rfl)
      go_quiet (fail)
      go_wp2_with fail
      go_meet
      exact ⟨by rw [HF.out], _, rfl⟩
    · obtain ⟨m, hm⟩ : ∃ m, u.length = m + 1 := ⟨u.length - 1, by omega⟩
      have n0 : decide ((2 : Int) ≤ ((bs u).size : Int)) = true := by have := HZ.out; rw [decide_eq_true_eq]; omega
      have n1 : 0 < (bs u).size := by have := HZ.out; omega
      have n2 : (0 : Int) < ((bs u).size : Int) := by omega
      have z3 : IntKind.i64.wrap (((bs u).size : Int) - 1) = (m : Int) := by have := HZ.out; rw [IntWalk.i64_in _ (by omega)]; omega
      have z4 : m < (bs u).size := by have := HZ.out; omega
      have z5 : (m : Int) < ((bs u).size : Int) := by omega
      have z6 : (0 : Int) ≤ (m : Int) := by omega
      obtain ⟨c, hc⟩ : ∃ c, (bs u)[0]'n1 = c := ⟨_, rfl⟩
      obtain ⟨d, hd⟩ : ∃ d, (bs u)[m]'z4 = d := ⟨_, rfl⟩
      have hcb : c.toNat < 256 := UInt8.toNat_lt _
      have hdb : d.toNat < 256 := UInt8.toNat_lt _
      obtain ⟨x1, e1⟩ : ∃ x, ((c.toNat : Int) == 34) = x := ⟨_, rfl⟩
      obtain ⟨x2, e2⟩ : ∃ x, ((c.toNat : Int) == 39) = x := ⟨_, rfl⟩
      obtain ⟨x3, e3⟩ : ∃ x, ((d.toNat : Int) == (c.toNat : Int)) = x := ⟨_, rfl⟩
      have HF : Hid (q = ((x1 || x2) && x3)) := Lib.hid (by
        have a1 : (c == 34) = x1 := by rw [← e1, show (34 : Int) = (((34 : UInt8).toNat : Nat) : Int) from rfl, eq_int']
        have a2 : (c == 39) = x2 := by rw [← e2, show (39 : Int) = (((39 : UInt8).toNat : Nat) : Int) from rfl, eq_int']
        have a3 : (d == c) = x3 := by rw [← e3, eq_int']
        have h0 : u.head? = some c := by rw [List.head?_eq_getElem?]; exact (bs_at u 0 n1).trans (by rw [hc])
        have hl : u.getLast? = some d := by rw [List.getLast?_eq_getElem?, hm, Nat.add_sub_cancel]; exact (bs_at u m z4).trans (by rw [hd])
        have so : ∀ a b : UInt8, (some a == some b) = (a == b) := fun a b => rfl
        rw [← HQ.out, Ck.opQ, decide_eq_true h2, h0, hl, so, so, so, a1, a2, a3, Bool.true_and])
      cases x1 <;> cases x2 <;> cases x3 <;> (
        go_quiet (fail)
        go_wp2_with fail
        go_meet
        exact ⟨by rw [HF.out]; rfl, _, rfl⟩)
  case rest =>
    obtain ⟨rfl, nq, rfl⟩ := hcut
    obtain ⟨o, ho⟩ : ∃ o, Hid (Ck.ofL t [95] true = o) := ⟨_, Lib.hid rfl⟩
    have htl : t.length ≤ u.length := by
      rw [← HT.out, Ck.opT]
      split
      · rw [List.length_dropLast, List.length_drop]; omega
      · omega
    have htz : (bs t).size ≤ 2000000 := by rw [bs_size]; omega
    obtain ⟨b3, e3⟩ : ∃ b, decide (((bs t).size : Int) ≤ 96) = b := ⟨_, rfl⟩
    have HF : Hid (ok = (o && b3)) := Lib.hid (by
      have h3 : decide (t.length ≤ 96) = b3 := by rw [← e3, bs_size, decide_eq_decide]; omega
      rw [← HO.out, Ck.opOk, ho.out, h3])
    cases q with
    | false =>
      have ht : u = t := by have := HT.out; rw [Ck.opT, HQ.out] at this; exact this
      subst ht
      cases o <;> cases b3 <;> (
        go_wp2_with fail
        refine (of_us u hul _ ho).mono ?_
        rintro e w1 ⟨rfl, rfl⟩
        go_wp2_with fail
        go_ret3
        exact ⟨by rw [HF.out]; rfl, below_drewN (Below.refl _ _) _⟩)
    | true =>
      have hu2 : 2 ≤ u.length := by
        have h := HQ.out
        rw [Ck.opQ, Bool.and_eq_true, Bool.and_eq_true, decide_eq_true_eq] at h
        exact h.1.1
      have ht : (u.drop 1).dropLast = t := by have := HT.out; rw [Ck.opT, HQ.out] at this; exact this
      obtain ⟨m, hm⟩ : ∃ m, u.length = m + 1 := ⟨u.length - 1, by omega⟩
      have z3 : IntKind.i64.wrap (((bs u).size : Int) - 1) = (m : Int) := by have := HZ.out; rw [IntWalk.i64_in _ (by omega)]; omega
      have sl : ∀ wx, (Instr.slice 9 (.string (bs u)) (some (.int .i64 1)) (some (.int .i64 (m : Int))) none).run Tryz.prog wx = .ok (.string (bs t)) wx := by
        have h := slice_lit (bs u) 1 m 1 (m : Int) rfl rfl (by omega) (by rw [bs_size]; omega)
        rw [ext_bs, bl_bs] at h
        have e4 : (u.drop 1).take (m - 1) = t := by
          rw [← ht, List.dropLast_eq_take, List.length_drop, hm, Nat.add_sub_cancel]
        rw [e4] at h
        exact h
      clear ht
      cases o <;> cases b3 <;> (
        go_wp2_with fail
        refine (of_us t (by omega) _ ho).mono ?_
        rintro e w1 ⟨rfl, rfl⟩
        go_wp2_with fail
        go_ret3
        exact ⟨by rw [HF.out]; rfl, below_drewN (Below.refl _ _) _⟩)
end Go.Proofs.YtnlkmljdcmfogaaGreatDoor
