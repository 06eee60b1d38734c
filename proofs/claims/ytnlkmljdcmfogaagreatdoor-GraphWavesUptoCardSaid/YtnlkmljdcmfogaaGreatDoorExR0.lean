/- expand's reader: escapes, name, walked. expand's read: its state in memory; what it has read so far is told, walked. -/
import Derived.Test.YtnlkmljdcmfogaaGreatDoorGwU0
import Derived.Test.YtnlkmljdcmfogaaGreatDoorCkM0
import Derived.Deep.QuietTactic
import Derived.BigQuiet
import Derived.Test.YtnlkmljdcmfogaaGreatDoorOwn0
import Derived.Deep.RegionLaw
import Derived.Deep.RegionHeld3
import Derived.Deep.DeepCutAuto
namespace Go.Proofs.YtnlkmljdcmfogaaGreatDoor
open Go Go.RowKit
def kdI : Ex.Kd → Int
  | .plain => 0
  | .braces => 1
  | .quoted => 2
  | .document => 3
theorem eq_int (c k : UInt8) : ((c.toNat : Int) == (k.toNat : Int)) = (c == k) := by
  have := ne_int c k
  rw [bne] at this
  cases h : ((c.toNat : Int) == (k.toNat : Int)) <;> cases h2 : (c == k) <;> simp_all
def escB (x1 x2 x3 : Bool) : Ex.Kd → Bool
  | .quoted => x1 || x2 || x3
  | .document => x2 || x3
  | _ => true
set_option maxRecDepth 100000 in
set_option maxHeartbeats 1000000 in
theorem escapes_any (k : Ex.Kd) (c : UInt8) {w : World} {R p : Nat} {s : List UInt8} {e : UInt8} (h : Rdr w R s p e) {b : Bool} (H : Hid (Ex.escs k e c = b)) : Calls Tryz.prog 265 #[.pointer (some ⟨R, 0, none⟩), .int .i64 (kdI k), .int .u8 (c.toNat : Int)] w fun r w' => r = .returned (.bool b) ∧ w = w' := by
  have c2 : w.cell? ⟨R, 2, none⟩ = some (.int .u8 (e.toNat : Int)) := h.cell 2
  obtain ⟨x1, e1⟩ : ∃ x, ((c.toNat : Int) == 34) = x := ⟨_, rfl⟩
  obtain ⟨x2, e2⟩ : ∃ x, ((c.toNat : Int) == 36) = x := ⟨_, rfl⟩
  obtain ⟨x3, e3⟩ : ∃ x, ((c.toNat : Int) == (e.toNat : Int)) = x := ⟨_, rfl⟩
  have f1 : (c == 34) = x1 := by rw [← e1, show (34 : Int) = (((34 : UInt8).toNat : Nat) : Int) from rfl, eq_int]
  have f2 : (c == 36) = x2 := by rw [← e2, show (36 : Int) = (((36 : UInt8).toNat : Nat) : Int) from rfl, eq_int]
  have f3 : (c == e) = x3 := by rw [← e3, eq_int]
  have HB : Hid (b = escB x1 x2 x3 k) := by
    show _ = _
    rw [← H.out, ← f1, ← f2, ← f3]
    cases k <;> rfl
  clear f1 f2 f3 H h
  cases k with
  | plain =>
    simp only [kdI]
    go_enter Tryz.func265, Tryz.ntmps265
    go_wp2_with fail
    go_ret
    exact ⟨by rw [HB.out]; rfl, rfl⟩
  | braces =>
    simp only [kdI]
    go_enter Tryz.func265, Tryz.ntmps265
    go_wp2_with fail
    go_ret
    exact ⟨by rw [HB.out]; rfl, rfl⟩
  | quoted =>
    simp only [kdI]
    cases x1 <;> cases x2 <;> cases x3 <;> (
      go_enter Tryz.func265, Tryz.ntmps265
      go_wp2_with fail
      go_ret
      exact ⟨by rw [HB.out]; rfl, rfl⟩)
  | document =>
    simp only [kdI]
    clear e1
    cases x2 <;> cases x3 <;> (
      go_enter Tryz.func265, Tryz.ntmps265
      go_wp2_with fail
      go_ret
      exact ⟨by rw [HB.out]; rfl, rfl⟩)
namespace Ex
/-- a name's byte. -/
def ng (z : Bool) (c : UInt8) : Bool := letter c || (!z && Ck.digit c)
def nmG : Bool → List UInt8 → Nat
  | _, [] => 0
  | z, c :: r => if ng z c then 1 + nmG false r else 0
theorem nmG_take : ∀ r : List UInt8, nmG false r = (r.takeWhile fun d => letter d || Ck.digit d).length
  | [] => rfl
  | c :: r => by
    rw [nmG, List.takeWhile_cons]
    show (if (letter c || (!false && Ck.digit c)) then _ else _) = _
    rw [Bool.not_false, Bool.true_and, nmG_take r]
    cases (letter c || Ck.digit c) with
    | true => simp; omega
    | false => rfl
theorem nmL_go (s : List UInt8) : nmL s = nmG true s := by
  cases s with
  | nil => rfl
  | cons c r =>
    rw [nmL, nmG, nmG_take]
    show _ = if (letter c || (!true && Ck.digit c)) then _ else _
    rw [Bool.not_true, Bool.false_and, Bool.or_false]
/-- the byte, by its number. -/
theorem ng_is (z : Bool) (c : UInt8) : ng z c = (decide ((97 : Int) ≤ (c.toNat : Int) ∧ (c.toNat : Int) ≤ 122 ∨ (65 : Int) ≤ (c.toNat : Int) ∧ (c.toNat : Int) ≤ 90 ∨ (c.toNat : Int) = 95 ∨ z = false ∧ (48 : Int) ≤ (c.toNat : Int) ∧ (c.toNat : Int) ≤ 57)) := by
  have h95 : (c == 95) = decide ((c.toNat : Int) = 95) := by
    rw [← eq_int, Bool.eq_iff_iff, beq_iff_eq, decide_eq_true_eq]
    exact Iff.rfl
  unfold ng letter
  rw [small_is, big_is, digit_is, h95, Bool.eq_iff_iff]
  cases z <;> simp only [Bool.or_eq_true, Bool.and_eq_true, decide_eq_true_eq, Bool.not_false, Bool.not_true] <;> simp <;> omega
end Ex
set_option maxRecDepth 100000 in
set_option maxHeartbeats 2000000 in
theorem name_any {w : World} {R p : Nat} {s : List UInt8} {e : UInt8} (h : Rdr w R s p e) (hp : p ≤ s.length) (hs : s.length ≤ exMax) {n : Nat} (H : Hid (Ex.nmL (s.drop p) = n)) : Calls Tryz.prog 278 #[.pointer (some ⟨R, 0, none⟩)] w fun r w' => r = .returned (.string (bs ((s.drop p).take n))) ∧ Below w.heap.size w w' := by
  have c0 : w.cell? ⟨R, 0, none⟩ = some (.string (bs s)) := h.cell 0
  have c1 : w.cell? ⟨R, 1, none⟩ = some (.int .i64 (p : Int)) := h.cell 1
  have hz := bs_size s
  have HZ := Lib.hid hz
  have hp2 : p ≤ (bs s).size := by omega
  have hs2 : (bs s).size ≤ 2000000 := by unfold exMax at hs; omega
  have H0 : Hid (p - p + Ex.nmG (p == p) (s.drop p) = n) := by show _ = _; rw [← H.out, Ex.nmL_go, Nat.sub_self, Nat.zero_add]; simp
  have hn : n ≤ s.length - p := by have := Ex.nm_le (s.drop p); rw [H.out, List.length_drop] at this; exact this
  have HN := Lib.hid hn
  clear hz H h hn hs
  go_enter Tryz.func278, Tryz.ntmps278
  go_wp2_with fail
  go_loopw [3] (fun t3 wr => ∃ i : Nat, p ≤ i ∧ i ≤ (bs s).size ∧ t3 = .int .i64 (i : Int) ∧ Hid (i - p + Ex.nmG (i == p) (s.drop i) = n) ∧ w = wr) (fun t3 _ => (bs s).size - (intOf t3).toNat)
  case atStart => exact ⟨p, by omega, hp2, rfl, H0, by first | rfl | trivial⟩
  case round =>
    clear H0
    obtain ⟨i, hpi, hi, rfl, HR, rfl⟩ := hrel
    have j0 : (0 : Int) ≤ (i : Int) := by omega
    have fin : ∀ m, m = n → i = p + m → Hid ((bs s).extract p i = bs ((s.drop p).take n)) := fun m hm hi => by
      subst hm
      show _ = _
      rw [← bs_bl ((bs s).extract p i), bl_extract, hi, show p + m - p = m by omega]
      rfl
    rcases Nat.lt_or_ge i (bs s).size with hin | hin
    · have i0 : decide ((i : Int) < ((bs s).size : Int)) = true := by rw [decide_eq_true_eq]; omega
      have i1 : (i : Int) < ((bs s).size : Int) := by omega
      have hil : i < s.length := by rw [← HZ.out]; exact hin
      have hR := HR.out
      rw [List.drop_eq_getElem_cons hil, show s[i] = (bs s)[i]'hin from rfl, Ex.nmG] at hR
      obtain ⟨c, hc⟩ : ∃ c, (bs s)[i]'hin = c := ⟨_, rfl⟩
      rw [hc] at hR
      have hby : c.toNat < 256 := UInt8.toNat_lt _
      obtain ⟨q, hq⟩ : ∃ q, Ex.ng (i == p) c = q := ⟨_, rfl⟩
      rw [hq] at hR
      rw [Ex.ng_is] at hq
      have HQ := Lib.hid hq
      have HN2 := Lib.hid hR
      have hcases : ((c.toNat : Int) = 95) ∨ ((97 : Int) ≤ (c.toNat : Int) ∧ (c.toNat : Int) ≤ 122) ∨ ((65 : Int) ≤ (c.toNat : Int) ∧ (c.toNat : Int) ≤ 90) ∨ ((48 : Int) ≤ (c.toNat : Int) ∧ (c.toNat : Int) ≤ 57 ∧ i = p) ∨ ((48 : Int) ≤ (c.toNat : Int) ∧ (c.toNat : Int) ≤ 57 ∧ p < i) ∨ ((c.toNat : Int) < 48) ∨ ((57 : Int) < (c.toNat : Int) ∧ (c.toNat : Int) < 65) ∨ ((90 : Int) < (c.toNat : Int) ∧ (c.toNat : Int) < 95) ∨ ((c.toNat : Int) = 96) ∨ ((122 : Int) < (c.toNat : Int)) := by omega
      have HC := Lib.hid hcases
      clear hR HR hq hil hcases
      go_upto_region 4 with fail
      go_cut [55] (fun s55 wx => s55 = .bool (!q) ∧ w = wx)
      case first =>
        clear fin
        have hq := HQ.out
        rcases HC.out with h | h | h | h | h | h | h | h | h | h
        · have t : ((c.toNat : Int) != 95) = false := by rw [h]; rfl
          have HF : Hid (q = true) := by show _ = _; rw [← hq, decide_eq_true_eq]; omega
          clear hq h
          go_wp2_with fail
          go_meet
          exact ⟨by rw [HF.out]; rfl, by first | rfl | trivial⟩
        all_goals have t : ((c.toNat : Int) != 95) = true := by rw [bne_iff_ne]; omega
        · obtain ⟨h1, h2⟩ := h
          have t1 : decide ((c.toNat : Int) < 97) = false := by rw [decide_eq_false_iff_not]; omega
          have t2 : decide ((122 : Int) < (c.toNat : Int)) = false := by rw [decide_eq_false_iff_not]; omega
          have HF : Hid (q = true) := by show _ = _; rw [← hq, decide_eq_true_eq]; omega
          clear hq
          go_wp2_with fail
          go_meet
          exact ⟨by rw [HF.out]; rfl, by first | rfl | trivial⟩
        · obtain ⟨h1, h2⟩ := h
          have t1 : decide ((c.toNat : Int) < 97) = true := by rw [decide_eq_true_eq]; omega
          have t3 : decide ((c.toNat : Int) < 65) = false := by rw [decide_eq_false_iff_not]; omega
          have t4 : decide ((90 : Int) < (c.toNat : Int)) = false := by rw [decide_eq_false_iff_not]; omega
          have HF : Hid (q = true) := by show _ = _; rw [← hq, decide_eq_true_eq]; omega
          clear hq
          go_wp2_with fail
          go_meet
          exact ⟨by rw [HF.out]; rfl, by first | rfl | trivial⟩
        · obtain ⟨h1, h2, h3⟩ := h
          have t1 : decide ((c.toNat : Int) < 97) = true := by rw [decide_eq_true_eq]; omega
          have t3 : decide ((c.toNat : Int) < 65) = true := by rw [decide_eq_true_eq]; omega
          have t5 : decide ((c.toNat : Int) < 48) = false := by rw [decide_eq_false_iff_not]; omega
          have t6 : decide ((57 : Int) < (c.toNat : Int)) = false := by rw [decide_eq_false_iff_not]; omega
          have t7 : ((i : Int) == (p : Int)) = true := by rw [beq_iff_eq]; omega
          have hz : (i == p) = true := by rw [beq_iff_eq]; exact h3
          rw [hz] at hq
          have HF : Hid (q = false) := by show _ = _; rw [← hq, decide_eq_false_iff_not]; simp; omega
          clear hq h3 hz
          go_wp2_with fail
          go_meet
          exact ⟨by rw [HF.out]; rfl, by first | rfl | trivial⟩
        · obtain ⟨h1, h2, h3⟩ := h
          have t1 : decide ((c.toNat : Int) < 97) = true := by rw [decide_eq_true_eq]; omega
          have t3 : decide ((c.toNat : Int) < 65) = true := by rw [decide_eq_true_eq]; omega
          have t5 : decide ((c.toNat : Int) < 48) = false := by rw [decide_eq_false_iff_not]; omega
          have t6 : decide ((57 : Int) < (c.toNat : Int)) = false := by rw [decide_eq_false_iff_not]; omega
          have t7 : ((i : Int) == (p : Int)) = false := by rw [beq_eq_false_iff_ne]; omega
          have hz : (i == p) = false := by rw [beq_eq_false_iff_ne]; omega
          rw [hz] at hq
          have HF : Hid (q = true) := by show _ = _; rw [← hq, decide_eq_true_eq]; simp; omega
          clear hq h3 hz
          go_wp2_with fail
          go_meet
          exact ⟨by rw [HF.out]; rfl, by first | rfl | trivial⟩
        · have t1 : decide ((c.toNat : Int) < 97) = true := by rw [decide_eq_true_eq]; omega
          have t3 : decide ((c.toNat : Int) < 65) = true := by rw [decide_eq_true_eq]; omega
          have t5 : decide ((c.toNat : Int) < 48) = true := by rw [decide_eq_true_eq]; omega
          have HF : Hid (q = false) := by show _ = _; rw [← hq, decide_eq_false_iff_not]; omega
          clear hq
          go_wp2_with fail
          go_meet
          exact ⟨by rw [HF.out]; rfl, by first | rfl | trivial⟩
        · obtain ⟨h1, h2⟩ := h
          have t1 : decide ((c.toNat : Int) < 97) = true := by rw [decide_eq_true_eq]; omega
          have t3 : decide ((c.toNat : Int) < 65) = true := by rw [decide_eq_true_eq]; omega
          have t5 : decide ((c.toNat : Int) < 48) = false := by rw [decide_eq_false_iff_not]; omega
          have t6 : decide ((57 : Int) < (c.toNat : Int)) = true := by rw [decide_eq_true_eq]; omega
          have HF : Hid (q = false) := by show _ = _; rw [← hq, decide_eq_false_iff_not]; omega
          clear hq
          go_wp2_with fail
          go_meet
          exact ⟨by rw [HF.out]; rfl, by first | rfl | trivial⟩
        · obtain ⟨h1, h2⟩ := h
          have t1 : decide ((c.toNat : Int) < 97) = true := by rw [decide_eq_true_eq]; omega
          have t3 : decide ((c.toNat : Int) < 65) = false := by rw [decide_eq_false_iff_not]; omega
          have t4 : decide ((90 : Int) < (c.toNat : Int)) = true := by rw [decide_eq_true_eq]; omega
          have t5 : decide ((c.toNat : Int) < 48) = false := by rw [decide_eq_false_iff_not]; omega
          have t6 : decide ((57 : Int) < (c.toNat : Int)) = true := by rw [decide_eq_true_eq]; omega
          have HF : Hid (q = false) := by show _ = _; rw [← hq, decide_eq_false_iff_not]; omega
          clear hq
          go_wp2_with fail
          go_meet
          exact ⟨by rw [HF.out]; rfl, by first | rfl | trivial⟩
        · have t1 : decide ((c.toNat : Int) < 97) = true := by rw [decide_eq_true_eq]; omega
          have t3 : decide ((c.toNat : Int) < 65) = false := by rw [decide_eq_false_iff_not]; omega
          have t4 : decide ((90 : Int) < (c.toNat : Int)) = true := by rw [decide_eq_true_eq]; omega
          have t5 : decide ((c.toNat : Int) < 48) = false := by rw [decide_eq_false_iff_not]; omega
          have t6 : decide ((57 : Int) < (c.toNat : Int)) = true := by rw [decide_eq_true_eq]; omega
          have HF : Hid (q = false) := by show _ = _; rw [← hq, decide_eq_false_iff_not]; omega
          clear hq h
          go_wp2_with fail
          go_meet
          exact ⟨by rw [HF.out]; rfl, by first | rfl | trivial⟩
        · have t1 : decide ((c.toNat : Int) < 97) = false := by rw [decide_eq_false_iff_not]; omega
          have t2 : decide ((122 : Int) < (c.toNat : Int)) = true := by rw [decide_eq_true_eq]; omega
          have t3 : decide ((c.toNat : Int) < 65) = false := by rw [decide_eq_false_iff_not]; omega
          have t4 : decide ((90 : Int) < (c.toNat : Int)) = true := by rw [decide_eq_true_eq]; omega
          have t5 : decide ((c.toNat : Int) < 48) = false := by rw [decide_eq_false_iff_not]; omega
          have t6 : decide ((57 : Int) < (c.toNat : Int)) = true := by rw [decide_eq_true_eq]; omega
          have HF : Hid (q = false) := by show _ = _; rw [← hq, decide_eq_false_iff_not]; omega
          clear hq
          go_wp2_with fail
          go_meet
          exact ⟨by rw [HF.out]; rfl, by first | rfl | trivial⟩
      case rest =>
        obtain ⟨rfl, rfl⟩ := hcut
        clear HC HQ
        cases q with
        | true =>
          have HF : Hid (i + 1 - p + Ex.nmG (i + 1 == p) (s.drop (i + 1)) = n) := by
            show _ = _
            have : (i + 1 == p) = false := by rw [beq_eq_false_iff_ne]; omega
            rw [this, ← HN2.out, if_pos rfl]
            omega
          clear HN2 fin
          go_wp2_with fail
          go_roundw
          case rel => exact ⟨i + 1, by omega, by omega, by go_num, HF, by first | rfl | trivial⟩
          case measure => simp [intOf]; omega
        | false =>
          have HF := fin (i - p) (by have h := HN2.out; rw [if_neg (by simp)] at h; omega) (by omega)
          have hpi2 : (p : Int) ≤ (i : Int) := by omega
          clear HN2 fin
          go_wp2_with fail
          go_quiet (fail)
          go_wp2_with fail
          go_ret
          exact ⟨by rw [HF.out]; rfl, below_drewN (Below.refl _ _) _⟩
    · have i0 : decide ((i : Int) < ((bs s).size : Int)) = false := by rw [decide_eq_false_iff_not]; omega
      have hil : s.length ≤ i := by rw [← HZ.out]; exact hin
      have HF := fin (i - p) (by have := HR.out; rw [List.drop_eq_nil_of_le hil, Ex.nmG] at this; omega) (by omega)
      have hpi2 : (p : Int) ≤ (i : Int) := by omega
      clear HR hil fin
      go_wp2_with fail
      go_quiet (fail)
      go_wp2_with fail
      go_ret
      exact ⟨by rw [HF.out]; rfl, below_drewN (Below.refl _ _) _⟩
end Go.Proofs.YtnlkmljdcmfogaaGreatDoor
namespace Go.Proofs.YtnlkmljdcmfogaaGreatDoor
open Go Go.RowKit
theorem pieceK : ElemK Tryz.prog 374 401 .nilIface 1 16 := ⟨Tryz.underlying374, by kernel_rfl, rfl, by decide⟩
theorem setCell_grown' (w : World) (a : Addr) (v : Value) : w.grownBy (w.setCell a v) (some a.block) := ⟨rfl, rfl, rfl, by simp [World.setCell], fun k _ hk => by
  have : a.block ≠ k := fun e => hk (by rw [e])
  simp [World.setCell, Array.getElem?_modify, this]⟩
theorem Fx.set_ (w : World) (a : Addr) (v : Value) : Fx (fun b => b = a.block) w (w.setCell a v) := (Fx.of_grown (setCell_grown' w a v)).mono fun b _ h => by injection h with h; exact h.symm
/-- read's state: its reader at R; r, l and from in the blocks h, h + 1, h + 2. -/
structure RS (w : World) (R h : Nat) (s : List UInt8) (e : UInt8) (p q : Nat) (v : Value) (xs : List Value) (ts : List Ex.Tk) : Prop where
  rd : Rdr w R s p e
  box : Blk w h 371 #[.pointer (some ⟨R, 0, none⟩)]
  lb : Blk w (h + 1) 374 #[v]
  fb : Blk w (h + 2) 3 #[.int .i64 (q : Int)]
  own : w.ownsRow (h + 3) 401 1 v xs.length xs
  pl : PL w (fun b => b < h + 3 ∨ v.ownBlock = some b) ts xs
  lt : R < h
section
variable {w w' : World} {R h : Nat} {s : List UInt8} {e : UInt8} {p q : Nat} {v : Value} {xs : List Value} {ts : List Ex.Tk}
theorem RS.size (H : RS w R h s e p q v xs ts) : h + 3 ≤ w.heap.size := H.fb.lt
/-- what leaves the state alone. -/
theorem RS.fx {S : Nat → Prop} (H : RS w R h s e p q v xs ts) (k : Fx S w w') (hS : ∀ b, b < w.heap.size → ¬ S b) : RS w' R h s e p q v xs ts :=
  ⟨k.blk H.rd (hS _ (Blk.lt H.rd)), k.blk H.box (hS _ H.box.lt), k.blk H.lb (hS _ H.lb.lt), k.blk H.fb (hS _ H.fb.lt), k.own H.own (fun g hg => hS g (H.own.lt g hg).2), H.pl.fx k (fun b hb h => h.elim (fun h => absurd h (hS b hb)) id), H.lt⟩
theorem RS.drewN (H : RS w R h s e p q v xs ts) (n : Nat) : RS (w.drewN n) R h s e p q v xs ts := H.fx (S := fun _ => False) (Fx.new (below_drewN (Below.refl _ _) n)) (fun _ _ h => h)
theorem RS.new (H : RS w R h s e p q v xs ts) (k : Below w.heap.size w w') : RS w' R h s e p q v xs ts := H.fx (S := fun _ => False) (Fx.new k) (fun _ _ h => h)
/-- the reader moves. -/
theorem RS.move {S : Nat → Prop} (H : RS w R h s e p q v xs ts) (k : Fx S w w') (hS : ∀ b, b < w.heap.size → S b → b = R) {p' : Nat} (hr : Rdr w' R s p' e) : RS w' R h s e p' q v xs ts := by
  have hlt := H.lt
  have ne : ∀ b, b < w.heap.size → h ≤ b → ¬ S b := fun b hb hh hs => by have := hS b hb hs; omega
  exact ⟨hr, k.blk H.box (ne _ H.box.lt (by omega)), k.blk H.lb (ne _ H.lb.lt (by omega)), k.blk H.fb (ne _ H.fb.lt (by omega)), k.own H.own (fun g hg => ne g (H.own.lt g hg).2 (by have := (H.own.lt g hg).1; omega)), H.pl.fx k (fun b hb h => h.elim (fun h => .inl (by have := hS b hb h; omega)) id), hlt⟩
theorem RS.at_ (H : RS w R h s e p q v xs ts) (p' : Nat) : RS (w.setCell ⟨R, 1, none⟩ (.int .i64 (p' : Int))) R h s e p' q v xs ts :=
  H.move (Fx.set_ w ⟨R, 1, none⟩ _) (fun _ _ h => h) (by have := H.rd.set_ 1 (.int .i64 (p' : Int)); unfold Rdr; simpa using this)
theorem RS.from_ (H : RS w R h s e p q v xs ts) (q' : Nat) : RS (w.setCell ⟨h + 2, 0, none⟩ (.int .i64 (q' : Int))) R h s e p q' v xs ts := by
  have k := Fx.set_ w ⟨h + 2, 0, none⟩ (.int .i64 (q' : Int))
  have hlt := H.lt
  refine ⟨k.blk H.rd (by show ¬ R = h + 2; omega), k.blk H.box (by show ¬ h = h + 2; omega), k.blk H.lb (by show ¬ h + 1 = h + 2; omega), ?_, k.own H.own (fun g hg => by have := (H.own.lt g hg).1; show ¬ g = h + 2; omega), H.pl.fx k (fun b hb hh => hh.elim (fun hh => .inl (by have h2 : b = h + 2 := hh; omega)) id), hlt⟩
  have := H.fb.set_ 0 (.int .i64 (q' : Int))
  simpa using this
/-- pieces more, appended and stored. -/
theorem RS.push {v' : Value} {ys : List Value} {us : List Ex.Tk} (H : RS w R h s e p q v xs ts) (k : w.grownBy w' v.ownBlock) (hown : w'.ownsRow (h + 3) 401 1 v' (xs ++ ys).length (xs ++ ys)) (hv : v'.ownBlock = v.ownBlock ∨ ∃ g, w.heap.size ≤ g ∧ v'.ownBlock = some g)
    (hu : PL w (fun b => b < h + 3 ∨ v.ownBlock = some b) us ys) : RS (w'.setCell ⟨h + 1, 0, none⟩ v') R h s e p q v' (xs ++ ys) (ts ++ us) := by
  have k1 := Fx.of_grown k
  have k2 := Fx.set_ w' ⟨h + 1, 0, none⟩ v'
  have hlt := H.lt
  have hsz := H.size
  have ne : ∀ b, b < h + 3 → ¬ v.ownBlock = some b := fun b hb hs => by have := (H.own.lt b hs).1; omega
  have hX : ∀ b, b < w.heap.size → (v.ownBlock = some b) ∨ (b < h + 3 ∨ v'.ownBlock = some b) → b < h + 3 ∨ v.ownBlock = some b := fun b hb hh => by
    rcases hh with hh | hh | hh
    · exact .inr hh
    · exact .inl hh
    · rcases hv with e | ⟨g, hg, e⟩
      · exact .inr (e ▸ hh)
      · rw [e] at hh; injection hh with hh; omega
  have hp1 : PL w' (fun b => b < h + 3 ∨ v'.ownBlock = some b) (ts ++ us) (xs ++ ys) := (H.pl.append hu).fx k1 hX
  refine ⟨k2.blk (k1.blk H.rd (ne _ (by omega))) (by show ¬ R = h + 1; omega), k2.blk (k1.blk H.box (ne _ (by omega))) (by show ¬ h = h + 1; omega), ?_, k2.blk (k1.blk H.fb (ne _ (by omega))) (by show ¬ h + 2 = h + 1; omega), k2.own hown (fun g hg => by have := (hown.lt g hg).1; show ¬ g = h + 1; omega), hp1.fx k2 (fun b hb hh => hh.elim (fun hh => .inl (by have h2 : b = h + 1 := hh; omega)) id), hlt⟩
  have := (k1.blk H.lb (ne _ (by omega))).set_ 0 v'
  simpa using this
end
/-- the bytes that are not told yet. -/
def chunk (s : List UInt8) (q p : Nat) : List UInt8 := (s.drop q).take (p - q)
set_option maxRecDepth 100000 in
set_option maxHeartbeats 1000000 in
/-- tell: nothing is to be told. -/
theorem tell_no {w : World} {R h : Nat} {s : List UInt8} {e : UInt8} {p q : Nat} {v : Value} {xs : List Value} {ts : List Ex.Tk} (H : RS w R h s e p q v xs ts) (hpq : p ≤ q) :
    Calls Tryz.prog 264 #[.pointer (some ⟨h, 0, none⟩), .pointer (some ⟨h + 2, 0, none⟩), .pointer (some ⟨h + 1, 0, none⟩)] w fun r w' => r = .returned (.tuple #[]) ∧ ∃ n, w' = w.drewN n := by
  have b0 : w.cell? ⟨h, 0, none⟩ = some (.pointer (some ⟨R, 0, none⟩)) := H.box.cell 0
  have b1 : w.cell? ⟨R, 1, none⟩ = some (.int .i64 (p : Int)) := Blk.cell H.rd 1
  have b2 : w.cell? ⟨h + 2, 0, none⟩ = some (.int .i64 (q : Int)) := H.fb.cell 0
  have t0 : decide ((q : Int) < (p : Int)) = false := by rw [decide_eq_false_iff_not]; omega
  have t1 : decide (q < p) = false := by rw [decide_eq_false_iff_not]; omega
  clear H hpq
  go_enter Tryz.func264, Tryz.ntmps264
  go_wp2_with fail
  go_quiet (fail)
  go_wp2_with fail
  go_end0
  exact ⟨rfl, _, rfl⟩
end Go.Proofs.YtnlkmljdcmfogaaGreatDoor
