/- strataref18: piece, walked. -/
import Derived.Test.YtdaejggcjjdhkaaGreatDoorMkC
namespace Go.Proofs.YtdaejggcjjdhkaaGreatDoor
open Go Go.RowKit
namespace Ck
def pg (ed : Bool) (c : UInt8) : Bool := edge c || (!ed && (c == 46 || c == 95 || c == 45))
def goP : Bool → List UInt8 → Bool
  | _, [] => true
  | z, c :: r => pg (z || r.isEmpty) c && goP false r
theorem goP_all : ∀ (r : List UInt8), goP false r = (r.all (fun c => edge c || c == 46 || c == 95 || c == 45) && (r.isEmpty || r.getLast?.any edge))
  | [] => rfl
  | [c] => by
    show (pg true c && true) = _
    unfold pg
    simp
    cases edge c <;> simp
  | c :: d :: r => by
    have ih := goP_all (d :: r)
    have e1 : (c :: d :: r).all (fun c => edge c || c == 46 || c == 95 || c == 45) = ((edge c || c == 46 || c == 95 || c == 45) && (d :: r).all (fun c => edge c || c == 46 || c == 95 || c == 45)) := List.all_cons
    rw [goP, ih, List.getLast?_cons_cons, e1]
    generalize (d :: r).all (fun c => edge c || c == 46 || c == 95 || c == 45) = A
    generalize (d :: r).getLast?.any edge = B
    show (pg false c && (A && (false || B))) = (((edge c || c == 46 || c == 95 || c == 45) && A) && (false || B))
    unfold pg
    cases edge c <;> cases (c == 46) <;> cases (c == 95) <;> cases (c == 45) <;> cases A <;> cases B <;> rfl
theorem piece_go (p : List UInt8) : pieceR p = (goP true p && !p.isEmpty) := by
  cases p with
  | nil => rfl
  | cons c r =>
    unfold pieceR
    rw [goP, goP_all, List.all_cons]
    show (_ && _ && _) = (pg true c && _ && _)
    unfold pg
    cases r with
    | nil => cases he : edge c <;> simp [he]
    | cons d r =>
      rw [List.getLast?_cons_cons]
      simp only [List.head?_cons, Option.any_some, List.isEmpty_cons, Bool.false_or, Bool.not_true, Bool.false_and, Bool.or_false, Bool.not_false, Bool.and_true]
      cases edge c <;> simp
end Ck
set_option maxRecDepth 100000 in
set_option maxHeartbeats 1000000 in
theorem piece18_any (s : List UInt8) (hs : s.length ≤ 2000000) (w : World) {b : Bool} (H : Hid (Ck.pieceR s = b)) : Calls Tryz.prog 107 #[.string (bs s)] w fun e w' => e = .returned (.bool b) ∧ w = w' := by
  have hz := bs_size s
  have HZ := Lib.hid hz
  have hs2 : (bs s).size ≤ 2000000 := by omega
  obtain ⟨n0, en⟩ : ∃ n0, (bs s).toList.isEmpty = n0 := ⟨_, rfl⟩
  have H0 : Hid ((Ck.goP true (s.drop 0) && !n0) = b) := by show _ = _; rw [List.drop_zero, ← en, bs_list, ← H.out, Ck.piece_go]
  clear hz H
  go_enter Tryz.func107, Tryz.ntmps107
  go_wp2_with fail
  go_loopw [3, 4] (fun t3 _ wr => ∃ i : Nat, i ≤ (bs s).size ∧ t3 = .int .i64 (i : Int) ∧ Hid ((Ck.goP (i == 0) (s.drop i) && !n0) = b) ∧ w = wr) (fun t3 _ _ => (bs s).size - (intOf t3).toNat)
  case atStart => exact ⟨0, by omega, rfl, H0, by first | rfl | trivial⟩
  case round =>
    clear H0
    obtain ⟨i, hi, rfl, HR, rfl⟩ := hrel
    have j0 : (0 : Int) ≤ (i : Int) := by omega
    rcases Nat.lt_or_ge i (bs s).size with hin | hin
    · have i0 : decide ((i : Int) < ((bs s).size : Int)) = true := by rw [decide_eq_true_eq]; omega
      have i1 : (i : Int) < ((bs s).size : Int) := by omega
      have hil : i < s.length := by rw [← HZ.out]; exact hin
      have hR := HR.out
      rw [List.drop_eq_getElem_cons hil, show s[i] = (bs s)[i]'hin from rfl, Ck.goP] at hR
      obtain ⟨c, hc⟩ : ∃ c, (bs s)[i]'hin = c := ⟨_, rfl⟩
      rw [hc] at hR
      have hby : c.toNat < 256 := UInt8.toNat_lt _
      obtain ⟨l, hl⟩ : ∃ l, Hid (Ck.small c = l) := ⟨_, Lib.hid rfl⟩
      obtain ⟨d, hd⟩ : ∃ d, Hid (Ck.digit c = d) := ⟨_, Lib.hid rfl⟩
      obtain ⟨x, e1⟩ : ∃ x, ((c.toNat : Int) != 95) = x := ⟨_, rfl⟩
      obtain ⟨m, e2⟩ : ∃ m, ((c.toNat : Int) != 46) = m := ⟨_, rfl⟩
      obtain ⟨n, e3⟩ : ∃ n, ((c.toNat : Int) != 45) = n := ⟨_, rfl⟩
      obtain ⟨z, e4⟩ : ∃ z, (i == 0) = z := ⟨_, rfl⟩
      have e5 : ((i : Int) == 0) = z := by rw [← e4, Bool.eq_iff_iff, beq_iff_eq, beq_iff_eq]; omega
      obtain ⟨y, e6⟩ : ∃ y, ((i : Int) == ((bs s).size : Int) - 1) = y := ⟨_, rfl⟩
      have hwr : IntKind.i64.wrap (((bs s).size : Int) - 1) = ((bs s).size : Int) - 1 := IntWalk.i64_in _ (by omega)
      obtain ⟨q, hq⟩ : ∃ q, (!l && !d && (z || y || (m && x && n))) = q := ⟨_, rfl⟩
      have hT : Ck.pg ((i == 0) || (s.drop (i + 1)).isEmpty) c = !q := by
        have f1 : (c == 95) = !x := by rw [← e1, show (95 : Int) = (((95 : UInt8).toNat : Nat) : Int) from rfl, ne_int, Bool.not_not]
        have f2 : (c == 46) = !m := by rw [← e2, show (46 : Int) = (((46 : UInt8).toNat : Nat) : Int) from rfl, ne_int, Bool.not_not]
        have f3 : (c == 45) = !n := by rw [← e3, show (45 : Int) = (((45 : UInt8).toNat : Nat) : Int) from rfl, ne_int, Bool.not_not]
        have f4 : (s.drop (i + 1)).isEmpty = y := by
          rw [← e6, Bool.eq_iff_iff, List.isEmpty_iff, List.drop_eq_nil_iff, beq_iff_eq]
          have := HZ.out
          omega
        unfold Ck.pg Ck.edge
        rw [hl.out, hd.out, f1, f2, f3, f4, e4, ← hq]
        cases l <;> cases d <;> cases x <;> cases m <;> cases n <;> cases z <;> cases y <;> rfl
      rw [hT] at hR
      have HQ := Lib.hid hq
      have HN := Lib.hid hR
      clear hR HR hq hil hT
      go_upto_region 4 with fail
      go_cut [4] (fun s4 wx => s4 = .bool (z || y) ∧ w = wx)
      case first =>
        clear HN
        cases z <;> cases y <;> (
          go_wp2_with fail
          go_meet
          exact ⟨by first | rfl | trivial, by first | rfl | trivial⟩)
      case rest =>
       obtain ⟨rfl, rfl⟩ := hcut
       obtain ⟨ed, hed⟩ : ∃ ed, (z || y) = ed := ⟨_, rfl⟩
       have HQ2 : Hid ((!l && !d && (ed || (m && x && n))) = q) := by show _ = _; rw [← hed]; exact HQ.out
       rw [hed]
       clear HQ hed e4 e5 e6 hwr
       have HQ := HQ2
       clear HQ2
       go_upto_region 5 with fail
       go_cut [52] (fun s52 wx => s52 = .bool q ∧ w = wx)
       case first =>
         clear HN
         cases l with
         | true =>
           cases ed <;> (
             go_wp2_with fail
             refine (small18_any c _ hl).mono ?_
             rintro r w1 ⟨rfl, rfl⟩
             go_wp2_with fail
             go_meet
             exact ⟨by rw [← HQ.out]; rfl, by first | rfl | trivial⟩)
         | false =>
           cases d with
           | true =>
             cases ed <;> (
               go_wp2_with fail
               refine (small18_any c _ hl).mono ?_
               rintro r w1 ⟨rfl, rfl⟩
               go_wp2_with fail
               refine (digit18_any c _ hd).mono ?_
               rintro r w1 ⟨rfl, rfl⟩
               go_wp2_with fail
               go_meet
               exact ⟨by rw [← HQ.out]; rfl, by first | rfl | trivial⟩)
           | false =>
             cases ed <;> cases m <;> cases x <;> cases n <;> (
               go_wp2_with fail
               refine (small18_any c _ hl).mono ?_
               rintro r w1 ⟨rfl, rfl⟩
               go_wp2_with fail
               refine (digit18_any c _ hd).mono ?_
               rintro r w1 ⟨rfl, rfl⟩
               go_wp2_with fail
               go_meet
               exact ⟨by rw [← HQ.out]; rfl, by first | rfl | trivial⟩)
       case rest =>
         obtain ⟨rfl, rfl⟩ := hcut
         clear e1 e2 e3 HQ hl hd
         have hN := HN.out
         cases q with
         | true =>
           have HF : Hid (b = false) := by show _ = _; rw [← hN]; rfl
           clear hN HN
           go_wp2_with fail
           go_ret
           exact ⟨by rw [HF.out]; rfl, by first | rfl | trivial⟩
         | false =>
           have HF : Hid ((Ck.goP (i + 1 == 0) (s.drop (i + 1)) && !n0) = b) := by show _ = _; rw [← hN]; rfl
           clear hN HN
           go_wp2_with fail
           go_roundw
           case rel => exact ⟨i + 1, by omega, by go_num, HF, by first | rfl | trivial⟩
           case measure => simp [intOf]; omega
    · have i0 : decide ((i : Int) < ((bs s).size : Int)) = false := by rw [decide_eq_false_iff_not]; omega
      have hil : s.length ≤ i := by rw [← HZ.out]; exact hin
      have HF : Hid (b = !n0) := by show _ = _; rw [← HR.out, List.drop_eq_nil_of_le hil]; rfl
      clear HR hil
      cases n0 <;> (
        go_wp2_with fail
        go_ret
        exact ⟨by rw [HF.out]; rfl, by first | rfl | trivial⟩)
end Go.Proofs.YtdaejggcjjdhkaaGreatDoor
