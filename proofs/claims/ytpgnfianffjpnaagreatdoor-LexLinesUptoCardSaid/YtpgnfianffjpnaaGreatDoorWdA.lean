/- words.Split, walked. -/
import Derived.Test.YtpgnfianffjpnaaGreatDoorLxA
import Derived.Test.YtpgnfianffjpnaaGreatDoorStr
import Derived.Test.YtpgnfianffjpnaaGreatDoorOwnK
import Derived.Test.YtpgnfianffjpnaaGreatDoorErrFault
import Derived.Deep.DeepCutAuto
namespace Go.Proofs.YtpgnfianffjpnaaGreatDoor
open Go Go.RowKit

theorem u8_eq (c d : UInt8) : ((c.toNat : Int) == (d.toNat : Int)) = decide (c = d) := by
  rw [Bool.eq_iff_iff, beq_iff_eq, decide_eq_true_eq]
  exact ⟨fun e => UInt8.toNat_inj.1 (by omega), fun e => by rw [e]⟩
theorem u8_no {c d : UInt8} (h : c ≠ d) : ((c.toNat : Int) == (d.toNat : Int)) = false := by rw [u8_eq]; simpa using h
theorem u8_yes {c d : UInt8} (h : c = d) : ((c.toNat : Int) == (d.toNat : Int)) = true := by rw [u8_eq]; simpa using h
theorem wordK : ElemK Tryz.prog 142 146 (.agg #[.int .i64 0, .string ⟨#[]⟩]) 2 24 := ⟨Tryz.underlying142, by kernel_rfl, rfl, by decide⟩
/-- the cells of words. -/
def wdC (l : List Lx.Wd) : List Value := l.flatMap fun w => [.int .i64 (w.at_ : Int), .string (bs w.raw)]
theorem wdC_snoc (l : List Lx.Wd) (w : Lx.Wd) : wdC (l ++ [w]) = wdC l ++ [.int .i64 (w.at_ : Int), .string (bs w.raw)] := by simp [wdC]
theorem wdC_length (l : List Lx.Wd) : (wdC l).length = l.length * 2 := by
  induction l with
  | nil => rfl
  | cons a l ih => rw [show wdC (a :: l) = [.int .i64 (a.at_ : Int), .string (bs a.raw)] ++ wdC l from rfl, List.length_append, ih]; simp; omega
theorem wdC_get : ∀ (l : List Lx.Wd) (j : Nat) (hj : j < l.length), (wdC l)[j * 2]? = some (.int .i64 (l[j].at_ : Int)) ∧ (wdC l)[j * 2 + 1]? = some (.string (bs l[j].raw))
  | a :: l, 0, _ => ⟨rfl, rfl⟩
  | a :: l, j + 1, hj => by
    have := wdC_get l j (by simpa using hj)
    rw [show (j + 1) * 2 = j * 2 + 2 by omega, show wdC (a :: l) = [.int .i64 (a.at_ : Int), .string (bs a.raw)] ++ wdC l from rfl]
    exact this
/-- what Split answers. -/
def WdAns (r : Nat ⊕ List Lx.Wd) (w w' : World) (e : Ending) : Prop := match r with
  | .inl q => e = .returned (.tuple #[.slice none 0 0, eFault 18 0 (q : Int)])
  | .inr l => ∃ v, e = .returned (.tuple #[v, .nilIface]) ∧ w'.ownsRow w.heap.size 146 2 v l.length (wdC l)
set_option maxRecDepth 100000 in
theorem of_any (c : UInt8) (w : World) {d : UInt8} (H : Hid (Lx.escOf c = d)) : Calls Tryz.prog 145 #[.int .u8 (c.toNat : Int)] w fun e w' => e = .returned (.int .u8 (d.toNat : Int)) ∧ w = w' := by
  have hd := H.out
  unfold Lx.escOf at hd
  by_cases h : c = 96
  · have t1 : ((c.toNat : Int) == 96) = true := u8_yes (d := 96) h
    rw [if_pos h] at hd
    subst hd h
    go_enter Tryz.func145, Tryz.ntmps145
    go_wp2_with fail
    go_ret
    exact ⟨rfl, rfl⟩
  · have t1 : ((c.toNat : Int) == 96) = false := u8_no (d := 96) h
    rw [if_neg h] at hd
    subst hd
    go_enter Tryz.func145, Tryz.ntmps145
    go_wp2_with fail
    go_ret
    exact ⟨rfl, rfl⟩
/-- where the machine stands, in the program's numbers, ahead of the switch. -/
def Stand (s : List UInt8) (e : UInt8) (i : Nat) (RES : Nat ⊕ List Lx.Wd) (out : List Lx.Wd) (b : Bool) (k f q : Nat) : Prop :=
  (k = 0 ∧ RES = Lx.putW out (Lx.runW s e (s.drop (i + 1)) (i + 1) .btw)) ∨
  (k = 1 ∧ b = true ∧ f ≤ i ∧ RES = Lx.putW (out ++ [⟨f, Lx.sl s f i⟩]) (Lx.runW s e (s.drop (i + 1)) (i + 1) .btw)) ∨
  (k = 1 ∧ b = false ∧ f ≤ i ∧ ∃ c, s[i]? = some c ∧ RES = Lx.putW out (Lx.runW s e (s.drop (i + 1)) (i + 1) (Lx.inn e c f i))) ∨
  (k = 2 ∧ f ≤ i ∧ q ≤ i ∧ RES = Lx.putW out (Lx.runW s e (s.drop i) i (.sgl f q))) ∨
  (k = 3 ∧ f ≤ i ∧ q ≤ i ∧ RES = Lx.putW out (Lx.runW s e (s.drop i) i (.dbl f q)))
/-- the same at the loop's head. -/
def Stands (s : List UInt8) (e : UInt8) (i : Nat) (RES : Nat ⊕ List Lx.Wd) (out : List Lx.Wd) (k f q : Nat) : Prop :=
  f < i + 1 ∧ q < i + 1 ∧ f ≤ s.length ∧
  ((k = 0 ∧ RES = Lx.putW out (Lx.runW s e (s.drop i) i .btw)) ∨ (k = 1 ∧ RES = Lx.putW out (Lx.runW s e (s.drop i) i (.win f))) ∨
  (k = 2 ∧ RES = Lx.putW out (Lx.runW s e (s.drop i) i (.sgl f q))) ∨ (k = 3 ∧ RES = Lx.putW out (Lx.runW s e (s.drop i) i (.dbl f q))))
theorem blank_three (c : UInt8) {b : Bool} (hb : Lx.blank c = b) : ∃ b1 b2 b3, ((c.toNat : Int) == 32) = b1 ∧ ((c.toNat : Int) == 9) = b2 ∧ ((c.toNat : Int) == 13) = b3 ∧ b = (b1 || b2 || b3) := by
  refine ⟨_, _, _, rfl, rfl, rfl, ?_⟩
  rw [← hb, show (32 : Int) = ((32 : UInt8).toNat : Int) from rfl, show (9 : Int) = ((9 : UInt8).toNat : Int) from rfl, show (13 : Int) = ((13 : UInt8).toNat : Int) from rfl, u8_eq, u8_eq, u8_eq]
  have q : ∀ d : UInt8, (c == d) = decide (c = d) := fun d => by rw [Bool.eq_iff_iff]; simp
  rw [Lx.blank, q, q, q]
set_option maxRecDepth 100000 in
set_option maxHeartbeats 8000000 in
theorem splitW_any (s : List UInt8) (hs : s.length ≤ 2000000) (esc : UInt8) (w : World) {RES : Nat ⊕ List Lx.Wd} (H : Hid (Lx.wordsL s esc = RES)) : Calls Tryz.prog 103 #[.string (bs s), .int .u8 (esc.toNat : Int)] w fun e w' => WdAns RES w w' e ∧ Below w.heap.size w w' := by
  obtain ⟨e, he⟩ : ∃ e, Hid (Lx.escOf esc = e) := ⟨_, Lib.hid rfl⟩
  have hz : (bs s).size = s.length := bs_size s
  have HZ := Lib.hid hz
  have H0 : Hid (Stands s e 0 RES [] 0 0 0) := by
    show Stands _ _ _ _ _ _ _ _
    refine ⟨by omega, by omega, by omega, .inl ⟨rfl, ?_⟩⟩
    rw [Lx.putW_nil, ← H.out, ← he.out, List.drop_zero]; rfl
  have hs2 : (bs s).size ≤ 2000000 := by omega
  clear hz
  go_enter Tryz.func103, Tryz.ntmps103
  go_wp2_with fail
  refine (of_any esc _ he).mono ?_
  rintro e1 w1 ⟨rfl, rfl⟩
  go_wp2_with fail
  go_loopw [6, 7, 8, 9, 10] (fun v t7 t8 t9 t10 wr => ∃ (i k f q : Nat) (out : List Lx.Wd), i ≤ (bs s).size + 1 ∧ out.length ≤ i ∧ t7 = .int .i64 (k : Int) ∧ t8 = .int .i64 (f : Int) ∧ t9 = .int .i64 (q : Int) ∧ t10 = .int .i64 (i : Int) ∧ Hid (Stands s e i RES out k f q) ∧ wr.ownsRow w.heap.size 146 2 v out.length (wdC out) ∧ Below w.heap.size w wr) (fun _ _ _ _ t10 _ => (bs s).size + 2 - (intOf t10).toNat)
  case atStart => exact ⟨0, 0, 0, 0, [], by omega, by simp, rfl, rfl, rfl, rfl, H0, World.ownsRow_nil _ _ _ _, Below.refl _ _⟩
  case round =>
    obtain ⟨i, k, f, q, out, hi, hol, rfl, rfl, rfl, rfl, HS, hown, hB⟩ := hrel
    obtain ⟨AA, ca, rfl⟩ := ownk_form hown
    clear H0
    have hbs := hB.size
    have j0 : (0 : Int) ≤ (i : Int) := by omega
    have j1 : (0 : Int) ≤ (f : Int) := by omega
    have hfl : f < i + 1 := HS.out.1
    have HQ : Hid (q < i + 1) := Lib.hid HS.out.2.1
    rcases Nat.lt_or_ge i (bs s).size with hin | hin
    · have i0 : decide ((i : Int) < ((bs s).size : Int)) = true := by rw [decide_eq_true_eq]; omega
      have i1 : (i : Int) < ((bs s).size : Int) := by omega
      have hby : ((bs s)[i]'hin).toNat < 256 := UInt8.toNat_lt _
      have hil : i < s.length := by rw [← HZ.out]; exact hin
      have hc : s[i] = (bs s)[i]'hin := rfl
      have HC : Hid (s[i]? = some ((bs s)[i]'hin)) := Lib.hid (bs_at s i hin)
      obtain ⟨b, hb⟩ : ∃ b, Hid (Lx.blank ((bs s)[i]'hin) = b) := ⟨_, Lib.hid rfl⟩
      obtain ⟨b1, b2, b3, e1, e2, e3, hbb⟩ := blank_three _ hb.out
      have HBB := Lib.hid hbb
      clear hbb
      go_upto_region 8 with fail
      go_cut [12] (fun s12 wx => s12 = .bool b ∧ wx = wr)
      case first =>
        cases b1 <;> cases b2 <;> cases b3 <;> (
          have hb4 := HBB.out
          subst hb4
          go_wp2_with fail
          go_meet
          exact ⟨rfl, rfl⟩)
      case rest =>
        obtain ⟨rfl, hwx⟩ := hcut
        rw [hwx]
        clear hwx e1 e2 e3 HBB
        go_upto_region 9 with fail
        go_cut [39] (fun s39 wx => ∃ t : Bool, s39 = .bool t ∧ Hid (t = (decide (k = 0) && !b)) ∧ wx = wr)
        case first =>
          rcases HS.out.2.2.2 with ⟨rfl, _⟩ | ⟨rfl, _⟩ | ⟨rfl, _⟩ | ⟨rfl, _⟩
          · cases b <;> (
              go_wp2_with fail
              go_meet
              exact ⟨_, rfl, Lib.hid rfl, rfl⟩)
          · go_wp2_with fail
            go_meet
            exact ⟨_, rfl, Lib.hid rfl, rfl⟩
          · go_wp2_with fail
            go_meet
            exact ⟨_, rfl, Lib.hid rfl, rfl⟩
          · go_wp2_with fail
            go_meet
            exact ⟨_, rfl, Lib.hid rfl, rfl⟩
        case rest =>
          obtain ⟨t, rfl, HT, hwx⟩ := hcut
          rw [hwx]
          clear hwx
          go_upto_if 39 with fail
          go_cut [7, 8] (fun s7 s8 wx => ∃ k f : Nat, s7 = .int .i64 (k : Int) ∧ s8 = .int .i64 (f : Int) ∧ f ≤ i ∧ Hid (Stand s e i RES out b k f q) ∧ wx = wr)
          case first =>
            have hst := HS.out.2.2.2
            cases t with
            | true =>
              have ht := HT.out.symm
              simp only [Bool.and_eq_true, decide_eq_true_eq, Bool.not_eq_true'] at ht
              obtain ⟨rfl, rfl⟩ := ht
              have HN : Hid (Stand s e i RES out false 1 i q) := Lib.hid (by
                rcases hst with ⟨_, hR⟩ | ⟨h, _⟩ | ⟨h, _⟩ | ⟨h, _⟩
                · exact .inr (.inr (.inl ⟨rfl, rfl, Nat.le_refl _, _, HC.out, by rw [hR, Lx.run_btw_in hil (by rw [hc]; exact hb.out), hc]⟩))
                · omega
                · omega
                · omega)
              clear hst hc HS HT
              go_wp2_with fail
              go_meet
              exact ⟨1, i, rfl, rfl, by omega, HN, rfl⟩
            | false =>
              have HN : Hid (Stand s e i RES out b k f q) := Lib.hid (by
                rcases hst with ⟨rfl, hR⟩ | ⟨rfl, hR⟩ | ⟨rfl, hR⟩ | ⟨rfl, hR⟩
                · cases b with
                  | true => exact .inl ⟨rfl, by rw [hR, Lx.run_btw_blank hil (by rw [hc]; exact hb.out)]⟩
                  | false => exact absurd HT.out (by simp)
                · cases b with
                  | true => exact .inr (.inl ⟨rfl, rfl, by omega, by rw [hR, Lx.run_win_blank hil (by rw [hc]; exact hb.out), Lx.putW_push]⟩)
                  | false => exact .inr (.inr (.inl ⟨rfl, rfl, by omega, _, HC.out, by rw [hR, Lx.run_win_in hil (by rw [hc]; exact hb.out), hc]⟩))
                · exact .inr (.inr (.inr (.inl ⟨rfl, by omega, by have := HS.out.2.1; omega, hR⟩)))
                · exact .inr (.inr (.inr (.inr ⟨rfl, by omega, by have := HS.out.2.1; omega, hR⟩))))
              clear hst hc HS HT
              go_wp2_with fail
              go_meet
              exact ⟨k, f, rfl, rfl, by omega, HN, rfl⟩
          case rest =>
            clear HS HT
            obtain ⟨k, f, rfl, rfl, hfi, HS, hwx⟩ := hcut
            rw [hwx]
            clear hwx
            have hc3 : (bs s)[i]'hin = s[i] := rfl
            have hqi : q < i + 1 := HQ.out
            rcases HS.out with ⟨rfl, hR⟩ | ⟨rfl, rfl, hf2, hR⟩ | ⟨rfl, rfl, hf2, c2, hc2, hR⟩ | ⟨rfl, hf2, hq2, hR⟩ | ⟨rfl, hf2, hq2, hR⟩
            · have HN : Hid (Stands s e (i + 1) RES out 0 f q) := Lib.hid ⟨by omega, by omega, by omega, .inl ⟨rfl, hR⟩⟩
              clear hR HS hc hc3
              go_wp2_with fail
              go_roundw
              case rel => exact ⟨i + 1, 0, f, q, out, by omega, by omega, rfl, rfl, rfl, by go_num, HN, hown, hB⟩
              case measure => simp [intOf]; omega
            · have hsl := slice_bs s f i hf2 (by omega)
              obtain ⟨X, hX⟩ : ∃ X, Lx.sl s f i = X := ⟨_, rfl⟩
              rw [hX] at hR
              rw [show (s.drop f).take (i - f) = X from hX] at hsl
              have HN : Hid (Stands s e (i + 1) RES (out ++ [⟨f, X⟩]) 0 f q) := Lib.hid ⟨by omega, by omega, by omega, .inl ⟨rfl, hR⟩⟩
              clear hR HS hc hc3 hX
              go_wp2_with (at_builtin; refine wpList_appk rfl _ _ _ rfl wordK _ _ _ _ rfl (hown.alloc _) _ _ _ _ rfl rfl (news_alloc _ _ _) (by simp [Value.oneCell']) (by omega) (by omega) (hB.alloc hbs _) (by simp; omega) ?_; intro v1 w1 hown1 hb1 hg1 hat1)
              go_roundw
              case rel => exact ⟨i + 1, 0, f, q, out ++ [⟨f, X⟩], by omega, by simp only [List.length_append, List.length_cons, List.length_nil]; omega, rfl, rfl, rfl, by go_num, HN, by rw [wdC_snoc, List.length_append]; exact hown1, hb1⟩
              case measure => simp [intOf]; omega
            · have hcc : c2 = (bs s)[i]'hin := by have := hc2.symm.trans HC.out; injection this
              subst hcc
              by_cases c39 : (bs s)[i]'hin = 39
              · have HN : Hid (Stands s e (i + 1) RES out 2 f i) := Lib.hid ⟨by omega, by omega, by omega, .inr (.inr (.inl ⟨rfl, by rw [hR, Lx.inn, if_pos c39]⟩))⟩
                have t1 : ((((bs s)[i]'hin).toNat : Int) == 39) = true := u8_yes (d := 39) c39
                clear hR HS hc hc3 hc2 c39
                go_wp2_with fail
                go_roundw
                case rel => exact ⟨i + 1, 2, f, i, out, by omega, by omega, rfl, rfl, rfl, by go_num, HN, hown, hB⟩
                case measure => simp [intOf]; omega
              · have t1 : ((((bs s)[i]'hin).toNat : Int) == 39) = false := u8_no (d := 39) c39
                by_cases c34 : (bs s)[i]'hin = 34
                · have HN : Hid (Stands s e (i + 1) RES out 3 f i) := Lib.hid ⟨by omega, by omega, by omega, .inr (.inr (.inr ⟨rfl, by rw [hR, Lx.inn, if_neg c39, if_pos c34]⟩))⟩
                  have t2 : ((((bs s)[i]'hin).toNat : Int) == 34) = true := u8_yes (d := 34) c34
                  clear hR HS hc hc3 hc2 c39 c34
                  go_wp2_with fail
                  go_roundw
                  case rel => exact ⟨i + 1, 3, f, i, out, by omega, by omega, rfl, rfl, rfl, by go_num, HN, hown, hB⟩
                  case measure => simp [intOf]; omega
                · have t2 : ((((bs s)[i]'hin).toNat : Int) == 34) = false := u8_no (d := 34) c34
                  by_cases ce : (bs s)[i]'hin = e
                  · have HN : Hid (Stands s e (i + 1 + 1) RES out 1 f q) := Lib.hid ⟨by omega, by omega, by omega, .inr (.inl ⟨rfl, by rw [hR, Lx.inn, if_neg c39, if_neg c34, if_pos ce, Lx.run_wesc]⟩)⟩
                    have t3 : ((((bs s)[i]'hin).toNat : Int) == (e.toNat : Int)) = true := u8_yes ce
                    clear hR HS hc hc3 hc2 c39 c34 ce
                    go_wp2_with fail
                    go_roundw
                    case rel => exact ⟨i + 1 + 1, 1, f, q, out, by omega, by omega, rfl, rfl, rfl, by go_num, HN, hown, hB⟩
                    case measure => simp [intOf]; omega
                  · have HN : Hid (Stands s e (i + 1) RES out 1 f q) := Lib.hid ⟨by omega, by omega, by omega, .inr (.inl ⟨rfl, by rw [hR, Lx.inn, if_neg c39, if_neg c34, if_neg ce]⟩)⟩
                    have t3 : ((((bs s)[i]'hin).toNat : Int) == (e.toNat : Int)) = false := u8_no ce
                    clear hR HS hc hc3 hc2 c39 c34 ce
                    go_wp2_with fail
                    go_roundw
                    case rel => exact ⟨i + 1, 1, f, q, out, by omega, by omega, rfl, rfl, rfl, by go_num, HN, hown, hB⟩
                    case measure => simp [intOf]; omega
            · rw [Lx.run_sgl hil, ← hc3] at hR
              by_cases c39 : (bs s)[i]'hin = 39
              · have HN : Hid (Stands s e (i + 1) RES out 1 f q) := Lib.hid ⟨by omega, by omega, by omega, .inr (.inl ⟨rfl, by rw [hR, if_pos c39]⟩)⟩
                have t1 : ((((bs s)[i]'hin).toNat : Int) == 39) = true := u8_yes (d := 39) c39
                clear hR HS hc hc3 c39
                go_wp2_with fail
                go_roundw
                case rel => exact ⟨i + 1, 1, f, q, out, by omega, by omega, rfl, rfl, rfl, by go_num, HN, hown, hB⟩
                case measure => simp [intOf]; omega
              · have HN : Hid (Stands s e (i + 1) RES out 2 f q) := Lib.hid ⟨by omega, by omega, by omega, .inr (.inr (.inl ⟨rfl, by rw [hR, if_neg c39]⟩))⟩
                have t1 : ((((bs s)[i]'hin).toNat : Int) == 39) = false := u8_no (d := 39) c39
                clear hR HS hc hc3 c39
                go_wp2_with fail
                go_roundw
                case rel => exact ⟨i + 1, 2, f, q, out, by omega, by omega, rfl, rfl, rfl, by go_num, HN, hown, hB⟩
                case measure => simp [intOf]; omega
            · rw [Lx.run_dbl hil, ← hc3] at hR
              by_cases c34 : (bs s)[i]'hin = 34
              · have HN : Hid (Stands s e (i + 1) RES out 1 f q) := Lib.hid ⟨by omega, by omega, by omega, .inr (.inl ⟨rfl, by rw [hR, if_pos c34]⟩)⟩
                have t1 : ((((bs s)[i]'hin).toNat : Int) == 34) = true := u8_yes (d := 34) c34
                clear hR HS hc hc3 c34
                go_wp2_with fail
                go_roundw
                case rel => exact ⟨i + 1, 1, f, q, out, by omega, by omega, rfl, rfl, rfl, by go_num, HN, hown, hB⟩
                case measure => simp [intOf]; omega
              · have t1 : ((((bs s)[i]'hin).toNat : Int) == 34) = false := u8_no (d := 34) c34
                by_cases ce : (bs s)[i]'hin = e
                · have HN : Hid (Stands s e (i + 1 + 1) RES out 3 f q) := Lib.hid ⟨by omega, by omega, by omega, .inr (.inr (.inr ⟨rfl, by rw [hR, if_neg c34, if_pos ce, Lx.run_desc]⟩))⟩
                  have t3 : ((((bs s)[i]'hin).toNat : Int) == (e.toNat : Int)) = true := u8_yes ce
                  clear hR HS hc hc3 c34 ce
                  go_wp2_with fail
                  go_roundw
                  case rel => exact ⟨i + 1 + 1, 3, f, q, out, by omega, by omega, rfl, rfl, rfl, by go_num, HN, hown, hB⟩
                  case measure => simp [intOf]; omega
                · have HN : Hid (Stands s e (i + 1) RES out 3 f q) := Lib.hid ⟨by omega, by omega, by omega, .inr (.inr (.inr ⟨rfl, by rw [hR, if_neg c34, if_neg ce]⟩))⟩
                  have t3 : ((((bs s)[i]'hin).toNat : Int) == (e.toNat : Int)) = false := u8_no ce
                  clear hR HS hc hc3 c34 ce
                  go_wp2_with fail
                  go_roundw
                  case rel => exact ⟨i + 1, 3, f, q, out, by omega, by omega, rfl, rfl, rfl, by go_num, HN, hown, hB⟩
                  case measure => simp [intOf]; omega
    · have i0 : decide ((i : Int) < ((bs s).size : Int)) = false := by rw [decide_eq_false_iff_not]; omega
      have hil : s.length ≤ i := by rw [← HZ.out]; exact hin
      have hfs : f ≤ s.length := HS.out.2.2.1
      rcases HS.out.2.2.2 with ⟨rfl, hR⟩ | ⟨rfl, hR⟩ | ⟨rfl, hR⟩ | ⟨rfl, hR⟩
      · rw [Lx.run_end_btw hil] at hR
        have HR : Hid (RES = .inr out) := by show _ = _; rw [hR, Lx.putW, List.append_nil]
        clear hR HS
        go_wp2_with fail
        go_ret2
        refine ⟨?_, hB⟩
        rw [HR.out]
        exact ⟨_, rfl, hown⟩
      · rw [Lx.run_end_win hil] at hR
        obtain ⟨X, hX⟩ : ∃ X, s.drop f = X := ⟨_, rfl⟩
        have hsl := slice_from s f (f : Int) rfl hfs
        rw [hX] at hR hsl
        have HR : Hid (RES = .inr (out ++ [⟨f, X⟩])) := by show _ = _; rw [hR, Lx.putW]
        clear hR HS hX
        go_wp2_with (at_builtin; refine wpList_appk rfl _ _ _ rfl wordK _ _ _ _ rfl (hown.alloc _) _ _ _ _ rfl rfl (news_alloc _ _ _) (by simp [Value.oneCell']) (by omega) (by omega) (hB.alloc hbs _) (by simp; omega) ?_; intro v1 w1 hown1 hb1 hg1 hat1)
        go_ret2
        refine ⟨?_, hb1⟩
        rw [HR.out]
        exact ⟨_, rfl, by rw [wdC_snoc, List.length_append]; exact hown1⟩
      · rw [Lx.run_end_sgl hil] at hR
        have HR : Hid (RES = .inl q) := by show _ = _; rw [hR, Lx.putW]
        clear hR HS
        go_wp2_with fail
        go_ret2
        refine ⟨?_, hB⟩
        rw [HR.out]
        rfl
      · rw [Lx.run_end_dbl hil] at hR
        have HR : Hid (RES = .inl q) := by show _ = _; rw [hR, Lx.putW]
        clear hR HS
        go_wp2_with fail
        go_ret2
        refine ⟨?_, hB⟩
        rw [HR.out]
        rfl
end Go.Proofs.YtpgnfianffjpnaaGreatDoor
