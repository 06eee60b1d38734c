/- lex.opening, walked. -/
import Derived.Test.YtpgnfianffjpnaaGreatDoorLxD
import Derived.Test.YtpgnfianffjpnaaGreatDoorRow
import Derived.Deep.DeepCutAuto
import Derived.IntWalk
namespace Go.Proofs.YtpgnfianffjpnaaGreatDoor
open Go Go.RowKit

theorem docT : StK Tryz.prog 83 4 := ⟨⟨_, Tryz.underlying83⟩, by kernel_rfl⟩
theorem hp_len {l : List UInt8} : (Lib.trimPrefix l [45]).length ≤ l.length := by
  unfold Lib.trimPrefix
  split
  · rw [List.length_drop]; omega
  · exact Nat.le_refl _
/-- the tests on a quoted name. -/
theorem quoted_lt {s : List UInt8} (h : s.length < 2) : Lx.quotedB s = false := by
  rw [Lx.quotedB, decide_eq_false (by omega)]; rfl
theorem quoted_ge {s : List UInt8} (h : 2 ≤ s.length) : Lx.quotedB s = ((decide (s[0] = 34) || decide (s[0] = 39)) && decide (s[s.length - 1] = s[0])) := by
  rw [Lx.quotedB, decide_eq_true h, Bool.true_and, List.head?_eq_getElem?, List.getLast?_eq_getElem?, List.getElem?_eq_getElem (by omega), List.getElem?_eq_getElem (by omega)]
  have q : ∀ x y : UInt8, (some x == some y) = decide (x = y) := fun x y => by rw [Bool.eq_iff_iff]; simp
  rw [q, q, q]
def letA (c : UInt8) : Bool := (97 ≤ c && c ≤ 122) || (65 ≤ c && c ≤ 90) || c == 95
theorem le_u8 (c d : UInt8) : decide ((c.toNat : Int) ≤ (d.toNat : Int)) = decide (c ≤ d) := by
  rw [Bool.eq_iff_iff, decide_eq_true_eq, decide_eq_true_eq, UInt8.le_iff_toNat_le]; omega
theorem lt_u8 (c d : UInt8) : decide ((c.toNat : Int) < (d.toNat : Int)) = decide (c < d) := by
  rw [Bool.eq_iff_iff, decide_eq_true_eq, decide_eq_true_eq, UInt8.lt_iff_toNat_lt]; omega
theorem letA_five (c : UInt8) {b : Bool} (hb : letA c = b) : ∃ b1 b2 b3 b4 b5, decide ((97 : Int) ≤ (c.toNat : Int)) = b1 ∧ decide ((c.toNat : Int) ≤ 122) = b2 ∧ decide ((65 : Int) ≤ (c.toNat : Int)) = b3 ∧ decide ((c.toNat : Int) ≤ 90) = b4 ∧ ((c.toNat : Int) == 95) = b5 ∧ b = ((b1 && b2) || (b3 && b4) || b5) := by
  refine ⟨_, _, _, _, _, rfl, rfl, rfl, rfl, rfl, ?_⟩
  rw [← hb, letA, show (97 : Int) = ((97 : UInt8).toNat : Int) from rfl, show (122 : Int) = ((122 : UInt8).toNat : Int) from rfl, show (65 : Int) = ((65 : UInt8).toNat : Int) from rfl, show (90 : Int) = ((90 : UInt8).toNat : Int) from rfl, show (95 : Int) = ((95 : UInt8).toNat : Int) from rfl, le_u8, le_u8, le_u8, le_u8, u8_eq]
  have q : (c == 95) = decide (c = 95) := by rw [Bool.eq_iff_iff]; simp
  rw [q]
theorem letter_two (c : UInt8) : ∃ b1 b2, decide ((c.toNat : Int) < 48) = b1 ∧ decide ((57 : Int) < (c.toNat : Int)) = b2 ∧ (!Lx.letter c) = (!letA c && (b1 || b2)) := by
  refine ⟨_, _, rfl, rfl, ?_⟩
  rw [show (48 : Int) = ((48 : UInt8).toNat : Int) from rfl, show (57 : Int) = ((57 : UInt8).toNat : Int) from rfl, lt_u8, lt_u8]
  have e : Lx.letter c = (letA c || (decide (48 ≤ c) && decide (c ≤ 57))) := rfl
  have e1 : decide (c < 48) = !decide (48 ≤ c) := by rw [Bool.eq_iff_iff, decide_eq_true_eq, Bool.not_eq_true', decide_eq_false_iff_not, UInt8.not_le]
  have e2 : decide (57 < c) = !decide (c ≤ 57) := by rw [Bool.eq_iff_iff, decide_eq_true_eq, Bool.not_eq_true', decide_eq_false_iff_not, UInt8.not_le]
  rw [e, e1, e2, Bool.not_or, Bool.not_and]
theorem slice_bsi (l : List UInt8) (i j : Nat) (ii ji : Int) (hi : ii = (i : Int)) (hji : ji = (j : Int)) (hij : i ≤ j) (hj : j ≤ l.length) : ∀ wx, (Instr.slice 9 (.string (bs l)) (some (.int .i64 ii)) (some (.int .i64 ji)) none).run Tryz.prog wx = .ok (.string (bs ((l.drop i).take (j - i)))) wx := by
  subst hi hji
  exact slice_bs l i j hij hj
theorem tail_dropLast (l : List UInt8) : (l.drop 1).take (l.length - 1 - 1) = l.tail.dropLast := by
  rw [List.dropLast_eq_take, List.length_tail, List.drop_one]
/-- what opening answers. -/
def OpenAns (raw : List UInt8) (e : Ending) : Prop :=
  if Lx.nameOk (Lx.openName raw) then e = .returned (.tuple #[.agg #[.string (bs (Lx.openName raw)), .bool (Lx.openRaw raw), .int .i64 0, .string ⟨#[]⟩], .bool (Lx.openTabs raw), .bool true])
  else ∃ n q t, e = .returned (.tuple #[.agg #[.string n, .bool q, .int .i64 0, .string ⟨#[]⟩], .bool t, .bool false])
set_option maxRecDepth 100000 in
set_option maxHeartbeats 8000000 in
theorem opening_any (raw : List UInt8) (hs : raw.length ≤ 2000000) (h2 : 2 ≤ raw.length) (w : World) : Calls Tryz.prog 106 #[.string (bs raw)] w fun e w' => OpenAns raw e ∧ Below w.heap.size w w' := by
  obtain ⟨nm, hnm⟩ : ∃ nm, Lib.trimPrefix (raw.drop 2) [45] = nm := ⟨_, rfl⟩
  obtain ⟨tb, htb⟩ : ∃ tb, Lib.hasPrefix (raw.drop 2) [45] = tb := ⟨_, rfl⟩
  have hcut : Hid ((Lib.trimPrefix (raw.drop 2) [45], Lib.hasPrefix (raw.drop 2) [45]) = (nm, tb)) := Lib.hid (by rw [hnm, htb])
  have hsl := slice_from raw 2 2 rfl h2
  have hlen : nm.length ≤ 2000000 := by
    have h := @hp_len (raw.drop 2)
    rw [hnm, List.length_drop] at h
    omega
  have HNM := Lib.hid hnm
  have HTB := Lib.hid htb
  have HZ := Lib.hid (bs_size nm)
  have hzle : (bs nm).size ≤ 2000000 := by rw [HZ.out]; exact hlen
  obtain ⟨qb, hqb⟩ : ∃ qb, Hid (Lx.quotedB nm = qb) := ⟨_, Lib.hid rfl⟩
  have hB0 := (Below.refl w.heap.size w).alloc (Nat.le_refl _) (.cells #[.string ⟨#[]⟩, .bool false, .int .i64 0, .string ⟨#[]⟩] 83)
  have hK0 := Blk.new w 83 #[.string ⟨#[]⟩, .bool false, .int .i64 0, .string ⟨#[]⟩]
  obtain ⟨w0, hw0⟩ : ∃ w0, w.alloc (.cells #[.string ⟨#[]⟩, .bool false, .int .i64 0, .string ⟨#[]⟩] 83) = w0 := ⟨_, rfl⟩
  rw [hw0] at hB0 hK0
  have HW0 := Lib.hid hw0
  have HB0 := Lib.hid hB0
  have HK0 := Lib.hid hK0
  clear hnm htb hw0 hB0 hK0
  go_enter Tryz.func106, Tryz.ntmps106
  go_upto_region 1 with fail
  rw [HW0.out]
  go_wp2_with fail
  refine (cutDash_any _ _ hcut).mono ?_
  rintro e w1 ⟨rfl, rfl⟩
  go_upto_region 3 with fail
  go_cut [38] (fun s38 wx => s38 = .bool qb ∧ ∃ n, wx = w0.drewN n)
  case first =>
    rcases Nat.lt_or_ge (bs nm).size 2 with hl | hl
    · have HQ : Hid (qb = false) := by show _ = _; rw [← hqb.out, quoted_lt (by rw [← HZ.out]; exact hl)]
      have g0 : decide ((2 : Int) ≤ ((bs nm).size : Int)) = false := by rw [decide_eq_false_iff_not]; omega
      clear hl
      go_quiet (fail)
      go_wp2_with fail
      go_meet
      exact ⟨by rw [HQ.out], _, rfl⟩
    · have hl2 : 2 ≤ nm.length := by rw [← HZ.out]; exact hl
      have hq := quoted_ge hl2
      rw [hqb.out] at hq
      have g0 : decide ((2 : Int) ≤ ((bs nm).size : Int)) = true := by rw [decide_eq_true_eq]; omega
      have g1 : 0 < (bs nm).size := by omega
      have g1i : (0 : Int) < ((bs nm).size : Int) := by omega
      obtain ⟨m, hm⟩ : ∃ m, (bs nm).size = m + 1 := ⟨(bs nm).size - 1, by omega⟩
      have hm2 : m < (bs nm).size := by omega
      have e1 : nm[0]'(by omega) = (bs nm)[0]'g1 := rfl
      have e2 : nm[nm.length - 1]'(by omega) = (bs nm)[m]'hm2 := by
        have : nm.length - 1 = m := by rw [← HZ.out, hm]; rfl
        simp only [this]
        rfl
      rw [e1, e2] at hq
      obtain ⟨a, ha⟩ : ∃ a, (bs nm)[0]'g1 = a := ⟨_, rfl⟩
      obtain ⟨z, hz⟩ : ∃ z, (bs nm)[m]'hm2 = z := ⟨_, rfl⟩
      rw [ha, hz] at hq
      have g3 : IntKind.i64.wrap (((bs nm).size : Int) - 1) = (m : Int) := by rw [IntWalk.i64_in _ (by omega)]; omega
      have g4 : (m : Int) < ((bs nm).size : Int) := by omega
      have g5 : (0 : Int) ≤ (m : Int) := by omega
      have q1 := u8_eq a 34
      have q2 := u8_eq a 39
      have q3 := u8_eq z a
      rw [show (((34 : UInt8).toNat : Nat) : Int) = 34 from rfl] at q1
      rw [show (((39 : UInt8).toNat : Nat) : Int) = 39 from rfl] at q2
      generalize decide (a = 34) = x1 at *
      generalize decide (a = 39) = x2 at *
      generalize decide (z = a) = x3 at *
      have HQ := Lib.hid hq
      have hby : a.toNat < 256 := UInt8.toNat_lt _
      have hby2 : z.toNat < 256 := UInt8.toNat_lt _
      clear hq hm e1 e2 hl hl2
      cases x1 <;> cases x2 <;> cases x3 <;> (
        go_quiet (fail)
        go_wp2_with fail
        go_meet
        exact ⟨by rw [HQ.out]; rfl, _, rfl⟩)
  case rest =>
    obtain ⟨rfl, n, hwx⟩ := hcut
    rw [hwx]
    clear hwx
    have hBd := below_drewN HB0.out n
    have hKd := HK0.out.drewN n
    obtain ⟨wd, hwd⟩ : ∃ wd, w0.drewN n = wd := ⟨_, rfl⟩
    rw [hwd] at hBd hKd
    rw [hwd]
    clear hwd
    have c1 : wd.cell? ⟨w.heap.size, 1, none⟩ = some (.bool false) := hKd.cell 1
    have f1 := hKd.frozen 1
    obtain ⟨N, hN⟩ : ∃ N, Hid (Lx.openName raw = N) := ⟨_, Lib.hid rfl⟩
    have HON : Hid (N = if qb then nm.tail.dropLast else nm) := by
      show _ = _
      rw [← hN.out, Lx.openName, HNM.out, hqb.out]
    go_upto_if 38 with fail
    go_cut [5] (fun s5 wx => s5 = .string (bs N) ∧ Blk wx w.heap.size 83 #[.string ⟨#[]⟩, .bool qb, .int .i64 0, .string ⟨#[]⟩] ∧ Below w.heap.size w wx)
    case first =>
      cases qb with
      | true =>
        have hl2 : 2 ≤ nm.length := by
          rcases Nat.lt_or_ge nm.length 2 with h | h
          · exact absurd ((quoted_lt h).symm.trans hqb.out) (by decide)
          · exact h
        have hsl2 := slice_bsi nm 1 (nm.length - 1) 1 (((bs nm).size : Int) - 1) rfl (by rw [HZ.out]; omega) (by omega) (by omega)
        rw [tail_dropLast] at hsl2
        have HE : Hid (N = nm.tail.dropLast) := by show _ = _; rw [HON.out]; rfl
        have hB1 := hBd.setCell (p := ⟨w.heap.size, 1, none⟩) (Nat.le_refl _) (.bool true)
        have hK1 := hKd.set_ 1 (.bool true)
        have HB1 := Lib.hid hB1
        have HK1 := Lib.hid hK1
        clear hl2 hB1 hK1 HON
        go_wp2_with fail
        go_meet
        exact ⟨by rw [HE.out], HK1.out, HB1.out⟩
      | false =>
        have HE : Hid (N = nm) := by show _ = _; rw [HON.out]; rfl
        clear HON
        go_wp2_with fail
        go_meet
        exact ⟨by rw [HE.out], hKd, hBd⟩
    case rest =>
      rename World => wk
      obtain ⟨rfl, hK, hB⟩ := hcut
      clear c1 f1 hBd hKd HK0 HB0 HW0
      have HK := Lib.hid hK
      have HB := Lib.hid hB
      have hlt := hK.lt
      have HZN := Lib.hid (bs_size N)
      have hzN : (bs N).size ≤ 2000000 := by
        rw [HZN.out, HON.out]
        split
        · rw [List.length_dropLast, List.length_tail]; omega
        · exact hlen
      have c0 : wk.cell? ⟨w.heap.size, 0, none⟩ = some (.string ⟨#[]⟩) := hK.cell 0
      have f0 := hK.frozen 0
      have c1 : wk.cell? ⟨w.heap.size, 1, none⟩ = some (.bool qb) := hK.cell 1
      have c2 : wk.cell? ⟨w.heap.size, 2, none⟩ = some (.int .i64 0) := hK.cell 2
      have c3 : wk.cell? ⟨w.heap.size, 3, none⟩ = some (.string ⟨#[]⟩) := hK.cell 3
      clear hK hB
      go_wp2_with fail
      go_loopw [3, 7, 8, 9, 46] (fun t3 _ _ _ t46 wr => ∃ i : Nat, i ≤ (bs N).size ∧ t3 = .bool tb ∧ t46 = .int .i64 (i : Int) ∧ Hid ((N.take i).all Lx.letter = true) ∧ wk = wr) (fun _ _ _ _ t46 _ => (bs N).size - (intOf t46).toNat)
      case atStart => exact ⟨0, by omega, rfl, rfl, Lib.hid rfl, by first | rfl | trivial⟩
      case round =>
        obtain ⟨i, hi, rfl, rfl, HA, rfl⟩ := hrel
        have j0 : (0 : Int) ≤ (i : Int) := by omega
        rcases Nat.lt_or_ge i (bs N).size with hin | hin
        · have i0 : decide ((i : Int) < ((bs N).size : Int)) = true := by rw [decide_eq_true_eq]; omega
          have i1 : (i : Int) < ((bs N).size : Int) := by omega
          have hNi : N[i]? = some ((bs N)[i]'hin) := bs_at N i hin
          obtain ⟨c, hc⟩ : ∃ c, (bs N)[i]'hin = c := ⟨_, rfl⟩
          rw [hc] at hNi
          have hby : c.toNat < 256 := UInt8.toNat_lt _
          have hT : (N.take (i + 1)).all Lx.letter = Lx.letter c := by
            rw [List.take_add_one, hNi, List.all_append, HA.out, Option.toList_some, List.all_cons, List.all_nil, Bool.true_and, Bool.and_true]
          have HT := Lib.hid hT
          have HNI := Lib.hid hNi
          obtain ⟨la, hla⟩ : ∃ la, Hid (letA c = la) := ⟨_, Lib.hid rfl⟩
          obtain ⟨b1, b2, b3, b4, b5, e1, e2, e3, e4, e5, hlb⟩ := letA_five c hla.out
          have HLB := Lib.hid hlb
          clear hT hNi hlb
          go_upto_region 10 with fail
          go_cut [9] (fun s9 wx => s9 = .bool la ∧ wx = wk)
          case first =>
            cases b1 <;> cases b2 <;> cases b3 <;> cases b4 <;> cases b5 <;> (
              have hb := HLB.out
              subst hb
              go_wp2_with fail
              go_meet
              exact ⟨rfl, rfl⟩)
          case rest =>
            obtain ⟨rfl, hwx⟩ := hcut
            rw [hwx]
            clear hwx e1 e2 e3 e4 e5 HLB
            obtain ⟨d1, d2, k1, k2, hd⟩ := letter_two c
            obtain ⟨lt, hlt2⟩ : ∃ t, (!Lx.letter c) = t := ⟨_, rfl⟩
            rw [hla.out, hlt2] at hd
            have HD := Lib.hid hd
            have HLT := Lib.hid hlt2
            clear hd hlt2
            go_upto_region 11 with fail
            go_cut [79] (fun s79 wx => s79 = .bool lt ∧ wx = wk)
            case first =>
              cases la <;> cases d1 <;> cases d2 <;> (
                have hb := HD.out
                subst hb
                go_wp2_with fail
                go_meet
                exact ⟨rfl, rfl⟩)
            case rest =>
              obtain ⟨rfl, hwx⟩ := hcut
              rw [hwx]
              clear hwx k1 k2 HD
              cases lt with
              | true =>
                have HNO : Hid (Lx.nameOk (Lx.openName raw) = false) := by
                  show _ = _
                  have hno : Lx.letter c = false := by have := HLT.out; simpa using this
                  rw [hN.out, Lx.nameOk]
                  have hall : N.all Lx.letter = false := by
                    rw [List.all_eq_false]
                    exact ⟨c, List.mem_of_getElem? HNI.out, by rw [hno]; simp⟩
                  rw [hall]; rfl
                clear hc
                go_wp2_with (refine wpList_store_st rfl _ _ _ rfl docT w.heap.size _ _ rfl rfl HK.out rfl rfl rfl ?_; intro w5 hB5 hg5 hz5)
                refine bodyPost_ret (v := .tuple #[.agg #[.string ⟨#[]⟩, .bool false, .int .i64 0, .string ⟨#[]⟩], .bool false, .bool false]) (results_c2 rfl docT rfl rfl rfl hB5 rfl) rfl ?_
                refine ⟨?_, HB.out.grown hg5 HB.out.size (fun k e => by cases e; exact Nat.le_refl _)⟩
                rw [OpenAns, if_neg (by rw [HNO.out]; simp)]
                exact ⟨_, _, _, rfl⟩
              | false =>
                have HA2 : Hid ((N.take (i + 1)).all Lx.letter = true) := by
                  show _ = _
                  have hno : Lx.letter c = true := by have := HLT.out; simpa using this
                  rw [HT.out, hno]
                clear hc
                go_wp2_with fail
                go_roundw
                case rel => exact ⟨i + 1, by omega, rfl, by go_num, HA2, by first | rfl | trivial⟩
                case measure => simp [intOf]; omega
        · have i0 : decide ((i : Int) < ((bs N).size : Int)) = false := by rw [decide_eq_false_iff_not]; omega
          have HAll : Hid (N.all Lx.letter = true) := by
            show _ = _
            have h := HA.out
            rwa [List.take_of_length_le (by rw [← HZN.out]; exact hin)] at h
          have hK2 := HK.out.set_ 0 (.string (bs N))
          have hB2 := HB.out.setCell (p := ⟨w.heap.size, 0, none⟩) (Nat.le_refl _) (.string (bs N))
          have HK2 := Lib.hid hK2
          have HB2 := Lib.hid hB2
          clear hK2 hB2
          cases N with
          | nil =>
            have HNO : Hid (Lx.nameOk (Lx.openName raw) = false) := by show _ = _; rw [hN.out]; rfl
            have HK3 : Hid (Blk (wk.setCell ⟨w.heap.size, 0, none⟩ (.string ⟨#[]⟩)) w.heap.size 83 #[.string ⟨#[]⟩, .bool qb, .int .i64 0, .string ⟨#[]⟩]) := HK2
            have HB3 : Hid (Below w.heap.size w (wk.setCell ⟨w.heap.size, 0, none⟩ (.string ⟨#[]⟩))) := HB2
            have hb0 : bs [] = ⟨#[]⟩ := rfl
            rw [hb0] at i0
            rw [hb0]
            clear HK2 HB2 HAll HA HON hb0 hN HZN
            go_wp2_with (refine wpList_store_st rfl _ _ _ rfl docT w.heap.size _ _ rfl rfl HK3.out rfl rfl rfl ?_; intro w5 hB5 hg5 hz5)
            refine bodyPost_ret (v := .tuple #[.agg #[.string ⟨#[]⟩, .bool qb, .int .i64 0, .string ⟨#[]⟩], .bool tb, .bool false]) (results_c2 rfl docT rfl rfl rfl hB5 rfl) rfl ?_
            refine ⟨?_, HB3.out.grown hg5 HB3.out.size (fun k e => by cases e; exact Nat.le_refl _)⟩
            rw [OpenAns, if_neg (by rw [HNO.out]; simp)]
            exact ⟨_, _, _, rfl⟩
          | cons x r =>
            obtain ⟨S, hS⟩ : ∃ S, bs (x :: r) = S := ⟨_, rfl⟩
            have hT := txtIs x r
            rw [hS] at hT i0 hzN hi hin
            have HK3 : Hid (Blk (wk.setCell ⟨w.heap.size, 0, none⟩ (.string S)) w.heap.size 83 #[.string S, .bool qb, .int .i64 0, .string ⟨#[]⟩]) := by rw [← hS]; exact HK2
            have HB3 : Hid (Below w.heap.size w (wk.setCell ⟨w.heap.size, 0, none⟩ (.string S))) := by rw [← hS]; exact HB2
            rw [hS]
            have z4 := hT.ne
            have hsz : S.size = (x :: r).length := hT.size
            obtain ⟨ok, hok⟩ : ∃ ok, decide ((S.size : Int) ≤ 96) = ok := ⟨_, rfl⟩
            have HNO : Hid (Lx.nameOk (Lx.openName raw) = ok) := by
              show _ = _
              rw [hN.out, Lx.nameOk, HAll.out, ← hok, hsz, Bool.eq_iff_iff]
              simp only [Bool.true_and, Bool.and_eq_true, bne_iff_ne, decide_eq_true_eq, ne_eq, reduceCtorEq, not_false_eq_true, true_and]
              omega
            have HS := Lib.hid hS
            clear HK2 HB2 HAll HA HON HZN hT hsz hS
            go_wp2_with (refine wpList_store_st rfl _ _ _ rfl docT w.heap.size _ _ rfl rfl HK3.out rfl rfl rfl ?_; intro w5 hB5 hg5 hz5)
            refine bodyPost_ret (v := .tuple #[.agg #[.string S, .bool qb, .int .i64 0, .string ⟨#[]⟩], .bool tb, .bool ok]) (results_c2 rfl docT rfl rfl rfl hB5 rfl) rfl ?_
            refine ⟨?_, HB3.out.grown hg5 HB3.out.size (fun k e => by cases e; exact Nat.le_refl _)⟩
            rw [OpenAns, HNO.out]
            cases ok with
            | true => rw [if_pos rfl, hN.out, HS.out, Lx.openRaw, Lx.openTabs, HNM.out, HTB.out, hqb.out]
            | false => exact ⟨_, _, _, rfl⟩
end Go.Proofs.YtpgnfianffjpnaaGreatDoor
