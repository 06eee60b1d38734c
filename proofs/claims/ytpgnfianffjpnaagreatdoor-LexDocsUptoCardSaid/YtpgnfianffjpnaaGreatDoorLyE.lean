/- stratalaw14.LexDocs: the law. -/
import Derived.Test.YtpgnfianffjpnaaGreatDoorLyK
import Derived.Test.YtpgnfianffjpnaaGreatDoorLyD
import Derived.Test.YtpgnfianffjpnaaGreatDoorLrK
import Derived.Test.YtpgnfianffjpnaaGreatDoorLrI
namespace Go.Proofs.YtpgnfianffjpnaaGreatDoor
open Go Go.RowKit
theorem Ls.own {w : World} {base n : Nat} {t : TypeId} {A : Option Addr} {c : Nat} {L : List (List UInt8)} (h : w.ownsRow base t 1 (.slice A n c) n (sc L)) : Ls w A L := by
  intro h0
  rcases h.2 with ⟨_, e⟩ | ⟨g, cap, cur, e, _, hg, _⟩
  · have h1 := h.1
    rw [e, Nat.zero_mul] at h1
    rw [show (sc L).length = L.length by simp [sc]] at h1
    omega
  · injection e with e1 _ e3
    subst e1
    refine ⟨g, rfl, ?_, fun j x hx => ?_⟩
    · rcases Nat.lt_or_ge g w.heap.size with h1 | h1
      · exact h1
      · rw [Array.getElem?_eq_none h1] at hg; cases hg
    · have := h.cells (g := g) rfl j (.string (bs x)) (by simp [sc, hx])
      rwa [Addr.add_lit, Nat.zero_add] at this
/-- a text with a line's end behind it, if it has none. -/
def ended (t : List UInt8) : List UInt8 := if t = [] then t else if t.getLast? = some 10 then t else t ++ [10]
theorem ended_last (t : List UInt8) : ∀ c, (ended t).getLast? = some c → c = 10 := by
  intro c h
  unfold ended at h
  split at h
  · rename_i e; rw [e] at h; cases h
  · split at h
    · rename_i e; rw [e] at h; exact (Option.some.inj h).symm
    · simp at h; exact h.symm
theorem ended_len (t : List UInt8) : (ended t).length ≤ t.length + 1 := by
  unfold ended
  split
  · omega
  · split
    · omega
    · simp
/-- what is said of a list of two lines, the first with one document. -/
theorem LsRd.two {w : World} {A : Option Addr} {c : Nat} {l1 l2 : Lx.Ln} {d : Lx.Dc} (h : LsRd w (.slice A 2 c) [l1, l2]) (hd : l1.docs = [d]) : ∃ b o g p cd, A = some ⟨b, o, none⟩ ∧ w.cell? ⟨b, o + 3, none⟩ = some (.slice (some ⟨g, p, none⟩) 1 cd) ∧ w.cell? ⟨b, o + 5, none⟩ = some (.string (bs l2.text)) ∧
    w.cell? ⟨g, p, none⟩ = some (.string (bs d.name)) ∧ w.cell? ⟨g, p + 1, none⟩ = some (.bool d.raw) ∧ w.cell? ⟨g, p + 3, none⟩ = some (.string (bs d.text)) := by
  obtain ⟨A', c', e, hc⟩ := h
  injection e with e1 _ e3
  subst e1 e3
  obtain ⟨b, o, vm, vd, rfl, h0, h1, h2, h3, h4, h5⟩ := hc 0 (by simp)
  obtain ⟨b', o', vm', vd', e, q0, q1, q2, q3, q4, q5⟩ := hc 1 (by simp)
  injection e with e; injection e with x y; subst x y
  simp only [List.getElem_cons_zero] at h3 h5
  rw [hd] at h5
  obtain ⟨B, cd, rfl, hr⟩ := h5
  have e0 : dcC [d] = [.string (bs d.name), .bool d.raw, .int .i64 d.line, .string (bs d.text)] := rfl
  rw [e0] at hr
  obtain ⟨g, p, rfl, r0⟩ := hr 0 _ rfl
  obtain ⟨g', p', e, r1⟩ := hr 1 _ rfl
  injection e with e; injection e with x y; subst x y
  obtain ⟨g', p', e, r3⟩ := hr 3 _ rfl
  injection e with e; injection e with x y; subst x y
  exact ⟨b, o, g, p, cd, rfl, by simpa using h3, by simpa [Nat.add_assoc] using q1, by simpa using r0, r1, r3⟩
set_option maxRecDepth 100000 in
set_option maxHeartbeats 4000000 in
theorem lawDocs (name text : List UInt8) (w : World) (hs : name.length ≤ 1100000) (ht : text.length ≤ 1100000) (hT : Tabs w) (hv : ErrVar w) (hm : Maxl w) :
    Calls Tryz.prog 7 #[.string (bs name), .string (bs text)] w fun e w' => e = .returned (.bool true) ∧ Below w.heap.size w w' := by
  have HE := Lib.hid (Env.mk hT hv hm)
  clear hT hv hm
  have hz := bs_size name
  have hzt := bs_size text
  obtain ⟨b1, e1⟩ : ∃ b, decide ((200 : Int) < ((bs name).size : Int)) = b := ⟨_, rfl⟩
  obtain ⟨b2, e2⟩ : ∃ b, decide ((50000 : Int) < ((bs text).size : Int)) = b := ⟨_, rfl⟩
  cases b1 with
  | true =>
    clear hz hzt e2
    go_enter Tryz.func7, Tryz.ntmps7
    go_wp2_with fail
    refine (works_call _ HE.out).mono ?_
    rintro e w1 ⟨rfl, p1⟩
    go_wp2_with fail
    go_ret
    exact ⟨rfl, p1⟩
  | false =>
    cases b2 with
    | true =>
      clear hz hzt
      go_enter Tryz.func7, Tryz.ntmps7
      go_wp2_with fail
      refine (works_call _ HE.out).mono ?_
      rintro e w1 ⟨rfl, p1⟩
      go_wp2_with fail
      go_ret
      exact ⟨rfl, p1⟩
    | false =>
      have hn200 : name.length ≤ 200 := by rw [decide_eq_false_iff_not] at e1; omega
      have ht5 : text.length ≤ 50000 := by rw [decide_eq_false_iff_not] at e2; omega
      obtain ⟨t, htd⟩ : ∃ t, ended text = t := ⟨_, rfl⟩
      have htl : t.length ≤ 50001 := by have := ended_len text; rw [htd] at this; omega
      have HTL := Lib.hid (show ∀ c, t.getLast? = some c → c = 10 by rw [← htd]; exact ended_last text)
      have HTD := Lib.hid htd
      have HZT := Lib.hid hzt
      have HZ := Lib.hid hz
      have hzt2 : (bs text).size ≤ 50000 := by rw [hzt]; exact ht5
      clear htd hz hzt
      go_enter Tryz.func7, Tryz.ntmps7
      go_upto_region 4 with fail
      obtain ⟨q, hq⟩ : ∃ q, decide (text ≠ [] ∧ text.getLast? ≠ some 10) = q := ⟨_, rfl⟩
      have HQ := Lib.hid hq
      clear hq
      go_cut [35] (fun s35 wx => s35 = .bool q ∧ w = wx)
      case first =>
        obtain ⟨b0, e0⟩ : ∃ b, (bs text).toList.isEmpty = b := ⟨_, rfl⟩
        have hb0 : b0 = text.isEmpty := by rw [← e0, toList_bs]
        cases b0 with
        | true =>
          have hnil : text = [] := by cases text with
            | nil => rfl
            | cons c r => simp at hb0
          have HF : Hid (q = false) := by show _ = _; rw [← HQ.out, hnil]; rfl
          clear hb0 hnil
          go_wp2_with fail
          go_meet
          exact ⟨by rw [HF.out], by first | rfl | trivial⟩
        | false =>
          have hne : text ≠ [] := fun h => by rw [h] at hb0; cases hb0
          obtain ⟨m, hm⟩ : ∃ m, (bs text).size = m + 1 := ⟨(bs text).size - 1, by
            have : text.length ≠ 0 := fun h => hne (List.eq_nil_of_length_eq_zero h)
            have := HZT.out
            omega⟩
          have hm2 : m < (bs text).size := by omega
          obtain ⟨c, hc⟩ : ∃ c, (bs text)[m]'hm2 = c := ⟨_, rfl⟩
          have hcs : text.getLast? = some c := by
            rw [List.getLast?_eq_getElem?, ← HZT.out, hm, show m + 1 - 1 = m by omega, ← hc]
            exact bs_at text m hm2
          have hby : c.toNat < 256 := UInt8.toNat_lt _
          obtain ⟨b, hb⟩ : ∃ b, ((c.toNat : Int) != 10) = b := ⟨_, rfl⟩
          have HF : Hid (q = b) := by
            show _ = _
            rw [← HQ.out, ← hb, hcs, Bool.eq_iff_iff]
            simp only [decide_eq_true_eq, bne_iff_ne, ne_eq, Option.some.injEq]
            constructor
            · intro h e
              refine h.2 ?_
              have : c.toNat = 10 := by omega
              exact UInt8.toNat_inj.1 this
            · intro h
              exact ⟨hne, fun e => h (by rw [e]; rfl)⟩
          have g3 : IntKind.i64.wrap (((bs text).size : Int) - 1) = (m : Int) := by rw [IntWalk.i64_in _ (by omega)]; omega
          have g4 : (m : Int) < ((bs text).size : Int) := by omega
          have g5 : (0 : Int) ≤ (m : Int) := by omega
          have g6 : ((bs text).size : Int) - 1 = (m : Int) := by omega
          clear hb0 hm hcs hne
          cases b <;> (
            go_wp2_with fail
            go_meet
            exact ⟨by rw [HF.out], by first | rfl | trivial⟩)
      case rest =>
        obtain ⟨rfl, rfl⟩ := hcut
        go_upto_if 35 with fail
        go_cut [5] (fun s5 wx => s5 = .string (bs t) ∧ w = wx)
        case first =>
          cases q with
          | true =>
            have hq := of_decide_eq_true HQ.out
            have HTE : Hid (bs text ++ ⟨#[10]⟩ = bs t) := by
              show _ = _
              rw [show (⟨#[10]⟩ : ByteArray) = bs [10] from rfl, bs_app, ← HTD.out, ended, if_neg hq.1, if_neg hq.2]
            have z10 : (⟨#[10]⟩ : ByteArray).size = 1 := rfl
            have ad1 : ∀ w, (Op.stringOp .add (bs text) ⟨#[10]⟩).run Tryz.prog w = .ok (.string (bs text ++ ⟨#[10]⟩)) w := fun w => run_string_add_sum w _ _ (by rw [z10]; omega)
            rw [HTE.out] at ad1
            clear hq z10
            go_wp2_with fail
            go_meet
            exact ⟨rfl, by first | rfl | trivial⟩
          | false =>
            have HTE : Hid (text = t) := by
              show _ = _
              rw [← HTD.out, ended]
              split
              · rfl
              · split
                · rfl
                · rename_i h1 h2
                  have := HQ.out
                  rw [decide_eq_false_iff_not] at this
                  exact absurd ⟨h1, h2⟩ this
            go_wp2_with fail
            go_meet
            exact ⟨by rw [HTE.out], by first | rfl | trivial⟩
        case rest =>
          obtain ⟨rfl, rfl⟩ := hcut
          clear HQ HTD HZT
          have HZT := Lib.hid (bs_size t)
          have hzt2 : (bs t).size ≤ 50001 := by rw [HZT.out]; exact htl
          obtain ⟨L, hL⟩ : ∃ L, Hid (Lx.fileL t = L) := ⟨_, Lib.hid rfl⟩
          obtain ⟨N, hN⟩ : ∃ N, L.length = N := ⟨_, rfl⟩
          have hNle : N ≤ 50002 := by have := Lx.fileL_count t; rw [hL.out, hN] at this; omega
          go_wp2_with fail
          refine (cut14_any t (by omega) _ hL).mono ?_
          rintro e w1 ⟨⟨A, c, rfl, hown⟩, p1⟩
          have HLS := Lib.hid (Ls.own hown)
          have HE1 := Lib.hid (HE.out.new p1)
          have HP1 := Lib.hid p1
          have HN := Lib.hid hN
          rw [hN]
          clear hown p1 hN
          have HS0 : Hid (∀ x ∈ L.take 0, x ≠ name) := Lib.hid fun x hx => by simp at hx
          go_wp2_with fail
          go_loopw [7] (fun t7 wr => ∃ i : Nat, i ≤ N ∧ t7 = .int .i64 (i : Int) ∧ Hid (∀ x ∈ L.take i, x ≠ name) ∧ w1 = wr) (fun t7 _ => N - (intOf t7).toNat)
          case atStart => exact ⟨0, by omega, rfl, HS0, by first | rfl | trivial⟩
          case round =>
            clear HS0
            obtain ⟨i, hi, rfl, HS, rfl⟩ := hrel
            have j0 : (0 : Int) ≤ (i : Int) := by omega
            rcases Nat.lt_or_ge i N with hin | hin
            · have i0 : decide ((i : Int) < (N : Int)) = true := by rw [decide_eq_true_eq]; omega
              have i1 : (i : Int) < (N : Int) := by omega
              have hiL : i < L.length := by rw [HN.out]; exact hin
              obtain ⟨g, rfl, hg, hcell⟩ := HLS.out (by omega)
              obtain ⟨x, hx⟩ : ∃ x, L[i] = x := ⟨_, rfl⟩
              have hxi : L[i]? = some x := by rw [List.getElem?_eq_getElem hiL, hx]
              have hci := hcell i x hxi
              have htk : L.take (i + 1) = L.take i ++ [x] := by rw [List.take_succ_eq_append_getElem hiL, hx]
              obtain ⟨b, hb⟩ : ∃ b, ((bs x).toList == (bs name).toList) = b := ⟨_, rfl⟩
              have hbx : b = decide (x = name) := by rw [← hb, bs_eq]
              have HB : Hid (b = false → ∀ y ∈ L.take (i + 1), y ≠ name) := Lib.hid fun h y hy => by
                rw [htk] at hy
                rcases List.mem_append.1 hy with hy | hy
                · exact HS.out y hy
                · rw [List.mem_singleton] at hy
                  subst hy
                  rw [h] at hbx
                  simpa using hbx.symm
              clear hxi hcell htk hbx hx hiL HLS
              cases b with
              | true =>
                go_wp2_with fail
                refine (works_call _ HE1.out).mono ?_
                rintro e w2 ⟨rfl, p2⟩
                go_wp2_with fail
                go_ret
                exact ⟨by first | rfl | trivial, below_of_below HP1.out p2 HP1.out.size⟩
              | false =>
                have HN2 := Lib.hid (HB.out rfl)
                clear HB
                go_wp2_with fail
                go_roundw
                case rel => exact ⟨i + 1, by omega, by go_num, HN2, by first | rfl | trivial⟩
                case measure => simp [intOf]; omega
            · have i0 : decide ((i : Int) < (N : Int)) = false := by rw [decide_eq_false_iff_not]; omega
              obtain rfl : i = N := by omega
              have HNO : Hid (∀ x ∈ Lx.fileL t, x ≠ name) := Lib.hid fun x hx => HS.out x (by rw [hL.out] at hx; rw [← HN.out, List.take_length]; exact hx)
              clear HS HLS HN hi
              have H13 : Hid (∀ c ∈ t.take 0, c ≠ 13) := Lib.hid fun x hx => by simp at hx
              go_wp2_with fail
              go_loopw [8] (fun t8 wr => ∃ i : Nat, i ≤ (bs t).size ∧ t8 = .int .i64 (i : Int) ∧ Hid (∀ c ∈ t.take i, c ≠ 13) ∧ w1 = wr) (fun t8 _ => (bs t).size - (intOf t8).toNat)
              case atStart => exact ⟨0, by omega, rfl, H13, by first | rfl | trivial⟩
              case round =>
                clear H13
                obtain ⟨j, hj, rfl, HS, rfl⟩ := hrel
                have j9 : (0 : Int) ≤ (j : Int) := by omega
                rcases Nat.lt_or_ge j (bs t).size with hjn | hjn
                · have m0 : decide ((j : Int) < ((bs t).size : Int)) = true := by rw [decide_eq_true_eq]; omega
                  have m1 : (j : Int) < ((bs t).size : Int) := by omega
                  have hjt : j < t.length := by rw [← HZT.out]; exact hjn
                  obtain ⟨d, hd⟩ : ∃ d, (bs t)[j]'hjn = d := ⟨_, rfl⟩
                  have htk : t.take (j + 1) = t.take j ++ [d] := by rw [List.take_succ_eq_append_getElem hjt]; rw [← hd]; rfl
                  have hby : d.toNat < 256 := UInt8.toNat_lt _
                  obtain ⟨b, hb⟩ : ∃ b, ((d.toNat : Int) == 13) = b := ⟨_, rfl⟩
                  have hbx : b = decide (d = 13) := by rw [← hb]; exact u8_eq d 13
                  have HB : Hid (b = false → ∀ y ∈ t.take (j + 1), y ≠ 13) := Lib.hid fun h y hy => by
                    rw [htk] at hy
                    rcases List.mem_append.1 hy with hy | hy
                    · exact HS.out y hy
                    · rw [List.mem_singleton] at hy
                      subst hy
                      rw [h] at hbx
                      simpa using hbx.symm
                  clear htk hbx hjt
                  cases b with
                  | true =>
                    go_wp2_with fail
                    refine (works_call _ HE1.out).mono ?_
                    rintro e w2 ⟨rfl, p2⟩
                    go_wp2_with fail
                    go_ret
                    exact ⟨by first | rfl | trivial, below_of_below HP1.out p2 HP1.out.size⟩
                  | false =>
                    have HN2 := Lib.hid (HB.out rfl)
                    clear HB
                    go_wp2_with fail
                    go_roundw
                    case rel => exact ⟨j + 1, by omega, by go_num, HN2, by first | rfl | trivial⟩
                    case measure => simp [intOf]; omega
                · have m0 : decide ((j : Int) < ((bs t).size : Int)) = false := by rw [decide_eq_false_iff_not]; omega
                  obtain rfl : j = (bs t).size := by omega
                  have H13 : Hid (∀ c ∈ t, c ≠ 13) := Lib.hid fun x hx => HS.out x (by rw [HZT.out, List.take_length]; exact hx)
                  clear HS
                  obtain ⟨RES, hRES⟩ : ∃ R, Hid (Lx.linesL (Lx.docFile name t) = R) := ⟨_, Lib.hid rfl⟩
                  have zn := bs_size name
                  have zt := bs_size t
                  have c1 : (⟨#[67, 79, 80, 89, 32, 60, 60]⟩ : ByteArray).size = 7 := rfl
                  have c2 : (⟨#[32, 100, 10]⟩ : ByteArray).size = 3 := rfl
                  have c3 : (⟨#[10, 67, 77, 68, 32, 120, 10]⟩ : ByteArray).size = 7 := rfl
                  have c4 : (⟨#[60, 60]⟩ : ByteArray).size = 2 := rfl
                  obtain ⟨x1, h1⟩ : ∃ x, (⟨#[67, 79, 80, 89, 32, 60, 60]⟩ : ByteArray) ++ bs name = x := ⟨_, rfl⟩
                  have s1 : x1.size ≤ 300 := by rw [← h1, ByteArray.size_append]; omega
                  obtain ⟨x2, h2⟩ : ∃ x, x1 ++ (⟨#[32, 100, 10]⟩ : ByteArray) = x := ⟨_, rfl⟩
                  have s2 : x2.size ≤ 400 := by rw [← h2, ByteArray.size_append]; omega
                  obtain ⟨x3, h3⟩ : ∃ x, x2 ++ bs t = x := ⟨_, rfl⟩
                  have s3 : x3.size ≤ 51000 := by rw [← h3, ByteArray.size_append]; omega
                  obtain ⟨x4, h4⟩ : ∃ x, x3 ++ bs name = x := ⟨_, rfl⟩
                  have s4 : x4.size ≤ 52000 := by rw [← h4, ByteArray.size_append]; omega
                  obtain ⟨x5, h5⟩ : ∃ x, x4 ++ (⟨#[10, 67, 77, 68, 32, 120, 10]⟩ : ByteArray) = x := ⟨_, rfl⟩
                  obtain ⟨x6, h6⟩ : ∃ x, (⟨#[60, 60]⟩ : ByteArray) ++ bs name = x := ⟨_, rfl⟩
                  have ad1 : ∀ w, (Op.stringOp .add ⟨#[67, 79, 80, 89, 32, 60, 60]⟩ (bs name)).run Tryz.prog w = .ok (.string x1) w := fun w => by rw [← h1]; exact run_string_add_sum w _ _ (by omega)
                  have ad2 : ∀ w, (Op.stringOp .add x1 ⟨#[32, 100, 10]⟩).run Tryz.prog w = .ok (.string x2) w := fun w => by rw [← h2]; exact run_string_add_sum w _ _ (by omega)
                  have ad3 : ∀ w, (Op.stringOp .add x2 (bs t)).run Tryz.prog w = .ok (.string x3) w := fun w => by rw [← h3]; exact run_string_add_sum w _ _ (by omega)
                  have ad4 : ∀ w, (Op.stringOp .add x3 (bs name)).run Tryz.prog w = .ok (.string x4) w := fun w => by rw [← h4]; exact run_string_add_sum w _ _ (by omega)
                  have ad5 : ∀ w, (Op.stringOp .add x4 ⟨#[10, 67, 77, 68, 32, 120, 10]⟩).run Tryz.prog w = .ok (.string x5) w := fun w => by rw [← h5]; exact run_string_add_sum w _ _ (by omega)
                  have ad6 : ∀ w, (Op.stringOp .add ⟨#[60, 60]⟩ (bs name)).run Tryz.prog w = .ok (.string x6) w := fun w => by rw [← h6]; exact run_string_add_sum w _ _ (by omega)
                  have HX5 : Hid (x5 = bs (Lx.docFile name t)) := by
                    show _ = _
                    rw [← h5, ← h4, ← h3, ← h2, ← h1, show (⟨#[67, 79, 80, 89, 32, 60, 60]⟩ : ByteArray) = bs [67, 79, 80, 89, 32, 60, 60] from rfl, show (⟨#[32, 100, 10]⟩ : ByteArray) = bs [32, 100, 10] from rfl, show (⟨#[10, 67, 77, 68, 32, 120, 10]⟩ : ByteArray) = bs [10, 67, 77, 68, 32, 120, 10] from rfl, bs_app, bs_app, bs_app, bs_app, bs_app]
                    congr 1
                    simp [Lx.docFile, Lx.copyLn]
                  have HX6 : Hid (x6 = bs ([60, 60] ++ name)) := by
                    show _ = _
                    rw [← h6, show (⟨#[60, 60]⟩ : ByteArray) = bs [60, 60] from rfl, bs_app]
                  have HDL : Hid ((Lx.docFile name t).length ≤ 2000000) := Lib.hid (by simp [Lx.docFile, Lx.copyLn]; omega)
                  clear h1 h2 h3 h4 h5 h6 s1 s2 s3 s4 c1 c2 c3 c4 zn zt
                  obtain ⟨raw, hraw⟩ : ∃ raw, [60, 60] ++ name = raw := ⟨_, rfl⟩
                  have hrl : raw.length ≤ 2000000 := by rw [← hraw]; simp; omega
                  have hr2 : 2 ≤ raw.length := by rw [← hraw]; simp
                  rw [hraw] at HX6
                  obtain ⟨NN, hNN⟩ : ∃ N, Hid (Lx.openName raw = N) := ⟨_, Lib.hid rfl⟩
                  obtain ⟨qq, hqq⟩ : ∃ N, Hid (Lx.openRaw raw = N) := ⟨_, Lib.hid rfl⟩
                  obtain ⟨tt, htt⟩ : ∃ N, Hid (Lx.openTabs raw = N) := ⟨_, Lib.hid rfl⟩
                  obtain ⟨oo, hoo⟩ : ∃ N, Hid (Lx.nameOk NN = N) := ⟨_, Lib.hid rfl⟩
                  have HRAW := Lib.hid hraw
                  clear hraw
                  go_upto_region 17 with fail
                  cases RES with
                  | inl z =>
                    go_upto_region 18 with ((go_at_call 9; rw [HX5.out]; refine (lines_call _ HDL.out _ HE1.out hRES).mono ?_; rintro e w2 ⟨hA, p2⟩; have hr := lns_err hA; subst hr))
                    have HE2 := Lib.hid (HE1.out.new p2)
                    have HP2 := Lib.hid (below_of_below HP1.out p2 HP1.out.size)
                    clear hA p2
                    go_upto_region 19 with ((go_at_call 29; rw [HX6.out]; refine (opening14_any raw hrl hr2 _ hNN hqq htt hoo).mono ?_; rintro e w3 ⟨rfl, p3⟩))
                    have HE3 := Lib.hid (HE2.out.new p3)
                    have HP3 := Lib.hid (below_of_below HP2.out p3 HP2.out.size)
                    clear p3
                    go_wp2_with fail
                    refine (works_call _ HE3.out).mono ?_
                    rintro e w4 ⟨rfl, p4⟩
                    go_wp2_with fail
                    go_ret
                    exact ⟨by first | rfl | trivial, below_of_below HP3.out p4 HP3.out.size⟩
                  | inr el =>
                    obtain ⟨ee, ls⟩ := el
                    go_upto_region 18 with ((go_at_call 9; rw [HX5.out]; refine (lines_call _ HDL.out _ HE1.out hRES).mono ?_; rintro e w2 ⟨hA, p2⟩; obtain ⟨A2, cc2, hr, hLL⟩ := lns_ok hA; subst hr))
                    have HE2 := Lib.hid (HE1.out.new p2)
                    have HP2 := Lib.hid (below_of_below HP1.out p2 HP1.out.size)
                    have HLL := Lib.hid hLL
                    clear hA p2 hLL
                    go_upto_region 19 with ((go_at_call 29; rw [HX6.out]; refine (opening14_any raw hrl hr2 _ hNN hqq htt hoo).mono ?_; rintro e w3 ⟨rfl, p3⟩))
                    have HE3 := Lib.hid (HE2.out.new p3)
                    have HP3 := Lib.hid (below_of_below HP2.out p3 HP2.out.size)
                    have HLL3 := Lib.hid (HLL.out.new p3)
                    clear p3 HLL
                    cases oo with
                    | false =>
                      go_wp2_with fail
                      refine (works_call _ HE3.out).mono ?_
                      rintro e w4 ⟨rfl, p4⟩
                      go_wp2_with fail
                      go_ret
                      exact ⟨by first | rfl | trivial, below_of_below HP3.out p4 HP3.out.size⟩
                    | true =>
                      have hnn : name ≠ [] := fun h => by
                        have h1 := hoo.out
                        rw [← hNN.out, ← HRAW.out, h] at h1
                        exact absurd h1 (by decide)
                      obtain ⟨a, r, har⟩ : ∃ a r, name = a :: r := by
                        cases name with
                        | nil => exact absurd rfl hnn
                        | cons a r => exact ⟨a, r, rfl⟩
                      have hpos : 0 < (bs name).size := by rw [HZ.out, har]; simp
                      have hposi : (0 : Int) < ((bs name).size : Int) := by omega
                      have ha0 : (bs name)[0]'hpos = a := get_of (s := name) (k := 0) (by rw [har]; rfl) hpos
                      have hby : a.toNat < 256 := UInt8.toNat_lt _
                      obtain ⟨k1, f1⟩ : ∃ b, ((a.toNat : Int) == 45) = b := ⟨_, rfl⟩
                      obtain ⟨k2, f2⟩ : ∃ b, ((a.toNat : Int) == 34) = b := ⟨_, rfl⟩
                      obtain ⟨k3, f3⟩ : ∃ b, ((a.toNat : Int) == 39) = b := ⟨_, rfl⟩
                      have g1 : k1 = decide (a = 45) := by rw [← f1]; exact u8_eq a 45
                      have g2 : k2 = decide (a = 34) := by rw [← f2]; exact u8_eq a 34
                      have g3 : k3 = decide (a = 39) := by rw [← f3]; exact u8_eq a 39
                      have HSH : Hid (k1 = false → k2 = false → k3 = false → ∃ ms l2 ms2, ls = [⟨1, Lx.copyLn name, ms, [⟨name, false, 2, t⟩]⟩, ⟨l2, Lx.cmdX, ms2, []⟩]) := Lib.hid fun p1 p2 p3 => by
                        have n1 : name.head? ≠ some 45 := by rw [har]; intro e; injection e with e; rw [p1, e] at g1; simp at g1
                        have n2 : name.head? ≠ some 34 := by rw [har]; intro e; injection e with e; rw [p2, e] at g2; simp at g2
                        have n3 : name.head? ≠ some 39 := by rw [har]; intro e; injection e with e; rw [p3, e] at g3; simp at g3
                        have hop := (Lx.open_plain n1 n2 n3).1
                        rw [HRAW.out, hNN.out] at hop
                        have hok := hoo.out
                        rw [hop] at hok
                        rcases Lx.docs_lines hok hn200 htl HTL.out H13.out HNO.out with ⟨z, hz⟩ | ⟨ms, l2, ms2, hz⟩
                        · rw [hRES.out] at hz; cases hz
                        · rw [hRES.out] at hz
                          injection hz with hz
                          injection hz with _ hz
                          exact ⟨ms, l2, ms2, hz⟩
                      have HA0 := Lib.hid ha0
                      clear hnn har g1 g2 g3 ha0
                      cases k1 with
                      | true =>
                        have ha0 := HA0.out
                        go_wp2_with fail
                        refine (works_call _ HE3.out).mono ?_
                        rintro e w4 ⟨rfl, p4⟩
                        go_wp2_with fail
                        go_ret
                        exact ⟨by first | rfl | trivial, below_of_below HP3.out p4 HP3.out.size⟩
                      | false =>
                        cases k2 with
                        | true =>
                          have ha0 := HA0.out
                          go_wp2_with fail
                          refine (works_call _ HE3.out).mono ?_
                          rintro e w4 ⟨rfl, p4⟩
                          go_wp2_with fail
                          go_ret
                          exact ⟨by first | rfl | trivial, below_of_below HP3.out p4 HP3.out.size⟩
                        | false =>
                          cases k3 with
                          | true =>
                            have ha0 := HA0.out
                            go_wp2_with fail
                            refine (works_call _ HE3.out).mono ?_
                            rintro e w4 ⟨rfl, p4⟩
                            go_wp2_with fail
                            go_ret
                            exact ⟨by first | rfl | trivial, below_of_below HP3.out p4 HP3.out.size⟩
                          | false =>
                            obtain ⟨ms, l2, ms2, hls⟩ := HSH.out rfl rfl rfl
                            subst hls
                            obtain ⟨b, o, g, p, cd, rfl, d3, d5, q0, q1, q3⟩ := LsRd.two HLL3.out rfl
                            have d5' : w3.cell? ⟨b, o + 5, none⟩ = some (.string ⟨#[67, 77, 68, 32, 120]⟩) := d5
                            have tq : ((⟨#[67, 77, 68, 32, 120]⟩ : ByteArray).toList == [67, 77, 68, 32, 120]) = true := by rw [show (⟨#[67, 77, 68, 32, 120]⟩ : ByteArray) = bs [67, 77, 68, 32, 120] from rfl, toList_bs]; rfl
                            clear d5
                            have ha0 := HA0.out
                            have hlen2 : ([⟨1, Lx.copyLn name, ms, [⟨name, false, 2, t⟩]⟩, ⟨l2, Lx.cmdX, ms2, []⟩] : List Lx.Ln).length = 2 := rfl
                            clear HSH HLL3
                            go_wp2_with fail
                            refine (works_call _ HE3.out).mono ?_
                            rintro e w4 ⟨rfl, p4⟩
                            go_wp2_with fail
                            go_ret
                            exact ⟨by first | rfl | trivial, below_of_below HP3.out p4 HP3.out.size⟩
end Go.Proofs.YtpgnfianffjpnaaGreatDoor
