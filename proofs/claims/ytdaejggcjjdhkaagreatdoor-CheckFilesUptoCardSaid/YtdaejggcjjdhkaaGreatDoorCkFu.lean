/- strataref18.Full and Ref, walked. -/
import Derived.Test.YtdaejggcjjdhkaaGreatDoorCkYc
import Derived.Test.YtdaejggcjjdhkaaGreatDoorCkV
import Derived.Test.YtdaejggcjjdhkaaGreatDoorMkC
namespace Go.Proofs.YtdaejggcjjdhkaaGreatDoor
open Go Go.RowKit
namespace Ck
theorem full_shape (s : List UInt8) : (∃ a t n, ((Gl.cutL 58 s = [a] ∧ t = latest ∧ n = s.length + 7) ∨ (Gl.cutL 58 s = [a, t] ∧ n = s.length)) ∧ refR s = (decide (s.length ≤ 96) && (tagR t && decide (a ≠ scratch) && decide (n ≤ 96) && (Gl.cutL 47 a).all pieceR))) ∨ (3 ≤ (Gl.cutL 58 s).length ∧ refR s = false) := by
  have hne := Gl.cutL_ne 58 s
  unfold refR
  rcases hL : Gl.cutL 58 s with _ | ⟨a, _ | ⟨t, _ | ⟨c, r⟩⟩⟩
  · rw [hL] at hne; cases hne
  · refine .inl ⟨a, latest, s.length + 7, .inl ⟨rfl, rfl, rfl⟩, ?_⟩
    have ht : tagR latest = true := by decide
    rw [ht, Bool.true_and]
  · refine .inl ⟨a, t, s.length, .inr ⟨rfl, rfl⟩, ?_⟩
    dsimp only
    cases decide (s.length ≤ 96) <;> simp
  · exact .inr ⟨by simp, by simp⟩
end Ck
theorem cut18_58 (s : List UInt8) (hs : s.length ≤ 70000) (w : World) :
    Calls Tryz.prog 105 #[.string (bs s), .int .u8 58] w fun r w' => ∃ v, r = .returned v ∧ w'.ownsRow w.heap.size 9 1 v (Gl.cutL 58 s).length (sc (Gl.cutL 58 s)) ∧ Below w.heap.size w w' := cut18_any s hs 58 w
theorem cut18_47 (s : List UInt8) (hs : s.length ≤ 70000) (w : World) :
    Calls Tryz.prog 105 #[.string (bs s), .int .u8 47] w fun r w' => ∃ v, r = .returned v ∧ w'.ownsRow w.heap.size 9 1 v (Gl.cutL 47 s).length (sc (Gl.cutL 47 s)) ∧ Below w.heap.size w w' := cut18_any s hs 47 w
/-- what Full answers: its truth. -/
def FullP (b : Bool) (w : World) (r : Ending) (w' : World) : Prop := (∃ x : ByteArray, r = .returned (.tuple #[.string x, .bool b])) ∧ Below w.heap.size w w'
set_option maxRecDepth 100000 in
set_option maxHeartbeats 2000000 in
theorem full_any (s : List UInt8) (hs : s.length ≤ 70000) (w : World) {b : Bool} (H : Hid (Ck.refR s = b)) : Calls Tryz.prog 49 #[.string (bs s)] w (FullP b w) := by
  have hz := bs_size s
  have HZ := Lib.hid hz
  have hs2 : (bs s).size ≤ 70000 := by omega
  rcases Nat.lt_or_ge 96 (bs s).size with h0 | h0
  · have HF : Hid (b = false) := Lib.hid (by rw [← H.out, Ck.refR, show decide (s.length ≤ 96) = false by rw [decide_eq_false_iff_not]; omega]; rfl)
    have k0 : decide ((96 : Int) < ((bs s).size : Int)) = true := by rw [decide_eq_true_eq]; omega
    have k1 : (96 : Int) < ((bs s).size : Int) := by omega
    go_enter Tryz.func49, Tryz.ntmps49
    go_wp2_with fail
    go_ret2
    cases HF.out
    exact ⟨⟨_, rfl⟩, Below.refl _ _⟩
  have k0 : decide ((96 : Int) < ((bs s).size : Int)) = false := by rw [decide_eq_false_iff_not]; omega
  have k1 : ¬ (96 : Int) < ((bs s).size : Int) := by omega
  have h96 : decide (s.length ≤ 96) = true := by rw [decide_eq_true_eq]; omega
  have HSH := Lib.hid (Ck.full_shape s)
  obtain ⟨L, hL⟩ : ∃ L, Hid (Gl.cutL 58 s = L) := ⟨_, Lib.hid rfl⟩
  have HLL : Hid (L.length ≤ 97) := Lib.hid (by have := Gl.cutL_length 58 s; rw [hL.out] at this; omega)
  have HPL : Hid (∀ x ∈ L, x.length ≤ 96) := Lib.hid fun x hx => by
    rw [← hL.out] at hx
    have := Gl.cutL_piece 58 s x hx
    omega
  clear hz
  go_enter Tryz.func49, Tryz.ntmps49
  go_wp2_with fail
  refine (cut18_58 s (by omega) w).mono ?_
  rintro r w1 ⟨v, rfl, ho, p1⟩
  have HP1 := Lib.hid p1
  rw [hL.out] at ho
  have hsh := HSH.out
  simp only [hL.out, h96, Bool.true_and] at hsh
  obtain ⟨l, hl⟩ : ∃ l, L.length = l := ⟨_, rfl⟩
  have hpos : 0 < L.length := by
    rw [← hL.out, Gl.cutL_ne]; simp
  rw [hl] at ho hpos
  have hl97 : l ≤ 97 := by have := HLL.out; omega
  obtain ⟨g, c, rfl, hg0, hg1⟩ := own_pos ho hpos
  have HO := Lib.hid ho
  clear ho p1 h96 HSH
  rcases hsh with ⟨a, t, n, hlr, hrf⟩ | ⟨h3, hrf⟩
  rotate_left
  · have HF : Hid (b = false) := Lib.hid (by rw [← H.out]; exact hrf)
    have h3' : 3 ≤ l := by rw [← hl]; exact h3
    have e0 : ((l : Int) == 1) = false := by rw [beq_eq_false_iff_ne]; omega
    have e1 : (l == 1) = false := by rw [beq_eq_false_iff_ne]; omega
    have e2 : ((l : Int) != 2) = true := by rw [bne_iff_ne]; omega
    have e3 : (l != 2) = true := by rw [bne_iff_ne]; omega
    clear hrf h3
    go_wp2_with fail
    go_ret2
    cases HF.out
    exact ⟨⟨_, rfl⟩, HP1.out⟩
  have HRF : Hid ((Ck.tagR t && decide (a ≠ Ck.scratch) && decide (n ≤ 96) && (Gl.cutL 47 a).all Ck.pieceR) = b) := Lib.hid (by rw [← hrf, H.out])
  have HLR := Lib.hid hlr
  have hal : a.length ≤ 96 := by
    have hpl := HPL.out
    rcases hlr with ⟨q, _, _⟩ | ⟨q, _⟩ <;> (rw [q] at hpl; exact hpl a (by simp))
  have htl : t.length ≤ 96 := by
    have hpl := HPL.out
    rcases hlr with ⟨_, q, _⟩ | ⟨q, _⟩
    · rw [q]; decide
    · rw [q] at hpl; exact hpl t (by simp)
  clear hlr hrf hg0 hg1
  go_upto_if 14 with fail
  go_cut [0, 4] from 15 to 19 (fun s0 s4 wx => ∃ (x : ByteArray) (g2 c2 : Nat), s0 = .string x ∧ x.size = n ∧ s4 = .slice (some ⟨g2, 0, none⟩) 2 c2 ∧ Hid (wx.ownsRow w.heap.size 9 1 (.slice (some ⟨g2, 0, none⟩) 2 c2) 2 (sc [a, t])) ∧ Hid (Below w.heap.size w wx))
  case first =>
    rcases HLR.out with ⟨q1, q2, q3⟩ | ⟨q1, q3⟩
    · have hl1 : l = 1 := by rw [← hl, q1]; rfl
      subst hl1
      have HO1 : Hid (w1.ownsRow w.heap.size 9 1 (.slice (some ⟨g, 0, none⟩) 1 c) 1 (sc [a])) := Lib.hid (by have r := HO.out; rwa [q1] at r)
      obtain ⟨V, hV⟩ : ∃ V, bs s ++ (⟨#[58, 108, 97, 116, 101, 115, 116]⟩ : ByteArray) = V := ⟨_, rfl⟩
      have hz7 : (⟨#[58, 108, 97, 116, 101, 115, 116]⟩ : ByteArray).size = 7 := rfl
      have ad1 : ∀ w, (Op.stringOp .add (bs s) (⟨#[58, 108, 97, 116, 101, 115, 116]⟩ : ByteArray)).run Tryz.prog w = .ok (.string V) w := fun w => by rw [← hV]; exact run_string_add_sum w _ _ (by omega)
      have HVN : Hid (V.size = n) := Lib.hid (by rw [← hV, ByteArray.size_append, hz7, q3]; have := HZ.out; omega)
      clear hV hz7 q1 q3
      go_wp2_with (at_builtin; refine wpList_appS rfl _ _ _ rfl strT w.heap.size _ 1 (sc [a]) rfl (HO1.out.alloc _) _ 1 [Value.string ⟨#[108, 97, 116, 101, 115, 116]⟩] rfl (newA rfl) rfl (fun u hu => by rw [List.mem_singleton] at hu; subst hu; rfl) (by omega) (by omega) (Below.refl _ _) (by rw [World.size_alloc]; have := HP1.out.size; omega) ?_; intro v1 w9 ho1 hb1 hg1 hat1; have HO9 : Hid (w9.ownsRow w.heap.size 9 1 v1 2 (sc [a, t])) := Lib.hid (by rw [q2]; exact ho1); have HB9 := Lib.hid ((HP1.out.alloc HP1.out.size _).trans hb1); obtain ⟨g9, c9, rfl, _, _⟩ := own_pos ho1 (by omega); clear ho1 hb1 hg1 hat1)
      go_meet
      exact ⟨V, g9, c9, rfl, HVN.out, rfl, HO9, HB9⟩
    · have hl2 : l = 2 := by rw [← hl, q1]; rfl
      subst hl2
      have HO1 : Hid (w1.ownsRow w.heap.size 9 1 (.slice (some ⟨g, 0, none⟩) 2 c) 2 (sc [a, t])) := Lib.hid (by have r := HO.out; rwa [q1] at r)
      go_wp2_with fail
      go_meet
      exact ⟨bs s, g, c, rfl, by rw [q3]; exact HZ.out, rfl, HO1, HP1⟩
  case rest =>
    obtain ⟨x, g2, c2, rfl, hx, rfl, HO2, HP2⟩ := hcut
    rename World => w2
    subst hx
    have c0 : w2.cell? ⟨g2, 0, none⟩ = some (.string (bs a)) := by rw [HO2.out.cellAt 0 (by omega)]; rfl
    have c1 : w2.cell? ⟨g2, 1, none⟩ = some (.string (bs t)) := by rw [HO2.out.cellAt 1 (by omega)]; rfl
    obtain ⟨z1, e1⟩ : ∃ z, decide ((96 : Int) < (x.size : Int)) = z := ⟨_, rfl⟩
    obtain ⟨z2, e2⟩ : ∃ z, ((bs a).toList == [115, 99, 114, 97, 116, 99, 104]) = z := ⟨_, rfl⟩
    obtain ⟨o, ho⟩ : ∃ o, Hid (Ck.tagR t = o) := ⟨_, Lib.hid rfl⟩
    have hz2 : decide (a ≠ Ck.scratch) = !z2 := by
      rw [← e2, bs_list, Bool.eq_iff_iff, decide_eq_true_eq, Bool.not_eq_true', beq_eq_false_iff_ne]
      exact Iff.rfl
    have hz1 : decide (x.size ≤ 96) = !z1 := by rw [← e1, Bool.eq_iff_iff, decide_eq_true_eq, Bool.not_eq_true', decide_eq_false_iff_not]; omega
    have hs3 := HRF.out
    rw [hz1, hz2, ho.out] at hs3
    have HS3 := Lib.hid hs3
    clear hs3 hz1 hz2 HRF HLR HO HP1 k0 k1
    go_wp2_with fail
    refine (tag18_any t (by omega) w2 ho).mono ?_
    rintro e w3 ⟨rfl, rfl⟩
    cases o with
    | false =>
      have HF : Hid (b = false) := Lib.hid (by rw [← HS3.out]; rfl)
      go_wp2_with fail
      go_ret2
      cases HF.out
      exact ⟨⟨_, rfl⟩, HP2.out⟩
    | true =>
      cases z2 with
      | true =>
        have HF : Hid (b = false) := Lib.hid (by rw [← HS3.out]; rfl)
        go_wp2_with fail
        go_ret2
        cases HF.out
        exact ⟨⟨_, rfl⟩, HP2.out⟩
      | false =>
        cases z1 with
        | true =>
          have HF : Hid (b = false) := Lib.hid (by rw [← HS3.out]; rfl)
          go_wp2_with fail
          go_ret2
          cases HF.out
          exact ⟨⟨_, rfl⟩, HP2.out⟩
        | false =>
          have HA : Hid ((Gl.cutL 47 a).all Ck.pieceR = b) := Lib.hid (by rw [← HS3.out]; rfl)
          clear HS3
          obtain ⟨ls, hls⟩ : ∃ ls, Hid (Gl.cutL 47 a = ls) := ⟨_, Lib.hid rfl⟩
          have hN : ls.length ≤ 97 := by have := Gl.cutL_length 47 a; rw [hls.out] at this; omega
          have HPL2 : Hid (∀ x ∈ ls, x.length ≤ 96) := Lib.hid fun x hx => by
            rw [← hls.out] at hx
            have := Gl.cutL_piece 47 a x hx
            omega
          rw [hls.out] at HA
          have hnn : 0 < ls.length := by rw [← hls.out, Gl.cutL_ne]; simp
          go_wp2_with fail
          refine (cut18_47 a (by omega) w2).mono ?_
          rintro e w4 ⟨v, rfl, ho4, p4⟩
          rw [hls.out] at ho4
          obtain ⟨g4, c4, rfl, _, _⟩ := own_pos ho4 hnn
          have HO4 := Lib.hid ho4
          have HP4 := Lib.hid (below_of_below HP2.out p4 HP2.out.size)
          have H0 : Hid ((ls.drop 0).all Ck.pieceR = b) := Lib.hid (by rw [List.drop_zero]; exact HA.out)
          clear ho4 p4 HA c0 c1 hnn
          go_wp2_with fail
          go_loopw [6] (fun t6 wr => ∃ i : Nat, i ≤ ls.length ∧ t6 = .int .i64 (i : Int) ∧ Hid ((ls.drop i).all Ck.pieceR = b) ∧ w4 = wr) (fun t6 _ => ls.length - (intOf t6).toNat)
          case atStart => exact ⟨0, by omega, rfl, H0, by first | rfl | trivial⟩
          case round =>
            clear H0
            obtain ⟨i, hi, rfl, HR, rfl⟩ := hrel
            have j0 : (0 : Int) ≤ (i : Int) := by omega
            rcases Nat.lt_or_ge i ls.length with hin | hin
            · have i0 : decide ((i : Int) < (ls.length : Int)) = true := by rw [decide_eq_true_eq]; omega
              have i1 : (i : Int) < (ls.length : Int) := by omega
              have hR := HR.out
              rw [List.drop_eq_getElem_cons hin, List.all_cons] at hR
              obtain ⟨p, hp⟩ : ∃ p, ls[i] = p := ⟨_, rfl⟩
              have hci : w4.cell? ⟨g4, i, none⟩ = some (.string (bs p)) := by
                rw [HO4.out.cellAt i (by omega), ← hp]
                simp [sc, hin]
              have hpl : p.length ≤ 96 := by rw [← hp]; exact HPL2.out _ (List.getElem_mem hin)
              obtain ⟨u, hu⟩ : ∃ u, Hid (Ck.pieceR p = u) := ⟨_, Lib.hid rfl⟩
              rw [hp, hu.out] at hR
              have HR2 := Lib.hid hR
              clear hR hp HR
              go_wp2_with fail
              refine (piece18_any p (by omega) w4 hu).mono ?_
              rintro e w5 ⟨rfl, rfl⟩
              cases u with
              | false =>
                have HF : Hid (b = false) := Lib.hid (by rw [← HR2.out]; rfl)
                go_wp2_with fail
                go_ret2
                cases HF.out
                exact ⟨⟨_, rfl⟩, HP4.out⟩
              | true =>
                have HR3 : Hid ((ls.drop (i + 1)).all Ck.pieceR = b) := Lib.hid (by rw [← HR2.out]; rfl)
                go_wp2_with fail
                go_roundw
                case rel => exact ⟨i + 1, by omega, by go_num, HR3, by first | rfl | trivial⟩
                case measure => simp [intOf]; omega
            · have i0 : decide ((i : Int) < (ls.length : Int)) = false := by rw [decide_eq_false_iff_not]; omega
              have e0n : decide (i < ls.length) = false := by rw [decide_eq_false_iff_not]; omega
              have HF : Hid (b = true) := Lib.hid (by rw [← HR.out, List.drop_eq_nil_of_le hin]; rfl)
              go_wp2_with fail
              go_ret2
              cases HF.out
              exact ⟨⟨_, rfl⟩, HP4.out⟩
set_option maxRecDepth 100000 in
theorem ref18_any (s : List UInt8) (hs : s.length ≤ 70000) (w : World) {b : Bool} (H : Hid (Ck.refR s = b)) : Calls Tryz.prog 18 #[.string (bs s)] w fun r w' => r = .returned (.int .i64 (if b then 0 else 31)) ∧ Below w.heap.size w w' := by
  go_enter Tryz.func18, Tryz.ntmps18
  go_wp2_with fail
  refine (full_any s hs w H).mono ?_
  rintro r w1 ⟨⟨x, rfl⟩, p1⟩
  cases b with
  | true =>
    go_wp2_with fail
    go_ret
    exact ⟨rfl, p1⟩
  | false =>
    go_wp2_with fail
    go_ret
    exact ⟨rfl, p1⟩
end Go.Proofs.YtdaejggcjjdhkaaGreatDoor
