/- lex.document, walked. -/
import Derived.Test.YtpgnfianffjpnaaGreatDoorLxN
import Derived.Test.YtpgnfianffjpnaaGreatDoorBld
import Derived.Test.YtpgnfianffjpnaaGreatDoorLxO
namespace Go.Proofs.YtpgnfianffjpnaaGreatDoor
open Go Go.RowKit

/-- what document answers, from line i on. -/
def BodyAns (w' : World) (R g c : Nat) (L : List (List UInt8)) (i : Nat) (e : UInt8) (n : List UInt8) (q : Bool) (RES : Option (List UInt8 × Nat)) (r : Ending) : Prop := match RES with
  | none => r = .returned (.tuple #[.agg #[.string ⟨#[]⟩, .bool false, .int .i64 0, .string ⟨#[]⟩], .bool false])
  | some (t, m) => r = .returned (.tuple #[.agg #[.string (bs n), .bool q, .int .i64 ((i : Int) + 1), .string (bs t)], .bool true]) ∧ m ≤ L.length ∧ Rd w' R g c L m e
theorem mul71 {a b m : Nat} (h : a ≤ m * 70001) (hb : b ≤ a + 70001) : b ≤ (m + 1) * 70001 := by rw [Nat.add_mul, Nat.one_mul]; omega
theorem bareL_le (tb : Bool) (x : List UInt8) : (Lx.bare tb x).length ≤ x.length := by
  unfold Lx.bare
  split
  · exact Lx.trimL_le x [9]
  · exact Nat.le_refl _
section
variable {n : List UInt8} {tb : Bool} {L : List (List UInt8)} {m : Nat} {acc : List UInt8} {RES : Option (List UInt8 × Nat)}
theorem body_end (h : L.length ≤ m) : Lx.bodyL n tb (L.drop m) acc m = none := by rw [List.drop_eq_nil_of_le h, Lx.bodyL]
theorem body_hit (h : m < L.length) (hb : Lx.bare tb L[m] = n) : Lx.bodyL n tb (L.drop m) acc m = some (acc, m + 1) := by rw [List.drop_eq_getElem_cons h, Lx.bodyL, if_pos hb]
theorem body_go (h : m < L.length) (hb : ¬ Lx.bare tb L[m] = n) : Lx.bodyL n tb (L.drop m) acc m = Lx.bodyL n tb (L.drop (m + 1)) (acc ++ Lx.bare tb L[m] ++ [10]) (m + 1) := by rw [List.drop_eq_getElem_cons h, Lx.bodyL, if_neg hb]
end
theorem bs_eq (a b : List UInt8) : ((bs a).toList == (bs b).toList) = decide (a = b) := by
  rw [toList_bs, toList_bs, Bool.eq_iff_iff]
  simp
set_option maxRecDepth 100000 in
set_option maxHeartbeats 8000000 in
theorem document_any {w : World} {R g c : Nat} {L : List (List UInt8)} {i : Nat} {e : UInt8} (n : List UInt8) (q tb : Bool) (hr : Rd w R g c L i e) (hi : i ≤ L.length) (hL : L.length ≤ 5000) (hx : Hid (∀ x ∈ L, x.length ≤ 70000)) {RES : Option (List UInt8 × Nat)} (H : Hid (Lx.bodyL n tb (L.drop i) [] i = RES)) :
    Calls Tryz.prog 107 #[.pointer (some ⟨R, 0, none⟩), .agg #[.string (bs n), .bool q, .int .i64 0, .string ⟨#[]⟩], .bool tb] w fun r w' => BodyAns w' R g c L i e n q RES r ∧ Fx (· = R) w w' := by
  have hRl := hr.box.lt
  have hgl := hr.lt
  have hB0 := ((Below.refl w.heap.size w).alloc (Nat.le_refl _) (.cells #[.string (bs n), .bool q, .int .i64 0, .string ⟨#[]⟩] 83)).alloc (by simp) (.cells #[.string ⟨#[]⟩, .bool false, .int .i64 0, .string ⟨#[]⟩] 83)
  have hD0 : Blk ((w.alloc (.cells #[.string (bs n), .bool q, .int .i64 0, .string ⟨#[]⟩] 83)).alloc (.cells #[.string ⟨#[]⟩, .bool false, .int .i64 0, .string ⟨#[]⟩] 83)) w.heap.size 83 #[.string (bs n), .bool q, .int .i64 0, .string ⟨#[]⟩] := (Blk.new w _ _).alloc _
  have hQ0 := Blk.new (w.alloc (.cells #[.string (bs n), .bool q, .int .i64 0, .string ⟨#[]⟩] 83)) 83 #[.string ⟨#[]⟩, .bool false, .int .i64 0, .string ⟨#[]⟩]
  rw [World.size_alloc] at hQ0
  have hR0 := hr.new hB0
  obtain ⟨w0, hw0⟩ : ∃ w0, (w.alloc (.cells #[.string (bs n), .bool q, .int .i64 0, .string ⟨#[]⟩] 83)).alloc (.cells #[.string ⟨#[]⟩, .bool false, .int .i64 0, .string ⟨#[]⟩] 83) = w0 := ⟨_, rfl⟩
  rw [hw0] at hB0 hQ0 hD0 hR0
  have hz0 : w0.heap.size = w.heap.size + 2 := by rw [← hw0]; simp
  have hF0 : Fx (· = R) w w0 := Fx.new hB0
  have HW0 := Lib.hid hw0
  have HZ0 := Lib.hid hz0
  have HQ0 := Lib.hid hQ0
  have HD0 := Lib.hid hD0
  have HR0 := Lib.hid hR0
  have HF0 := Lib.hid hF0
  have k2 : w0.cell? ⟨w.heap.size, 2, none⟩ = some (.int .i64 0) := hD0.cell 2
  have m2 := hD0.frozen 2
  clear hr hB0 hQ0 hR0 hD0 hw0 hF0 hz0
  go_enter Tryz.func107, Tryz.ntmps107
  go_upto_region 1 with fail
  rw [HW0.out]
  go_wp2_with fail
  refine (number_any HR0.out).mono ?_
  rintro r w9 ⟨rfl, rfl⟩
  have hg1 := Fx.set w0 w.heap.size 2 (.int .i64 ((i : Int) + 1))
  have hR1 := HR0.out.fx hg1 (by omega) (by omega)
  have hQ1 := hg1.blk HQ0.out (by omega)
  have hF1 := HF0.out.then hg1 (fun b hb e => by omega)
  have hD1 : Blk (w0.setCell ⟨w.heap.size, 2, none⟩ (.int .i64 ((i : Int) + 1))) w.heap.size 83 #[.string (bs n), .bool q, .int .i64 ((i : Int) + 1), .string ⟨#[]⟩] := by
    have := HD0.out.set_ 2 (.int .i64 ((i : Int) + 1))
    simpa using this
  have hz1 := setCell_size w0 ⟨w.heap.size, 2, none⟩ (.int .i64 ((i : Int) + 1))
  obtain ⟨w1, hw1⟩ : ∃ w1, w0.setCell ⟨w.heap.size, 2, none⟩ (.int .i64 ((i : Int) + 1)) = w1 := ⟨_, rfl⟩
  rw [hw1] at hR1 hQ1 hF1 hD1 hz1
  have hzz : w1.heap.size = w.heap.size + 2 := by rw [hz1]; exact HZ0.out
  have hbd := Bd.fresh w1
  have hb1 := (Below.refl w1.heap.size w1).alloc (Nat.le_refl _) (.cells #[.pointer none, .slice none 0 0] 277)
  have hR2 := hR1.new hb1
  have hQ2 := hQ1.below hb1 hQ1.lt
  have hD2 := hD1.below hb1 hD1.lt
  have hF2 := hF1.trans (Fx.new hb1)
  rw [hzz] at hbd
  obtain ⟨w2, hw2⟩ : ∃ w2, w1.alloc (.cells #[.pointer none, .slice none 0 0] 277) = w2 := ⟨_, rfl⟩
  rw [hw2] at hbd hR2 hQ2 hD2 hF2
  have hz2 : w.heap.size + 2 < w2.heap.size := by rw [← hw2, World.size_alloc, hzz]; omega
  have HW1 := Lib.hid hw1
  have HW2 := Lib.hid hw2
  have HZZ := Lib.hid hzz
  have HBD := Lib.hid hbd
  have HR2 := Lib.hid hR2
  have HQ2 := Lib.hid hQ2
  have HD2 := Lib.hid hD2
  have HF2 := Lib.hid hF2
  clear hg1 hR1 hQ1 hF1 hD1 hz1 hw1 hbd hb1 hR2 hQ2 hD2 hF2 hw2 hzz HR0 HQ0 HD0 HF0
  go_upto_region 2 with fail
  rw [HW1.out]
  clear k2 m2
  go_wp2_with fail
  rw [HW2.out, HZZ.out]
  clear HW1 HW2 HZZ HW0 HZ0
  go_loopw [9, 10] (fun _ _ wr => ∃ (m : Nat) (acc : List UInt8), m ≤ L.length ∧ acc.length ≤ m * 70001 ∧ Hid (Lx.bodyL n tb (L.drop m) acc m = RES) ∧ Hid (Rd wr R g c L m e) ∧ Hid (Blk wr w.heap.size 83 #[.string (bs n), .bool q, .int .i64 ((i : Int) + 1), .string ⟨#[]⟩]) ∧ Hid (Blk wr (w.heap.size + 1) 83 #[.string ⟨#[]⟩, .bool false, .int .i64 0, .string ⟨#[]⟩]) ∧ Hid (Bd wr (w.heap.size + 2) (w.heap.size + 2) acc) ∧ Hid (Fx (· = R) w wr) ∧ w.heap.size + 2 < wr.heap.size) (fun _ _ wr => L.length - (match wr.cell? ⟨R, 1, none⟩ with | some v => (intOf v).toNat | none => 0))
  case atStart => exact ⟨i, [], hi, by simp, H, HR2, HD2, HQ2, HBD, HF2, hz2⟩
  case round =>
    clear HR2 HD2 HQ2 HBD HF2 hz2 H
    obtain ⟨m, acc, hm, hacc, HB, HR, HD, HQ, HBd, HF, hz⟩ := hrel
    rcases Nat.lt_or_ge m L.length with hmn | hmn
    · obtain ⟨x, hxe⟩ : ∃ x, Hid (L[m] = x) := ⟨_, Lib.hid rfl⟩
      have hxl : x.length ≤ 70000 := by rw [← hxe.out]; exact hx.out _ (List.getElem_mem hmn)
      have HC1 : Hid (wr.cell? ⟨R, 1, none⟩ = some (.int .i64 (m : Int))) := HR.out.box.cell 1
      go_wp2_with fail
      refine (next_line HR.out hmn (by omega) hxe).mono ?_
      rintro r w3 ⟨rfl, hR3, hG3⟩
      have hsz3 := hG3.size
      have hD3 := (Fx.row1 hG3).blk HD.out (by omega)
      have hQ3 := (Fx.row1 hG3).blk HQ.out (by omega)
      have hBd3 := HBd.out.row hG3 (by omega)
      have hF3 := HF.out.trans (Fx.row1 hG3)
      have HR3 := Lib.hid hR3
      have HD3 := Lib.hid hD3
      have HQ3 := Lib.hid hQ3
      have HBd3 := Lib.hid hBd3
      have HF3 := Lib.hid hF3
      obtain ⟨y, hy⟩ : ∃ y, Hid (Lx.bare tb x = y) := ⟨_, Lib.hid rfl⟩
      have hyl : y.length ≤ 70000 := by rw [← hy.out]; exact Nat.le_trans (bareL_le tb x) hxl
      clear hR3 hD3 hQ3 hBd3 hF3 hG3 HR HD HQ HBd HF
      go_upto_if 27 with fail
      go_cut [9] (fun s9 wx => s9 = .string (bs y) ∧ Below w3.heap.size w3 wx)
      case first =>
        cases tb with
        | true =>
          have ht : Hid (Lib.trimLeftS x [9] = y) := hy
          go_wp2_with fail
          refine (trimTabs_any x _ ht).mono ?_
          rintro r w4 ⟨rfl, b4⟩
          go_wp2_with fail
          go_meet
          exact ⟨rfl, b4⟩
        | false =>
          have ht : Hid (x = y) := hy
          go_wp2_with fail
          go_meet
          exact ⟨by rw [ht.out], Below.refl _ _⟩
      case rest =>
        rename World => w4
        obtain ⟨rfl, b4⟩ := hcut
        have hsz4 := b4.size
        have hR4 := HR3.out.new b4
        have hD4 := HD3.out.below b4 HD3.out.lt
        have hQ4 := HQ3.out.below b4 HQ3.out.lt
        have hBd4 := HBd3.out.new b4
        have hF4 := HF3.out.trans (Fx.new b4)
        have HR4 := Lib.hid hR4
        have HD4 := Lib.hid hD4
        have HQ4 := Lib.hid hQ4
        have HBd4 := Lib.hid hBd4
        have HF4 := Lib.hid hF4
        have d0 : w4.cell? ⟨w.heap.size, 0, none⟩ = some (.string (bs n)) := hD4.cell 0
        clear hR4 hD4 hQ4 hBd4 hF4 b4 HR3 HD3 HQ3 HBd3 HF3
        have teq := bs_eq y n
        by_cases hyn : y = n
        · have t1 : ((bs y).toList == (bs n).toList) = true := by rw [teq]; simpa using hyn
          have HRES : Hid (RES = some (acc, m + 1)) := by
            show _ = _
            rw [← HB.out, body_hit hmn (by rw [hxe.out, hy.out]; exact hyn)]
          clear hyn teq HB
          go_wp2_with fail
          refine (string_any (w.heap.size + 2) (w.heap.size + 2) acc _ HBd4.out (by omega)).mono ?_
          rintro r w5 ⟨rfl, hBd5, b5⟩
          have hR5 := HR4.out.below b5 (by omega) (by omega)
          have hD5 := HD4.out.below b5 (by omega)
          have hQ5 := HQ4.out.below b5 (by omega)
          have hF5 := HF4.out.then (Fx.of_below b5) (fun b hb e => by omega)
          have k0 : w5.cell? ⟨w.heap.size, 0, none⟩ = some (.string (bs n)) := hD5.cell 0
          have k1 : w5.cell? ⟨w.heap.size, 1, none⟩ = some (.bool q) := hD5.cell 1
          have k2 : w5.cell? ⟨w.heap.size, 2, none⟩ = some (.int .i64 ((i : Int) + 1)) := hD5.cell 2
          have k3 : w5.cell? ⟨w.heap.size, 3, none⟩ = some (.string ⟨#[]⟩) := hD5.cell 3
          have f3 := hD5.frozen 3
          have hg6 := Fx.set w5 w.heap.size 3 (.string (bs acc))
          have hR6 := hR5.fx hg6 (by omega) (by omega)
          have hQ6 := hg6.blk hQ5 (by omega)
          have hF6 := hF5.then hg6 (fun b hb e => by omega)
          have HR6 := Lib.hid hR6
          have HQ6 := Lib.hid hQ6
          have HF6 := Lib.hid hF6
          clear hR5 hD5 hQ5 hF5 hBd5 b5 hg6 hR6 hQ6 hF6 HR4 HD4 HQ4 HBd4 HF4 d0
          go_wp2_with (refine wpList_store_st rfl _ _ _ rfl docT (w.heap.size + 1) #[.string (bs n), .bool q, .int .i64 ((i : Int) + 1), .string (bs acc)] _ rfl rfl HQ6.out rfl rfl rfl ?_; intro w7 hB7 hg7 hz7)
          refine bodyPost_ret (v := .tuple #[.agg #[.string (bs n), .bool q, .int .i64 ((i : Int) + 1), .string (bs acc)], .bool true]) (results_c1 rfl docT rfl rfl hB7 rfl) rfl ?_
          refine ⟨?_, HF6.out.then (Fx.row1 hg7) (fun b hb e => by omega)⟩
          rw [HRES.out]
          exact ⟨rfl, by omega, HR6.out.fx (Fx.row1 hg7) (by omega) (by omega)⟩
        · have t1 : ((bs y).toList == (bs n).toList) = false := by rw [teq]; simpa using hyn
          have HB2 : Hid (Lx.bodyL n tb (L.drop (m + 1)) (acc ++ (y ++ [10])) (m + 1) = RES) := by
            show _ = _
            rw [← HB.out, body_go hmn (by rw [hxe.out, hy.out]; exact hyn), hxe.out, hy.out, List.append_assoc]
          have hal : (acc ++ (y ++ [10])).length ≤ (m + 1) * 70001 := mul71 hacc (by rw [List.length_append, List.length_append, List.length_singleton]; omega)
          have hal2 : acc.length + (y ++ [10]).length ≤ 140737488355328 := by
            rw [List.length_append, List.length_singleton]
            have h5 : m * 70001 ≤ 5000 * 70001 := Nat.mul_le_mul_right _ (by omega)
            omega
          have hwr := write_any (w.heap.size + 2) (w.heap.size + 2) acc (y ++ [10]) w4 HBd4.out hal2 (by omega)
          rw [← bs_append] at hwr
          have HWR := Lib.hid hwr
          have HZY := Lib.hid (bs_size y)
          have hzy : (bs y).size ≤ 70000 := by rw [HZY.out]; exact hyl
          clear hyn teq HB hwr hal2
          go_wp2_with fail
          refine (HWR.out).mono ?_
          rintro r w5 ⟨rfl, hBd5, b5⟩
          have hsz5 := b5.size
          have hR5 := HR4.out.below b5 (by omega) (by omega)
          have hD5 := HD4.out.below b5 (by omega)
          have hQ5 := HQ4.out.below b5 (by omega)
          have hF5 := HF4.out.then (Fx.of_below b5) (fun b hb e => by omega)
          have HC2 : Hid (w5.cell? ⟨R, 1, none⟩ = some (.int .i64 ((m + 1 : Nat) : Int))) := hR5.box.cell 1
          have HR5 := Lib.hid hR5
          have HD5 := Lib.hid hD5
          have HQ5 := Lib.hid hQ5
          have HBd5 := Lib.hid hBd5
          have HF5 := Lib.hid hF5
          clear hR5 hD5 hQ5 hF5 hBd5 b5 HR4 HD4 HQ4 HBd4 HF4 d0
          go_wp2_with fail
          go_roundw
          case rel => exact ⟨m + 1, _, by omega, hal, HB2, HR5, HD5, HQ5, HBd5, HF5, by omega⟩
          case measure => rw [HC1.out, HC2.out]; simp [intOf]; omega
    · obtain rfl : m = L.length := by omega
      have HRES : Hid (RES = none) := by show _ = _; rw [← HB.out, body_end hmn]
      clear HB
      go_wp2_with fail
      refine (next_end HR.out rfl).mono ?_
      rintro r w3 ⟨rfl, b3⟩
      have hQ3 := HQ.out.below b3 HQ.out.lt
      have hF3 := HF.out.trans (Fx.new b3)
      have HQ3 := Lib.hid hQ3
      have HF3 := Lib.hid hF3
      clear hQ3 hF3 b3
      go_wp2_with (refine wpList_store_st rfl _ _ _ rfl docT (w.heap.size + 1) _ _ rfl rfl HQ3.out rfl rfl rfl ?_; intro w7 hB7 hg7 hz7)
      refine bodyPost_ret (v := .tuple #[.agg #[.string ⟨#[]⟩, .bool false, .int .i64 0, .string ⟨#[]⟩], .bool false]) (results_c1 rfl docT rfl rfl hB7 rfl) rfl ?_
      refine ⟨?_, HF3.out.then (Fx.row1 hg7) (fun b hb e => by omega)⟩
      rw [HRES.out]
      rfl
end Go.Proofs.YtpgnfianffjpnaaGreatDoor
