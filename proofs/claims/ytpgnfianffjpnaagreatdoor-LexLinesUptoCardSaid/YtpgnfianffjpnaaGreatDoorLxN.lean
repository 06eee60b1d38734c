/- lex's line, walked: the next line of the build file. -/
import Derived.Test.YtpgnfianffjpnaaGreatDoorLxM
namespace Go.Proofs.YtpgnfianffjpnaaGreatDoor
open Go Go.RowKit

theorem Fx.row1 {w w' : World} {r : Nat} (h : w.grownBy w' (some r)) : Fx (· = r) w w' := (Fx.of_grown h).mono fun _ _ e => (Option.some.inj e).symm
theorem Fx.set (w : World) (b o : Nat) (v : Value) : Fx (· = b) w (w.setCell ⟨b, o, none⟩ v) := Fx.row1 (setCell_grown w ⟨b, o, none⟩ v)
theorem rgt_le (y : List UInt8) : (Lx.rgt y).length ≤ y.length := Lx.trimR_le y Gl.bls
theorem tailL_le (e : UInt8) (y : List UInt8) : (tailL e y).length ≤ y.length := by
  unfold tailL
  split
  · rw [List.length_dropLast]
    have := rgt_le y
    omega
  · exact Nat.le_refl _
theorem more_len (e : UInt8) (a : Lx.Acc) (x : List UInt8) (n ahead : Nat) : (Lx.moreL e a x n ahead).1.length ≤ a.1.length + x.length ∧ (Lx.moreL e a x n ahead).2.length ≤ a.2.length + 1 := by
  rw [more_tail, Lx.addL]
  have h := tailL_le e (x.drop ahead)
  rw [List.length_drop] at h
  split
  · exact ⟨by omega, by omega⟩
  · exact ⟨by rw [List.length_append]; omega, by rw [List.length_append, List.length_singleton]; exact Nat.le_refl _⟩
/-- what the reader says of a line, from line i on. -/
def LineAns (w w' : World) (R g c : Nat) (L : List (List UInt8)) (i : Nat) (e : UInt8) (r : Ending) : Prop :=
  ∃ j, i ≤ j ∧ j ≤ L.length ∧ (∀ k (h : k < L.length), i ≤ k → k < j → Lx.nothingL L[k] = true) ∧
    ((j = L.length ∧ r = .returned (.tuple #[.agg #[.int .i64 0, .string ⟨#[]⟩, .slice none 0 0, .slice none 0 0], .bool false]) ∧ Rd w' R g c L j e) ∨
     (∃ h : j < L.length, Lx.nothingL L[j] = false ∧ ∃ vm a m, Lx.joinL e L[j] (L.drop (j + 1)) j = (a, m) ∧ m ≤ L.length ∧ r = .returned (.tuple #[.agg #[.int .i64 ((j : Int) + 1), .string (bs a.1), vm, .slice none 0 0], .bool true]) ∧
       w'.ownsRow w.heap.size 136 3 vm a.2.length (mkC a.2) ∧ Rd w' R g c L m e ∧ a.1.length ≤ m * 70000 ∧ a.2.length ≤ m))
/-- the lines that are to be joined. -/
def Joins (e : UInt8) (L : List (List UInt8)) (i : Nat) (a : Lx.Acc) (on : Bool) (RES : Lx.Acc × Nat) : Prop := (if on then Lx.goJ e (L.drop i) i a else (a, i)) = RES
section
variable {e : UInt8} {L : List (List UInt8)} {i : Nat} {a : Lx.Acc} {RES : Lx.Acc × Nat}
theorem Joins.end_ (h : Joins e L i a true RES) (hi : L.length ≤ i) : RES = (a, i) := by
  rw [← h, if_pos rfl, List.drop_eq_nil_of_le hi, Lx.goJ]
theorem Joins.off (h : Joins e L i a false RES) : RES = (a, i) := by rw [← h]; rfl
theorem Joins.skip (h : Joins e L i a true RES) (hi : i < L.length) (hn : Lx.nothingL L[i] = true) : Joins e L (i + 1) a true RES := by
  unfold Joins at h ⊢
  rw [if_pos rfl, List.drop_eq_getElem_cons hi, Lx.goJ, if_pos hn] at h
  rw [if_pos rfl]; exact h
theorem Joins.more (h : Joins e L i a true RES) (hi : i < L.length) (hn : Lx.nothingL L[i] = false) : Joins e L (i + 1) (Lx.moreL e a L[i] (i + 1) 0) (Lx.onL e L[i]) RES := by
  unfold Joins at h ⊢
  rw [if_pos rfl, List.drop_eq_getElem_cons hi, Lx.goJ, if_neg (by rw [hn]; simp)] at h
  exact h
theorem Joins.start (hi : i < L.length) : Joins e L (i + 1) (Lx.moreL e ([], []) L[i] (i + 1) (Lx.headN L[i])) (Lx.onL e (L[i].drop (Lx.headN L[i]))) (Lx.joinL e L[i] (L.drop (i + 1)) i) := by
  unfold Joins
  rw [Lx.joinL]
end
theorem own_base {w : World} {b b' k n : Nat} {e : TypeId} {v : Value} {xs : List Value} (h : w.ownsRow b e k v n xs) (hb : b' ≤ b) : w.ownsRow b' e k v n xs := by
  refine ⟨h.1, ?_⟩
  rcases h.2 with h1 | ⟨g, cap, cur, h1, h2, h3⟩
  · exact .inl h1
  · exact .inr ⟨g, cap, cur, h1, by omega, h3⟩
theorem mul70 {a b m : Nat} (h : a ≤ m * 70000) (hb : b ≤ a + 70000) : b ≤ (m + 1) * 70000 := by rw [Nat.add_mul, Nat.one_mul]; omega
theorem LineAns.mk {w wr w7 : World} {R g c : Nat} {L : List (List UInt8)} {i j m : Nat} {e : UInt8} {a : Lx.Acc} {vm : Value} (hij : i ≤ j) (hjn : j < L.length) (hRl : R < w.heap.size) (hgl : g < w.heap.size)
    (HN : ∀ k (h : k < L.length), i ≤ k → k < j → Lx.nothingL L[k] = true) (hn : Lx.nothingL L[j] = false) (hJ : Lx.joinL e L[j] (L.drop (j + 1)) j = (a, m)) (hm : m ≤ L.length)
    (hR : Rd wr R g c L m e) (hL : Lb wr (w.heap.size + 1) (w.heap.size + 1) ((j : Int) + 1) a vm) (hF : Fx (· = R) w wr) (hg7 : wr.grownBy w7 (some w.heap.size)) (h1 : a.1.length ≤ m * 70000) (h2 : a.2.length ≤ m) :
    LineAns w w7 R g c L i e (.returned (.tuple #[.agg #[.int .i64 ((j : Int) + 1), .string (bs a.1), vm, .slice none 0 0], .bool true])) ∧ Fx (· = R) w w7 := by
  refine ⟨⟨j, hij, Nat.le_of_lt hjn, HN, .inr ⟨hjn, hn, vm, a, m, hJ, hm, rfl, ?_, ?_, h1, h2⟩⟩, hF.then (Fx.row1 hg7) (fun b hb e => by omega)⟩
  · exact own_base (hL.own.kept hg7 (by
      rcases hb : vm.ownBlock with _ | b
      · exact .inl rfl
      · right
        have := (hL.own.lt b hb).1
        intro e
        injection e with e
        omega)) (by omega)
  · exact hR.fx (Fx.row1 hg7) (by omega) (by omega)
theorem Rd.fx1 {w w' : World} {R g c : Nat} {L : List (List UInt8)} {i : Nat} {e : UInt8} {base : Nat} (h : Rd w R g c L i e) (k : Below base w w') (h1 : R < base) (h2 : g < base) : Rd w' R g c L i e := h.below k h1 h2
set_option maxRecDepth 100000 in
set_option maxHeartbeats 8000000 in
theorem line_any {w : World} {R g c : Nat} {L : List (List UInt8)} {i : Nat} {e : UInt8} (hr : Rd w R g c L i e) (hi : i ≤ L.length) (hL : L.length ≤ 5000) (hx : Hid (∀ x ∈ L, x.length ≤ 70000)) :
    Calls Tryz.prog 40 #[.pointer (some ⟨R, 0, none⟩)] w fun r w' => LineAns w w' R g c L i e r ∧ Fx (· = R) w w' := by
  have hRl := hr.box.lt
  have hgl := hr.lt
  have hB0 := ((Below.refl w.heap.size w).alloc (Nat.le_refl _) (.cells #[.int .i64 0, .string ⟨#[]⟩, .slice none 0 0, .slice none 0 0] 64)).alloc (by simp) (.cells #[.int .i64 0, .string ⟨#[]⟩, .slice none 0 0, .slice none 0 0] 64)
  have hQ0 : Blk ((w.alloc (.cells #[.int .i64 0, .string ⟨#[]⟩, .slice none 0 0, .slice none 0 0] 64)).alloc (.cells #[.int .i64 0, .string ⟨#[]⟩, .slice none 0 0, .slice none 0 0] 64)) w.heap.size 64 #[.int .i64 0, .string ⟨#[]⟩, .slice none 0 0, .slice none 0 0] := (Blk.new w _ _).alloc _
  have hK0 := Blk.new (w.alloc (.cells #[.int .i64 0, .string ⟨#[]⟩, .slice none 0 0, .slice none 0 0] 64)) 64 #[.int .i64 0, .string ⟨#[]⟩, .slice none 0 0, .slice none 0 0]
  rw [World.size_alloc] at hK0
  have hR0 := hr.new hB0
  obtain ⟨w0, hw0⟩ : ∃ w0, (w.alloc (.cells #[.int .i64 0, .string ⟨#[]⟩, .slice none 0 0, .slice none 0 0] 64)).alloc (.cells #[.int .i64 0, .string ⟨#[]⟩, .slice none 0 0, .slice none 0 0] 64) = w0 := ⟨_, rfl⟩
  rw [hw0] at hB0 hQ0 hK0 hR0
  have hbs0 : w.heap.size + 1 < w0.heap.size := by rw [← hw0]; simp
  have hL0 : Lb w0 (w.heap.size + 1) (w.heap.size + 1) 0 ([], []) (.slice none 0 0) := ⟨hK0, World.ownsRow_nil _ _ _ _, by omega⟩
  have hF0 : Fx (· = R) w w0 := Fx.new hB0
  have HW0 := Lib.hid hw0
  have HQ0 := Lib.hid hQ0
  have HR0 := Lib.hid hR0
  have HL0 := Lib.hid hL0
  have HF0 := Lib.hid hF0
  clear hr hB0 hQ0 hK0 hR0 hw0 hL0 hF0
  go_enter Tryz.func40, Tryz.ntmps40
  go_wp2_with fail
  rw [HW0.out]
  clear HW0
  go_loopw [5, 6, 7] (fun _ _ _ wr => ∃ j : Nat, i ≤ j ∧ j ≤ L.length ∧ Hid (Rd wr R g c L j e) ∧ Hid (Blk wr w.heap.size 64 #[.int .i64 0, .string ⟨#[]⟩, .slice none 0 0, .slice none 0 0]) ∧ Hid (Lb wr (w.heap.size + 1) (w.heap.size + 1) 0 ([], []) (.slice none 0 0)) ∧ Hid (Fx (· = R) w wr) ∧ w.heap.size + 1 < wr.heap.size ∧ Hid (∀ k (h : k < L.length), i ≤ k → k < j → Lx.nothingL L[k] = true)) (fun _ _ _ wr => L.length - (match wr.cell? ⟨R, 1, none⟩ with | some v => (intOf v).toNat | none => 0))
  case atStart => exact ⟨i, by omega, hi, HR0, HQ0, HL0, HF0, hbs0, Lib.hid (fun k h h1 h2 => by omega)⟩
  case round =>
    clear HR0 HQ0 HL0 HF0 hbs0
    obtain ⟨j, hij, hj, HR, HQ, HL, HF, hbs, HN⟩ := hrel
    rcases Nat.lt_or_ge j L.length with hjn | hjn
    · obtain ⟨x, hxe⟩ : ∃ x, Hid (L[j] = x) := ⟨_, Lib.hid rfl⟩
      have hxl : x.length ≤ 70000 := by rw [← hxe.out]; exact hx.out _ (List.getElem_mem hjn)
      go_wp2_with fail
      refine (next_line HR.out hjn (by omega) hxe).mono ?_
      rintro r w1 ⟨rfl, hR1, hG1⟩
      have hsz1 := hG1.size
      have hL1 := HL.out.row hG1 (by omega)
      have hQ1 := (Fx.row1 hG1).blk HQ.out (by omega)
      have hF1 := HF.out.trans (Fx.row1 hG1)
      have HR1 := Lib.hid hR1
      have HL1 := Lib.hid hL1
      have HQ1 := Lib.hid hQ1
      have HF1 := Lib.hid hF1
      clear hR1 hL1 hQ1 hF1 hG1
      obtain ⟨nb, hnb⟩ : ∃ b, Hid (Lx.nothingL x = b) := ⟨_, Lib.hid rfl⟩
      cases nb with
      | true =>
        have HN2 : Hid (∀ k (h : k < L.length), i ≤ k → k < j + 1 → Lx.nothingL L[k] = true) := Lib.hid fun k h h1 h2 => by
          rcases Nat.lt_or_ge k j with h3 | h3
          · exact HN.out k h h1 h3
          · obtain rfl : k = j := by omega
            rw [hxe.out]; exact hnb.out
        clear HN
        go_wp2_with fail
        refine (nothing_any x _ hnb).mono ?_
        rintro r w2 ⟨rfl, b2⟩
        have hsz2 := b2.size
        have hR2 := HR1.out.new b2
        have hL2 := HL1.out.new b2
        have hQ2 := HQ1.out.below b2 HQ1.out.lt
        have hF2 := HF1.out.trans (Fx.new b2)
        have HR2 := Lib.hid hR2
        have HL2 := Lib.hid hL2
        have HQ2 := Lib.hid hQ2
        have HF2 := Lib.hid hF2
        have hc1 : wr.cell? ⟨R, 1, none⟩ = some (.int .i64 (j : Int)) := HR.out.box.cell 1
        have hc2 : w2.cell? ⟨R, 1, none⟩ = some (.int .i64 ((j + 1 : Nat) : Int)) := hR2.box.cell 1
        have HC1 := Lib.hid hc1
        have HC2 := Lib.hid hc2
        clear hR2 hL2 hQ2 hF2 hc1 hc2 b2
        go_wp2_with fail
        go_roundw
        case rel => exact ⟨j + 1, by omega, by omega, HR2, HQ2, HL2, HF2, by omega, HN2⟩
        case measure => rw [HC1.out, HC2.out]; simp [intOf]; omega
      | false =>
        go_wp2_with fail
        refine (nothing_any x _ hnb).mono ?_
        rintro r w2 ⟨rfl, b2⟩
        have hsz2 := b2.size
        have hR2 := HR1.out.new b2
        have hL2 := HL1.out.new b2
        have hQ2 := HQ1.out.below b2 HQ1.out.lt
        have hF2 := HF1.out.trans (Fx.new b2)
        have HR2 := Lib.hid hR2
        have HL2 := Lib.hid hL2
        have HQ2 := Lib.hid hQ2
        have HF2 := Lib.hid hF2
        clear hR2 hL2 hQ2 hF2 b2 HR1 HL1 HQ1 HF1 HR HQ HL HF
        go_wp2_with fail
        refine (number_any HR2.out).mono ?_
        rintro r w9 ⟨rfl, rfl⟩
        have k0 : w2.cell? ⟨w.heap.size + 1, 0, none⟩ = some (.int .i64 0) := HL2.out.box.cell 0
        have m0 := HL2.out.box.frozen 0
        have hL3 : Lb (w2.setCell ⟨w.heap.size + 1, 0, none⟩ (.int .i64 ((j : Int) + 1))) (w.heap.size + 1) (w.heap.size + 1) ((j : Int) + 1) ([], []) (.slice none 0 0) := by
          refine ⟨?_, World.ownsRow_nil _ _ _ _, by omega⟩
          have := HL2.out.box.set_ 0 (.int .i64 ((j : Int) + 1))
          simpa using this
        have hg3 := Fx.set w2 (w.heap.size + 1) 0 (.int .i64 ((j : Int) + 1))
        have hR3 := HR2.out.fx hg3 (by omega) (by omega)
        have hQ3 := hg3.blk HQ2.out (by omega)
        have hF3 := HF2.out.then hg3 (fun b hb e => by omega)
        have hz3 := setCell_size w2 ⟨w.heap.size + 1, 0, none⟩ (.int .i64 ((j : Int) + 1))
        obtain ⟨w3, hw3⟩ : ∃ w3, w2.setCell ⟨w.heap.size + 1, 0, none⟩ (.int .i64 ((j : Int) + 1)) = w3 := ⟨_, rfl⟩
        rw [hw3] at hL3 hR3 hQ3 hF3 hz3
        have hbs3 : w.heap.size + 1 < w3.heap.size := by omega
        have HW3 := Lib.hid hw3
        have HL3 := Lib.hid hL3
        have HR3 := Lib.hid hR3
        have HQ3 := Lib.hid hQ3
        have HF3 := Lib.hid hF3
        obtain ⟨t, ht⟩ : ∃ t, Hid (Gl.lft x = t) := ⟨_, Lib.hid rfl⟩
        have htl : t.length ≤ x.length := by rw [← ht.out]; exact Lx.lft_le x
        have HZX := Lib.hid (bs_size x)
        have HZT := Lib.hid (bs_size t)
        have hzx : (bs x).size ≤ 70000 := by rw [HZX.out]; exact hxl
        have hzt : (bs t).size ≤ (bs x).size := by rw [HZX.out, HZT.out]; exact htl
        have hsub : ((bs x).size : Int) - ((bs t).size : Int) = ((Lx.headN x : Nat) : Int) := by rw [Lx.headN, ht.out, HZX.out, HZT.out]; omega
        have HSUB := Lib.hid hsub
        clear hL3 hR3 hQ3 hF3 hz3 hw3 hg3 hsub
        go_upto_region 7 with fail
        rw [HW3.out]
        clear k0 m0 HW3 HR2 HL2 HQ2 HF2
        go_wp2_with fail
        refine (trimLeft_any x _ ht).mono ?_
        rintro r w4 ⟨rfl, b4⟩
        have hsz4 := b4.size
        have hR4 := HR3.out.new b4
        have hL4 := HL3.out.new b4
        have hQ4 := HQ3.out.below b4 HQ3.out.lt
        have hF4 := HF3.out.trans (Fx.new b4)
        have HR4 := Lib.hid hR4
        have HL4 := Lib.hid hL4
        have HQ4 := Lib.hid hQ4
        have HF4 := Lib.hid hF4
        clear hR4 hL4 hQ4 hF4 b4 HR3 HL3 HQ3 HF3
        have hJ0 := Joins.start (e := e) hjn
        rw [hxe.out] at hJ0
        obtain ⟨RES, hRES⟩ : ∃ RES, Lx.joinL e x (L.drop (j + 1)) j = RES := ⟨_, rfl⟩
        rw [hRES] at hJ0
        have HRES := Lib.hid hRES
        have hml := more_len e ([], []) x (j + 1) (Lx.headN x)
        simp only [List.length_nil, Nat.zero_add] at hml
        have hhl := Lx.headN_le x
        have HSUB2 : IntKind.i64.wrap (((bs x).size : Int) - ((bs t).size : Int)) = ((Lx.headN x : Nat) : Int) := by rw [HSUB.out, IntWalk.i64_in _ (by omega)]
        have hsb : ((bs x).size : Int) - ((bs t).size : Int) = ((Lx.headN x : Nat) : Int) := HSUB.out
        obtain ⟨hn, hhn⟩ : ∃ hn, Lx.headN x = hn := ⟨_, rfl⟩
        rw [hhn] at hJ0 hml hhl HSUB2 hsb
        have hmore := more_any (vm := .slice none 0 0) x hn HR4.out HL4.out (by omega) (by omega) (by omega) (by simp) (by simp)
        obtain ⟨on, hon⟩ : ∃ on, Hid (Lx.onL e (x.drop hn) = on) := ⟨_, Lib.hid rfl⟩
        obtain ⟨a0, ha0⟩ : ∃ a0, Hid (Lx.moreL e ([], []) x (j + 1) hn = a0) := ⟨_, Lib.hid rfl⟩
        rw [hon.out, ha0.out] at hJ0 hmore
        have HMORE := Lib.hid hmore
        rw [ha0.out] at hml
        have HJ0 := Lib.hid hJ0
        have HHN := Lib.hid hhn
        clear hJ0 hRES hhn hmore HSUB
        go_wp2_with fail
        refine (HMORE.out).mono ?_
        rintro r w5 ⟨rfl, ⟨vm5, hL5⟩, hB5⟩
        have hsz5 := hB5.size
        have hR5 := HR4.out.below hB5 (by omega) (by omega)
        have hQ5 := HQ4.out.below hB5 (by omega)
        have hF5 := HF4.out.then (Fx.of_below hB5) (fun b hb e => by omega)
        have HR5 := Lib.hid hR5
        have HL5 := Lib.hid hL5
        have HQ5 := Lib.hid hQ5
        have HF5 := Lib.hid hF5
        have hA5 : a0.1.length ≤ (j + 1) * 70000 ∧ a0.2.length ≤ j + 1 := by omega
        clear hR5 hL5 hQ5 hF5 hB5 HR4 HL4 HQ4 HF4 HMORE hml hsb HSUB2
        go_wp2_with fail
        go_loopw [5, 6, 7] (fun _ _ t7 wr => ∃ (m : Nat) (a : Lx.Acc) (on : Bool) (vm : Value), t7 = .bool on ∧ j + 1 ≤ m ∧ m ≤ L.length ∧ Hid (Rd wr R g c L m e) ∧ Hid (Blk wr w.heap.size 64 #[.int .i64 0, .string ⟨#[]⟩, .slice none 0 0, .slice none 0 0]) ∧ Hid (Lb wr (w.heap.size + 1) (w.heap.size + 1) ((j : Int) + 1) a vm) ∧ Hid (Fx (· = R) w wr) ∧ w.heap.size + 1 < wr.heap.size ∧ Hid (Joins e L m a on RES) ∧ a.1.length ≤ m * 70000 ∧ a.2.length ≤ m) (fun _ _ _ wr => L.length - (match wr.cell? ⟨R, 1, none⟩ with | some v => (intOf v).toNat | none => 0))
        case atStart => exact ⟨j + 1, a0, on, vm5, rfl, Nat.le_refl _, by omega, HR5, HQ5, HL5, HF5, by omega, HJ0, hA5.1, hA5.2⟩
        case round =>
          clear HR5 HQ5 HL5 HF5 HJ0 hA5 hon ha0
          obtain ⟨m, a, o, vm, rfl, hjm, hmL, HR, HQ, HL, HF, hbs6, HJ, hA1, hA2⟩ := hrel
          have d0 : wr.cell? ⟨w.heap.size + 1, 0, none⟩ = some (.int .i64 ((j : Int) + 1)) := HL.out.box.cell 0
          have d1 : wr.cell? ⟨w.heap.size + 1, 1, none⟩ = some (.string (bs a.1)) := HL.out.box.cell 1
          have d2 : wr.cell? ⟨w.heap.size + 1, 2, none⟩ = some vm := HL.out.box.cell 2
          have d3 : wr.cell? ⟨w.heap.size + 1, 3, none⟩ = some (.slice none 0 0) := HL.out.box.cell 3
          obtain ⟨AA, ca, hvm⟩ := ownk_form HL.out.own
          have HVM := Lib.hid hvm
          clear hvm
          cases o with
          | false =>
            have hRS : RES = (a, m) := HJ.out.off
            have HFIN : Hid (∀ w7, wr.grownBy w7 (some w.heap.size) → LineAns w w7 R g c L i e (.returned (.tuple #[.agg #[.int .i64 ((j : Int) + 1), .string (bs a.1), vm, .slice none 0 0], .bool true])) ∧ Fx (· = R) w w7) := Lib.hid fun w7 hg7 =>
              LineAns.mk hij hjn hRl hgl HN.out (by rw [hxe.out]; exact hnb.out) (by rw [hxe.out, HRES.out, hRS]) hmL HR.out HL.out HF.out hg7 hA1 hA2
            clear hRS HJ
            go_wp2_with (refine wpList_store_st rfl _ _ _ rfl lineT w.heap.size #[.int .i64 ((j : Int) + 1), .string (bs a.1), vm, .slice none 0 0] _ rfl rfl HQ.out rfl rfl (by rw [HVM.out]; rfl) ?_; intro w7 hB7 hg7 hz7)
            refine bodyPost_ret (v := .tuple #[.agg #[.int .i64 ((j : Int) + 1), .string (bs a.1), vm, .slice none 0 0], .bool true]) (results_c1 rfl lineT rfl rfl hB7 rfl) rfl ?_
            exact HFIN.out w7 hg7
          | true =>
            rcases Nat.lt_or_ge m L.length with hmn | hmn
            · obtain ⟨y, hye⟩ : ∃ y, Hid (L[m] = y) := ⟨_, Lib.hid rfl⟩
              have hyl : y.length ≤ 70000 := by rw [← hye.out]; exact hx.out _ (List.getElem_mem hmn)
              have HC1 : Hid (wr.cell? ⟨R, 1, none⟩ = some (.int .i64 (m : Int))) := HR.out.box.cell 1
              clear d0 d1 d2 d3
              go_wp2_with fail
              refine (next_line HR.out hmn (by omega) hye).mono ?_
              rintro r w6 ⟨rfl, hR6, hG6⟩
              have hsz6 := hG6.size
              have hL6 := HL.out.row hG6 (by omega)
              have hQ6 := (Fx.row1 hG6).blk HQ.out (by omega)
              have hF6 := HF.out.trans (Fx.row1 hG6)
              have HR6 := Lib.hid hR6
              have HL6 := Lib.hid hL6
              have HQ6 := Lib.hid hQ6
              have HF6 := Lib.hid hF6
              clear hR6 hL6 hQ6 hF6 hG6 HR HL HQ HF
              obtain ⟨yb, hyb⟩ : ∃ b, Hid (Lx.nothingL y = b) := ⟨_, Lib.hid rfl⟩
              have HC2 : ∀ w7, Rd w7 R g c L (m + 1) e → w7.cell? ⟨R, 1, none⟩ = some (.int .i64 ((m + 1 : Nat) : Int)) := fun w7 h => h.box.cell 1
              have HCC := Lib.hid HC2
              clear HC2
              cases yb with
              | true =>
                have hJ2 := HJ.out.skip hmn (by rw [hye.out]; exact hyb.out)
                have HJ2 := Lib.hid hJ2
                clear hJ2 HJ
                go_wp2_with fail
                refine (nothing_any y _ hyb).mono ?_
                rintro r w7 ⟨rfl, b7⟩
                have hsz7 := b7.size
                have hR7 := HR6.out.new b7
                have hL7 := HL6.out.new b7
                have hQ7 := HQ6.out.below b7 HQ6.out.lt
                have hF7 := HF6.out.trans (Fx.new b7)
                have HD2 := Lib.hid (HCC.out _ hR7)
                have HR7 := Lib.hid hR7
                have HL7 := Lib.hid hL7
                have HQ7 := Lib.hid hQ7
                have HF7 := Lib.hid hF7
                clear hR7 hL7 hQ7 hF7 b7
                go_wp2_with fail
                go_roundw
                case rel => exact ⟨m + 1, a, true, vm, rfl, by omega, by omega, HR7, HQ7, HL7, HF7, by omega, HJ2, mul70 hA1 (by omega), by omega⟩
                case measure => rw [HC1.out, HD2.out]; simp [intOf]; omega
              | false =>
                have hJ2 := HJ.out.more hmn (by rw [hye.out]; exact hyb.out)
                rw [hye.out] at hJ2
                have hml := more_len e a y (m + 1) 0
                obtain ⟨o2, ho2⟩ : ∃ on, Hid (Lx.onL e (y.drop 0) = on) := ⟨_, Lib.hid rfl⟩
                obtain ⟨a2, ha2⟩ : ∃ a0, Hid (Lx.moreL e a y (m + 1) 0 = a0) := ⟨_, Lib.hid rfl⟩
                have ho3 : Lx.onL e y = o2 := by have := ho2.out; rwa [List.drop_zero] at this
                rw [ho3, ha2.out] at hJ2
                rw [ha2.out] at hml
                have HJ2 := Lib.hid hJ2
                clear hJ2 HJ ho3
                go_wp2_with fail
                refine (nothing_any y _ hyb).mono ?_
                rintro r w7 ⟨rfl, b7⟩
                have hsz7 := b7.size
                have hR7 := HR6.out.new b7
                have hL7 := HL6.out.new b7
                have hQ7 := HQ6.out.below b7 HQ6.out.lt
                have hF7 := HF6.out.trans (Fx.new b7)
                have hmore := more_any y 0 hR7 hL7 (by omega) (by omega) (by omega) (by omega) (by omega)
                rw [ho2.out, ha2.out] at hmore
                have HMORE := Lib.hid hmore
                have HR7 := Lib.hid hR7
                have HQ7 := Lib.hid hQ7
                have HF7 := Lib.hid hF7
                clear hR7 hL7 hQ7 hF7 b7 hmore
                go_wp2_with fail
                refine (HMORE.out).mono ?_
                rintro r w8 ⟨rfl, ⟨vm8, hL8⟩, hB8⟩
                have hsz8 := hB8.size
                have hR8 := HR7.out.below hB8 (by omega) (by omega)
                have hQ8 := HQ7.out.below hB8 (by omega)
                have hF8 := HF7.out.then (Fx.of_below hB8) (fun b hb e => by omega)
                have HD2 := Lib.hid (HCC.out _ hR8)
                have HR8 := Lib.hid hR8
                have HL8 := Lib.hid hL8
                have HQ8 := Lib.hid hQ8
                have HF8 := Lib.hid hF8
                clear hR8 hL8 hQ8 hF8 hB8
                go_wp2_with fail
                go_roundw
                case rel => exact ⟨m + 1, a2, o2, vm8, rfl, by omega, by omega, HR8, HQ8, HL8, HF8, by omega, HJ2, mul70 hA1 (by omega), by omega⟩
                case measure => rw [HC1.out, HD2.out]; simp [intOf]; omega
            · have hRS : RES = (a, m) := HJ.out.end_ hmn
              obtain rfl : m = L.length := by omega
              have HFIN : Hid (∀ w6 w7, Below wr.heap.size wr w6 → w6.grownBy w7 (some w.heap.size) → LineAns w w7 R g c L i e (.returned (.tuple #[.agg #[.int .i64 ((j : Int) + 1), .string (bs a.1), vm, .slice none 0 0], .bool true])) ∧ Fx (· = R) w w7) := Lib.hid fun w6 w7 b6 hg7 =>
                LineAns.mk hij hjn hRl hgl HN.out (by rw [hxe.out]; exact hnb.out) (by rw [hxe.out, HRES.out, hRS]) hmL (HR.out.new b6) (HL.out.new b6) (HF.out.trans (Fx.new b6)) hg7 hA1 hA2
              clear hRS HJ d0 d1 d2 d3
              go_wp2_with fail
              refine (next_end HR.out rfl).mono ?_
              rintro r w6 ⟨rfl, b6⟩
              have hL6 := HL.out.new b6
              have hQ6 := HQ.out.below b6 HQ.out.lt
              have HQ6 := Lib.hid hQ6
              have HB6 := Lib.hid b6
              have d0 : w6.cell? ⟨w.heap.size + 1, 0, none⟩ = some (.int .i64 ((j : Int) + 1)) := hL6.box.cell 0
              have d1 : w6.cell? ⟨w.heap.size + 1, 1, none⟩ = some (.string (bs a.1)) := hL6.box.cell 1
              have d2 : w6.cell? ⟨w.heap.size + 1, 2, none⟩ = some vm := hL6.box.cell 2
              have d3 : w6.cell? ⟨w.heap.size + 1, 3, none⟩ = some (.slice none 0 0) := hL6.box.cell 3
              clear hL6 hQ6 b6
              go_wp2_with (refine wpList_store_st rfl _ _ _ rfl lineT w.heap.size #[.int .i64 ((j : Int) + 1), .string (bs a.1), vm, .slice none 0 0] _ rfl rfl HQ6.out rfl rfl (by rw [HVM.out]; rfl) ?_; intro w7 hB7 hg7 hz7)
              refine bodyPost_ret (v := .tuple #[.agg #[.int .i64 ((j : Int) + 1), .string (bs a.1), vm, .slice none 0 0], .bool true]) (results_c1 rfl lineT rfl rfl hB7 rfl) rfl ?_
              exact HFIN.out w6 w7 HB6.out hg7
    · obtain rfl : j = L.length := by omega
      have HFIN : Hid (∀ w6 w7, Below wr.heap.size wr w6 → w6.grownBy w7 (some w.heap.size) → LineAns w w7 R g c L i e (.returned (.tuple #[.agg #[.int .i64 0, .string ⟨#[]⟩, .slice none 0 0, .slice none 0 0], .bool false])) ∧ Fx (· = R) w w7) := Lib.hid fun w6 w7 b6 hg7 =>
        ⟨⟨L.length, hij, Nat.le_refl _, HN.out, .inl ⟨rfl, rfl, (HR.out.new b6).fx (Fx.row1 hg7) (by omega) (by omega)⟩⟩, (HF.out.trans (Fx.new b6)).then (Fx.row1 hg7) (fun b hb e => by omega)⟩
      go_wp2_with fail
      refine (next_end HR.out rfl).mono ?_
      rintro r w6 ⟨rfl, b6⟩
      have hQ6 := HQ.out.below b6 HQ.out.lt
      have HQ6 := Lib.hid hQ6
      have HB6 := Lib.hid b6
      clear hQ6 b6
      go_wp2_with (refine wpList_store_st rfl _ _ _ rfl lineT w.heap.size _ _ rfl rfl HQ6.out rfl rfl rfl ?_; intro w7 hB7 hg7 hz7)
      refine bodyPost_ret (v := .tuple #[.agg #[.int .i64 0, .string ⟨#[]⟩, .slice none 0 0, .slice none 0 0], .bool false]) (results_c1 rfl lineT rfl rfl hB7 rfl) rfl ?_
      exact HFIN.out w6 w7 HB6.out hg7
end Go.Proofs.YtpgnfianffjpnaaGreatDoor
