/- lex.Place, walked. -/
import Derived.Test.YtpgnfianffjpnaaGreatDoorLxN
namespace Go.Proofs.YtpgnfianffjpnaaGreatDoor
open Go Go.RowKit

/-- a slice whose cells read so. -/
def RdRow (w : World) (v : Value) (n : Nat) (xs : List Value) : Prop := ∃ A c, v = .slice A n c ∧ ∀ j u, xs[j]? = some u → ∃ b o, A = some ⟨b, o, none⟩ ∧ w.cell? ⟨b, o + j, none⟩ = some u
theorem RdRow.own {w : World} {base k n : Nat} {e : TypeId} {v : Value} {xs : List Value} (h : w.ownsRow base e k v n xs) : RdRow w v n xs := by
  rcases h.2 with ⟨rfl, rfl⟩ | ⟨g, cap, cur, rfl, _, hg, _⟩
  · exact ⟨none, 0, rfl, fun j u hu => by have := h.1; rw [Nat.zero_mul] at this; rw [List.eq_nil_of_length_eq_zero this] at hu; simp at hu⟩
  · refine ⟨_, _, rfl, fun j u hu => ⟨g, 0, rfl, ?_⟩⟩
    have := h.cells (g := g) rfl j u hu
    rwa [Addr.add_lit] at this
theorem RdRow.fx {w w' : World} {S : Nat → Prop} {v : Value} {n : Nat} {xs : List Value} (h : RdRow w v n xs) (k : Fx S w w') (hS : ∀ g, v.ownBlock = some g → ¬ S g) : RdRow w' v n xs := by
  obtain ⟨A, c, rfl, hc⟩ := h
  refine ⟨A, c, rfl, fun j u hu => ?_⟩
  obtain ⟨b, o, rfl, h1⟩ := hc j u hu
  exact ⟨b, o, rfl, k.cell h1 (hS b rfl)⟩
theorem RdRow.new {w w' : World} {v : Value} {n : Nat} {xs : List Value} (h : RdRow w v n xs) (k : Below w.heap.size w w') : RdRow w' v n xs := h.fx (S := fun _ => False) (Fx.new k) (fun _ _ => id)
theorem mkC_length (l : List Lx.Mk) : (mkC l).length = l.length * 3 := by
  induction l with
  | nil => rfl
  | cons a l ih => rw [show mkC (a :: l) = mkL a ++ mkC l from rfl, List.length_append, ih]; simp [mkL]; omega
theorem mkC_get : ∀ (l : List Lx.Mk) (j : Nat) (hj : j < l.length), (mkC l)[j * 3]? = some (.int .i64 l[j].at_) ∧ (mkC l)[j * 3 + 1]? = some (.int .i64 l[j].line) ∧ (mkC l)[j * 3 + 2]? = some (.int .i64 l[j].col)
  | a :: l, 0, _ => ⟨rfl, rfl, rfl⟩
  | a :: l, j + 1, hj => by
    have := mkC_get l j (by simpa using hj)
    rw [show (j + 1) * 3 = j * 3 + 3 by omega, show mkC (a :: l) = mkL a ++ mkC l from rfl]
    exact this
theorem RdRow.mark {w : World} {v : Value} {l : List Lx.Mk} (h : RdRow w v l.length (mkC l)) (j : Nat) (hj : j < l.length) : ∃ b o c, v = .slice (some ⟨b, o, none⟩) l.length c ∧ w.cell? ⟨b, o + j * 3, none⟩ = some (.int .i64 l[j].at_) ∧ w.cell? ⟨b, o + j * 3 + 1, none⟩ = some (.int .i64 l[j].line) ∧ w.cell? ⟨b, o + j * 3 + 2, none⟩ = some (.int .i64 l[j].col) := by
  obtain ⟨A, c, rfl, hc⟩ := h
  obtain ⟨h0, h1, h2⟩ := mkC_get l j hj
  obtain ⟨b, o, rfl, d0⟩ := hc _ _ h0
  obtain ⟨b', o', e, d1⟩ := hc _ _ h1
  injection e with e; injection e with e1 e2
  subst e1 e2
  obtain ⟨b', o', e, d2⟩ := hc _ _ h2
  injection e with e; injection e with e1 e2
  subst e1 e2
  exact ⟨b, o, c, rfl, d0, by rw [Nat.add_assoc]; exact d1, by rw [Nat.add_assoc]; exact d2⟩
theorem RdRow.form {w : World} {v : Value} {n : Nat} {xs : List Value} (h : RdRow w v n xs) : ∃ A c, v = .slice A n c := by
  obtain ⟨A, c, e, _⟩ := h
  exact ⟨A, c, e⟩
/-- the numbers of a line's marks are Go's ints. -/
def in64 (x : Int) : Prop := -9223372036854775808 ≤ x ∧ x ≤ 9223372036854775807
set_option maxRecDepth 100000 in
set_option maxHeartbeats 8000000 in
theorem place_any (ln : Lx.Ln) (vm vd : Value) (at_ : Int) (w : World) (hm : RdRow w vm ln.marks.length (mkC ln.marks)) (ht : ln.text.length ≤ 1000000000) (hn : ln.marks.length ≤ 1000000) {RES : Int × Int} (H : Hid (Lx.placeL ln at_ = RES)) :
    Calls Tryz.prog 18 #[.agg #[.int .i64 ln.line, .string (bs ln.text), vm, vd], .int .i64 at_] w fun r w' => r = .returned (.tuple #[.int .i64 RES.1, .int .i64 RES.2]) ∧ Below w.heap.size w w' := by
  obtain ⟨a, ha⟩ : ∃ a, Hid (Lx.clampL ln at_ = a) := ⟨_, Lib.hid rfl⟩
  obtain ⟨AA, ca, hvm⟩ := hm.form
  subst hvm
  have hz := bs_size ln.text
  have hcl : a = max 0 (min at_ ((bs ln.text).size : Int)) := by rw [← ha.out, Lx.clampL, hz]
  have ha0 : 0 ≤ a := by rw [hcl]; omega
  have ha1 : a ≤ ((bs ln.text).size : Int) := by rw [hcl]; omega
  have hzl : (bs ln.text).size ≤ 1000000000 := by omega
  have H0 : Hid (Lx.placeM (ln.marks.take ln.marks.length) a (ln.line, a + 1) = RES) := by
    show _ = _
    rw [List.take_length, ← H.out, Lx.placeL, ha.out]
  have hB0 := (Below.refl w.heap.size w).alloc (Nat.le_refl _) (.cells #[.int .i64 ln.line, .string (bs ln.text), .slice AA ln.marks.length ca, vd] 64)
  have hK0 := Blk.new w 64 #[.int .i64 ln.line, .string (bs ln.text), .slice AA ln.marks.length ca, vd]
  have hm0 := hm.new hB0
  obtain ⟨w0, hw0⟩ : ∃ w0, w.alloc (.cells #[.int .i64 ln.line, .string (bs ln.text), .slice AA ln.marks.length ca, vd] 64) = w0 := ⟨_, rfl⟩
  rw [hw0] at hB0 hK0 hm0
  have HB0 := Lib.hid hB0
  have HK0 := Lib.hid hK0
  have HM0 := Lib.hid hm0
  have HW0 := Lib.hid hw0
  have HCL := Lib.hid hcl
  have hbs0 := hK0.lt
  clear hm hB0 hK0 hm0 hw0 hz hcl H
  go_enter Tryz.func18, Tryz.ntmps18
  go_upto_region 1 with fail
  rw [HW0.out]
  have k1 : w0.cell? ⟨w.heap.size, 1, none⟩ = some (.string (bs ln.text)) := HK0.out.cell 1
  go_cut [1] (fun s1 wx => s1 = .int .i64 a ∧ wx = w0)
  case first =>
    go_wp2_with fail
    go_meet
    exact ⟨by rw [HCL.out], rfl⟩
  case rest =>
    obtain ⟨rfl, hwx⟩ := hcut
    rw [hwx]
    clear hwx k1
    have k0 : w0.cell? ⟨w.heap.size, 0, none⟩ = some (.int .i64 ln.line) := HK0.out.cell 0
    have k2 : w0.cell? ⟨w.heap.size, 2, none⟩ = some (.slice AA ln.marks.length ca) := HK0.out.cell 2
    go_wp2_with fail
    clear k0 k2
    go_loopw [6, 7] (fun t6 _ wr => ∃ k : Nat, k ≤ ln.marks.length ∧ ((k = 0 ∧ t6 = .int .i64 (-1)) ∨ ∃ j : Nat, k = j + 1 ∧ t6 = .int .i64 (j : Int)) ∧ Hid (Lx.placeM (ln.marks.take k) a (ln.line, a + 1) = RES) ∧ Hid (Below w0.heap.size w0 wr)) (fun t6 _ _ => (intOf t6 + 1).toNat)
    case atStart =>
      refine ⟨ln.marks.length, Nat.le_refl _, ?_, H0, Lib.hid (Below.refl _ _)⟩
      rcases Nat.eq_zero_or_pos ln.marks.length with h | h
      · exact .inl ⟨h, by rw [h]; rfl⟩
      · exact .inr ⟨ln.marks.length - 1, by omega, by congr 1; omega⟩
    case round =>
      clear H0
      obtain ⟨k, hk, hkk, HP, HB⟩ := hrel
      have hsz := HB.out.size
      have hKr := HK0.out.below HB.out hbs0
      have k0 : wr.cell? ⟨w.heap.size, 0, none⟩ = some (.int .i64 ln.line) := hKr.cell 0
      have k2 : wr.cell? ⟨w.heap.size, 2, none⟩ = some (.slice AA ln.marks.length ca) := hKr.cell 2
      clear hKr
      rcases hkk with ⟨rfl, rfl⟩ | ⟨j, rfl, rfl⟩
      · have HR : Hid (RES = (ln.line, a + 1)) := by show _ = _; rw [← HP.out]; rfl
        have HBF := Lib.hid (below_of_below HB0.out HB.out HB0.out.size)
        clear HP
        go_wp2_with fail
        go_ret2
        refine ⟨?_, HBF.out⟩
        rw [HR.out]
        rfl
      · have hjn : j < ln.marks.length := by omega
        have hmr := HM0.out.new HB.out
        obtain ⟨b, o, c, hv, c0, c1, c2⟩ := hmr.mark j hjn
        injection hv with e1 _ e3
        subst e1 e3
        have htk : ln.marks.take (j + 1) = ln.marks.take j ++ [ln.marks[j]] := by rw [List.take_add_one, List.getElem?_eq_getElem hjn]; rfl
        have hP := HP.out
        rw [htk, Lx.placeM_snoc] at hP
        obtain ⟨m, hme⟩ : ∃ m, ln.marks[j] = m := ⟨_, rfl⟩
        rw [hme] at c0 c1 c2 hP
        have hP2 := Lib.hid hP
        have j0 : (0 : Int) ≤ (j : Int) := by omega
        have j1 : (j : Int) < (ln.marks.length : Int) := by omega
        have hB1 := HB.out.alloc hsz (.cells #[.int .i64 m.at_, .int .i64 m.line, .int .i64 m.col] 136)
        have HB1 := Lib.hid (below_of_below HB0.out hB1 HB0.out.size)
        have HB2 := Lib.hid hB1
        clear htk hP hmr hme HP hB1
        by_cases hle : m.at_ ≤ a
        · have t1 : decide (m.at_ ≤ a) = true := by rw [decide_eq_true_eq]; exact hle
          have HR : Hid (RES = (m.line, Lx.w64 (m.col + Lx.w64 (a - m.at_)))) := by show _ = _; rw [← hP2.out, if_pos hle]
          clear hle hP2
          go_wp2_with fail
          go_quiet (fail)
          go_wp2_with fail
          go_ret2
          refine ⟨?_, below_drewN HB1.out _⟩
          rw [HR.out]
          simp only [Lx.w64, IntWalk.i64_left]
          rfl
        · have t1 : decide (m.at_ ≤ a) = false := by rw [decide_eq_false_iff_not]; exact hle
          have HR : Hid (Lx.placeM (ln.marks.take j) a (ln.line, a + 1) = RES) := by show _ = _; rw [← hP2.out, if_neg hle]
          clear hle hP2
          go_wp2_with fail
          go_roundw
          case rel =>
            refine ⟨j, by omega, ?_, HR, HB2⟩
            rcases Nat.eq_zero_or_pos j with h | h
            · exact .inl ⟨h, by rw [h]; rfl⟩
            · exact .inr ⟨j - 1, by omega, by congr 1; omega⟩
          case measure => simp [intOf]
end Go.Proofs.YtpgnfianffjpnaaGreatDoor
