/- stratalaw14.LexLines: the law. -/
import Derived.Test.YtpgnfianffjpnaaGreatDoorLnR
import Derived.Test.YtpgnfianffjpnaaGreatDoorLmD
import Derived.Test.YtpgnfianffjpnaaGreatDoorLmE
import Derived.Test.YtpgnfianffjpnaaGreatDoorLmF
import Derived.Test.YtpgnfianffjpnaaGreatDoorErrAt
namespace Go.Proofs.YtpgnfianffjpnaaGreatDoor
open Go Go.RowKit
set_option maxRecDepth 100000 in
set_option maxHeartbeats 1000000 in
theorem sameMarks_any (w : World) (l : List Lx.Mk) (A B : Option Addr) (ca cb : Nat) (ha : RdRow w (.slice A l.length ca) l.length (mkC l)) (hb : RdRow w (.slice B l.length cb) l.length (mkC l)) (hn : l.length ≤ 1000000) :
    Calls Tryz.prog 45 #[.slice A l.length ca, .slice B l.length cb] w fun e w' => e = .returned (.bool true) ∧ Below w.heap.size w w' := by
  have HA := Lib.hid ha
  have HB := Lib.hid hb
  clear ha hb
  go_enter Tryz.func45, Tryz.ntmps45
  go_wp2_with fail
  go_loopw [5] (fun t5 wr => ∃ i : Nat, i ≤ l.length ∧ t5 = .int .i64 (i : Int) ∧ Hid (Below w.heap.size w wr)) (fun t5 _ => l.length - (intOf t5).toNat)
  case atStart => exact ⟨0, by omega, rfl, Lib.hid (Below.refl _ _)⟩
  case round =>
    rename World => wr
    obtain ⟨i, hi, rfl, HBL⟩ := hrel
    have j0 : (0 : Int) ≤ (i : Int) := by omega
    rcases Nat.lt_or_ge i l.length with hin | hin
    · have i0 : decide ((i : Int) < (l.length : Int)) = true := by rw [decide_eq_true_eq]; omega
      have i1 : (i : Int) < (l.length : Int) := by omega
      obtain ⟨b, o, c, hve, d0, d1, d2⟩ := (HA.out.new HBL.out).mark i hin
      injection hve with e1 _ e3
      subst e1
      obtain ⟨b', o', c', hve, f0, f1, f2⟩ := (HB.out.new HBL.out).mark i hin
      injection hve with e1 _ e4
      subst e1
      obtain ⟨x, hx⟩ : ∃ x, l[i] = x := ⟨_, rfl⟩
      rw [hx] at d0 d1 d2 f0 f1 f2
      have xn := neq_mk x
      clear hx e3 e4
      go_upto_region 6 with fail
      go_cut [25] (fun s25 wx => s25 = .bool false ∧ ∃ n, wx = wr.drewN n)
      case first =>
        go_quiet (fail)
        go_wp2_with fail
        go_meet
        exact ⟨by first | rfl | trivial, _, rfl⟩
      case rest =>
        rename World => wz
        obtain ⟨rfl, n, hwz⟩ := hcut
        have HB5 : Hid (Below w.heap.size w wz) := Lib.hid (by rw [hwz]; exact below_drewN HBL.out n)
        clear hwz d0 d1 d2 f0 f1 f2 xn
        go_wp2_with fail
        go_roundw
        case rel => exact ⟨i + 1, by omega, by go_num, HB5⟩
        case measure => simp [intOf]; omega
    · have i0 : decide ((i : Int) < (l.length : Int)) = false := by rw [decide_eq_false_iff_not]; omega
      go_wp2_with fail
      go_ret
      exact ⟨by first | rfl | trivial, HBL.out⟩
set_option maxRecDepth 100000 in
set_option maxHeartbeats 1000000 in
theorem sameDocs_any (w : World) (l : List Lx.Dc) (A B : Option Addr) (ca cb : Nat) (ha : RdRow w (.slice A l.length ca) l.length (dcC l)) (hb : RdRow w (.slice B l.length cb) l.length (dcC l)) (hn : l.length ≤ 1000000) :
    Calls Tryz.prog 46 #[.slice A l.length ca, .slice B l.length cb] w fun e w' => e = .returned (.bool true) ∧ Below w.heap.size w w' := by
  have HA := Lib.hid ha
  have HB := Lib.hid hb
  clear ha hb
  go_enter Tryz.func46, Tryz.ntmps46
  go_wp2_with fail
  go_loopw [5] (fun t5 wr => ∃ i : Nat, i ≤ l.length ∧ t5 = .int .i64 (i : Int) ∧ Hid (Below w.heap.size w wr)) (fun t5 _ => l.length - (intOf t5).toNat)
  case atStart => exact ⟨0, by omega, rfl, Lib.hid (Below.refl _ _)⟩
  case round =>
    rename World => wr
    obtain ⟨i, hi, rfl, HBL⟩ := hrel
    have j0 : (0 : Int) ≤ (i : Int) := by omega
    rcases Nat.lt_or_ge i l.length with hin | hin
    · have i0 : decide ((i : Int) < (l.length : Int)) = true := by rw [decide_eq_true_eq]; omega
      have i1 : (i : Int) < (l.length : Int) := by omega
      obtain ⟨b, o, c, hve, d0, d1, d2, d3⟩ := (HA.out.new HBL.out).doc i hin
      injection hve with e1 _ e3
      subst e1
      obtain ⟨b', o', c', hve, f0, f1, f2, f3⟩ := (HB.out.new HBL.out).doc i hin
      injection hve with e1 _ e4
      subst e1
      obtain ⟨x, hx⟩ : ∃ x, l[i] = x := ⟨_, rfl⟩
      rw [hx] at d0 d1 d2 d3 f0 f1 f2 f3
      have xn := neq_dc x
      clear hx e3 e4
      go_upto_region 6 with fail
      go_cut [25] (fun s25 wx => s25 = .bool false ∧ ∃ n, wx = wr.drewN n)
      case first =>
        go_quiet (fail)
        go_wp2_with fail
        go_meet
        exact ⟨by first | rfl | trivial, _, rfl⟩
      case rest =>
        rename World => wz
        obtain ⟨rfl, n, hwz⟩ := hcut
        have HB5 : Hid (Below w.heap.size w wz) := Lib.hid (by rw [hwz]; exact below_drewN HBL.out n)
        clear hwz d0 d1 d2 d3 f0 f1 f2 f3 xn
        go_wp2_with fail
        go_roundw
        case rel => exact ⟨i + 1, by omega, by go_num, HB5⟩
        case measure => simp [intOf]; omega
    · have i0 : decide ((i : Int) < (l.length : Int)) = false := by rw [decide_eq_false_iff_not]; omega
      go_wp2_with fail
      go_ret
      exact ⟨by first | rfl | trivial, HBL.out⟩
set_option maxRecDepth 100000 in
set_option maxHeartbeats 4000000 in
theorem sameLines_any (w : World) (l : List Lx.Ln) (A B : Option Addr) (ca cb : Nat) (ha : LsRd w (.slice A l.length ca) l) (hb : LsRd w (.slice B l.length cb) l) (hn : l.length ≤ 1000000) (hm : ∀ x ∈ l, x.marks.length ≤ 1000000 ∧ x.docs.length ≤ 1000000) :
    Calls Tryz.prog 12 #[.slice A l.length ca, .slice B l.length cb] w fun e w' => e = .returned (.bool true) ∧ Below w.heap.size w w' := by
  have HA := Lib.hid ha
  have HB := Lib.hid hb
  have HM := Lib.hid hm
  clear ha hb hm
  go_enter Tryz.func12, Tryz.ntmps12
  go_wp2_with fail
  go_loopw [5] (fun t5 wr => ∃ i : Nat, i ≤ l.length ∧ t5 = .int .i64 (i : Int) ∧ Hid (Below w.heap.size w wr)) (fun t5 _ => l.length - (intOf t5).toNat)
  case atStart => exact ⟨0, by omega, rfl, Lib.hid (Below.refl _ _)⟩
  case round =>
    rename World => wr
    obtain ⟨i, hi, rfl, HBL⟩ := hrel
    have j0 : (0 : Int) ≤ (i : Int) := by omega
    rcases Nat.lt_or_ge i l.length with hin | hin
    · have i0 : decide ((i : Int) < (l.length : Int)) = true := by rw [decide_eq_true_eq]; omega
      have i1 : (i : Int) < (l.length : Int) := by omega
      obtain ⟨b, o, vm, Ad, cd, rfl, d0, d1, d2, d3, hvm, hvd⟩ := (HA.out.new HBL.out).at i hin
      obtain ⟨b', o', vm', Bd, cd', rfl, f0, f1, f2, f3, hvm', hvd'⟩ := (HB.out.new HBL.out).at i hin
      obtain ⟨Am, cm, rfl⟩ := hvm.form
      obtain ⟨Bm, cm', rfl⟩ := hvm'.form
      obtain ⟨x, hx⟩ : ∃ x, l[i] = x := ⟨_, rfl⟩
      have hxm := HM.out x (by rw [← hx]; exact List.getElem_mem hin)
      rw [hx] at d0 d1 d2 d3 f0 f1 f2 f3 hvm hvd hvm' hvd'
      have HVM := Lib.hid hvm
      have HVD := Lib.hid hvd
      have HVM' := Lib.hid hvm'
      have HVD' := Lib.hid hvd'
      have D0 := Lib.hid d0
      have D1 := Lib.hid d1
      have D2 := Lib.hid d2
      have D3 := Lib.hid d3
      have F0 := Lib.hid f0
      have F1 := Lib.hid f1
      have F2 := Lib.hid f2
      have F3 := Lib.hid f3
      obtain ⟨ln, hlno⟩ : ∃ n, x.line = n := ⟨_, rfl⟩
      obtain ⟨tx, htx⟩ : ∃ t, bs x.text = t := ⟨_, rfl⟩
      obtain ⟨nm, hnm⟩ : ∃ n, x.marks.length = n := ⟨_, rfl⟩
      obtain ⟨nd, hnd⟩ : ∃ n, x.docs.length = n := ⟨_, rfl⟩
      have HNM := Lib.hid hnm
      have HND := Lib.hid hnd
      rw [hlno] at d0 f0
      rw [htx] at d1 f1
      rw [hnm] at d2 f2
      rw [hnd] at d3 f3
      have HC : Hid (∀ u, Below wr.heap.size wr u → u.cell? ⟨b, o + i * 4, none⟩ = some (.int .i64 ln) ∧ u.cell? ⟨b, o + i * 4 + 1, none⟩ = some (.string tx) ∧ u.cell? ⟨b, o + i * 4 + 2, none⟩ = some (.slice Am nm cm) ∧ u.cell? ⟨b, o + i * 4 + 3, none⟩ = some (.slice Ad nd cd) ∧ u.cell? ⟨b', o' + i * 4, none⟩ = some (.int .i64 ln) ∧ u.cell? ⟨b', o' + i * 4 + 1, none⟩ = some (.string tx) ∧ u.cell? ⟨b', o' + i * 4 + 2, none⟩ = some (.slice Bm nm cm') ∧ u.cell? ⟨b', o' + i * 4 + 3, none⟩ = some (.slice Bd nd cd')) :=
        Lib.hid fun u hu => ⟨cell_new hu d0, cell_new hu d1, cell_new hu d2, cell_new hu d3, cell_new hu f0, cell_new hu f1, cell_new hu f2, cell_new hu f3⟩
      have hcm : ∀ u, Below wr.heap.size wr u → Calls Tryz.prog 45 #[.slice Am nm cm, .slice Bm nm cm'] u fun e w' => e = .returned (.bool true) ∧ Below u.heap.size u w' := fun u hu => by
        have := sameMarks_any u x.marks Am Bm cm cm' (HVM.out.new hu) (HVM'.out.new hu) hxm.1
        rw [HNM.out] at this
        exact this
      have hcd : ∀ u, Below wr.heap.size wr u → Calls Tryz.prog 46 #[.slice Ad nd cd, .slice Bd nd cd'] u fun e w' => e = .returned (.bool true) ∧ Below u.heap.size u w' := fun u hu => by
        have := sameDocs_any u x.docs Ad Bd cd cd' (HVD.out.new hu) (HVD'.out.new hu) hxm.2
        rw [HND.out] at this
        exact this
      have HCM := Lib.hid hcm
      have HCD := Lib.hid hcd
      clear hvm hvd hvm' hvd' hlno htx hnm hnd hcm hcd hx D0 D1 D2 D3 F0 F1 F2 F3
      go_upto_region 6 with fail
      go_cut [68] (fun s68 wx => s68 = .bool false ∧ Below wr.heap.size wr wx)
      case first =>
        go_region_held3 (fun u => u.cell? ⟨b, o + i * 4, none⟩ = some (.int .i64 ln) ∧ u.cell? ⟨b, o + i * 4 + 1, none⟩ = some (.string tx) ∧ u.cell? ⟨b, o + i * 4 + 2, none⟩ = some (.slice Am nm cm) ∧ u.cell? ⟨b, o + i * 4 + 3, none⟩ = some (.slice Ad nd cd) ∧ u.cell? ⟨b', o' + i * 4, none⟩ = some (.int .i64 ln) ∧ u.cell? ⟨b', o' + i * 4 + 1, none⟩ = some (.string tx) ∧ u.cell? ⟨b', o' + i * 4 + 2, none⟩ = some (.slice Bm nm cm') ∧ u.cell? ⟨b', o' + i * 4 + 3, none⟩ = some (.slice Bd nd cd')) (exact ⟨d0, d1, d2, d3, f0, f1, f2, f3⟩)
          (first | (go_at_call 45; refine (HCM.out _ (by first | exact Below.refl _ _ | exact (Below.refl _ _).drew)).mono ?_; rintro e u1 ⟨rfl, b1⟩; have BX : Below wr.heap.size wr u1 := below_of_below (by first | exact Below.refl wr.heap.size wr | exact (Below.refl wr.heap.size wr).drew) b1 (by first | exact Nat.le_refl _ | rfl); obtain ⟨d0, d1, d2, d3, f0, f1, f2, f3⟩ := HC.out u1 BX) | (go_at_call 46; refine (HCD.out _ (by first | exact BX | exact BX.drew)).mono ?_; rintro e u2 ⟨rfl, b2⟩; have BY : Below wr.heap.size wr u2 := below_of_below (by first | exact BX | exact BX.drew) b2 (by first | exact BX.size | exact BX.drew.size); obtain ⟨d0, d1, d2, d3, f0, f1, f2, f3⟩ := HC.out u2 BY))
        go_wp2_with fail
        go_meet
        exact ⟨by first | rfl | trivial, BY⟩
      case rest =>
        rename World => wz
        obtain ⟨rfl, hbz⟩ := hcut
        have HB5 := Lib.hid (below_of_below HBL.out hbz HBL.out.size)
        clear hbz d0 d1 d2 d3 f0 f1 f2 f3
        go_wp2_with fail
        go_roundw
        case rel => exact ⟨i + 1, by omega, by go_num, HB5⟩
        case measure => simp [intOf]; omega
    · have i0 : decide ((i : Int) < (l.length : Int)) = false := by rw [decide_eq_false_iff_not]; omega
      go_wp2_with fail
      go_ret
      exact ⟨by first | rfl | trivial, HBL.out⟩
end Go.Proofs.YtpgnfianffjpnaaGreatDoor
namespace Go.Proofs.YtpgnfianffjpnaaGreatDoor
open Go Go.RowKit
/-- rows that lie one behind another, in blocks from lo on, below hi. -/
def Sp (w : World) (e : TypeId) (K : Nat) : Nat → Nat → List Value → Prop
  | lo, hi, [] => lo ≤ hi
  | lo, hi, v :: vs => ∃ m n xs, lo ≤ m ∧ n ≤ 1000000 ∧ w.ownsRow lo e K v n xs ∧ (∀ b, v.ownBlock = some b → b < m) ∧ Sp w e K m hi vs
theorem own_low {w : World} {b b' k n : Nat} {e : TypeId} {v : Value} {xs : List Value} (h : w.ownsRow b e k v n xs) (hb : b' ≤ b) : w.ownsRow b' e k v n xs := by
  refine ⟨h.1, ?_⟩
  rcases h.2 with h2 | ⟨g, cap, cur, e1, e2, e3⟩
  · exact .inl h2
  · exact .inr ⟨g, cap, cur, e1, Nat.le_trans hb e2, e3⟩
section
variable {w w' : World} {e : TypeId} {K : Nat}
theorem Sp.le : ∀ {vs : List Value} {lo hi : Nat}, Sp w e K lo hi vs → lo ≤ hi
  | [], _, _, h => h
  | _ :: _, _, _, ⟨_, _, _, h1, _, _, _, h2⟩ => Nat.le_trans h1 h2.le
theorem Sp.low {vs : List Value} {lo lo' hi : Nat} (h : Sp w e K lo hi vs) (hl : lo' ≤ lo) : Sp w e K lo' hi vs := by
  cases vs with
  | nil => exact Nat.le_trans hl h
  | cons v vs =>
    obtain ⟨m, n, xs, h1, h2, h3, h4, h5⟩ := h
    exact ⟨m, n, xs, Nat.le_trans hl h1, h2, own_low h3 hl, h4, h5⟩
theorem Sp.app : ∀ {vs us : List Value} {lo mid hi : Nat}, Sp w e K lo mid vs → Sp w e K mid hi us → Sp w e K lo hi (vs ++ us)
  | [], _, _, _, _, h, k => k.low h
  | _ :: _, _, _, _, _, ⟨m, n, xs, h1, h2, h3, h4, h5⟩, k => ⟨m, n, xs, h1, h2, h3, h4, h5.app k⟩
theorem Sp.new (k : Below w.heap.size w w') : ∀ {vs : List Value} {lo hi : Nat}, Sp w e K lo hi vs → Sp w' e K lo hi vs
  | [], _, _, h => h
  | _ :: _, _, _, ⟨m, n, xs, h1, h2, h3, h4, h5⟩ => ⟨m, n, xs, h1, h2, own_below h3 k, h4, h5.new k⟩
theorem Sp.one {v : Value} {n lo hi : Nat} {xs : List Value} (h : w.ownsRow lo e K v n xs) (hn : n ≤ 1000000) (hl : lo ≤ hi) (hs : w.heap.size ≤ hi) : Sp w e K lo hi [v] :=
  ⟨hi, n, xs, hl, hn, h, fun b hb => Nat.lt_of_lt_of_le (h.lt b hb).2 hs, Nat.le_refl _⟩
theorem Sp.row {b0 : Nat} : ∀ {vs : List Value} {lo hi : Nat}, Sp w e K lo hi vs → b0 ≤ lo → ∀ j, j < vs.length → ∃ n xs, n ≤ 1000000 ∧ w.ownsRow b0 e K (vs.getD j undef) n xs
  | [], _, _, _, _, j, hj => absurd hj (by simp)
  | v :: vs, _, _, ⟨m, n, xs, h1, h2, h3, h4, h5⟩, hb, 0, _ => ⟨n, xs, h2, own_low h3 hb⟩
  | v :: vs, _, _, ⟨m, n, xs, h1, h2, h3, h4, h5⟩, hb, j + 1, hj => h5.row (Nat.le_trans hb h1) j (by simpa using hj)
theorem Sp.ge : ∀ {vs : List Value} {lo hi : Nat}, Sp w e K lo hi vs → ∀ j, j < vs.length → ∀ b, (vs.getD j undef).ownBlock = some b → lo ≤ b
  | [], _, _, _, j, hj, _, _ => absurd hj (by simp)
  | v :: vs, _, _, ⟨m, n, xs, h1, h2, h3, h4, h5⟩, 0, _, b, he => (h3.lt b he).1
  | v :: vs, _, _, ⟨m, n, xs, h1, h2, h3, h4, h5⟩, j + 1, hj, b, he => Nat.le_trans h1 (h5.ge j (by simpa using hj) b he)
theorem Sp.inj : ∀ {vs : List Value} {lo hi : Nat}, Sp w e K lo hi vs → ∀ i j, i < vs.length → j < vs.length → ∀ b, (vs.getD i undef).ownBlock = some b → (vs.getD j undef).ownBlock = some b → i = j
  | [], _, _, _, i, _, hi, _, _, _, _ => absurd hi (by simp)
  | v :: vs, _, _, ⟨m, n, xs, h1, h2, h3, h4, h5⟩, 0, 0, _, _, _, _, _ => rfl
  | v :: vs, _, _, ⟨m, n, xs, h1, h2, h3, h4, h5⟩, 0, j + 1, _, hj, b, e1, e2 => by
    have q1 := h4 b e1
    have q2 := h5.ge j (by simpa using hj) b e2
    omega
  | v :: vs, _, _, ⟨m, n, xs, h1, h2, h3, h4, h5⟩, i + 1, 0, hi, _, b, e1, e2 => by
    have q1 := h4 b e2
    have q2 := h5.ge i (by simpa using hi) b e1
    omega
  | v :: vs, _, _, ⟨m, n, xs, h1, h2, h3, h4, h5⟩, i + 1, j + 1, hi, hj, b, e1, e2 => by
    rw [h5.inj i j (by simpa using hi) (by simpa using hj) b e1 e2]
open Classical in
theorem Sp.rw {vs : List Value} {lo hi b0 : Nat} (h : Sp w e K lo hi vs) (hb : b0 ≤ lo) : ∃ (N : Nat → Nat) (X : Nat → List Value) (col : Nat → Nat), Rw w b0 e K vs N X col ∧ ∀ j, j < vs.length → N j ≤ 1000000 := by
  have hr := h.row hb
  refine ⟨fun j => if hj : j < vs.length then (hr j hj).choose else 0, fun j => if hj : j < vs.length then (hr j hj).choose_spec.choose else [], fun b => if hc : ∃ j, j < vs.length ∧ (vs.getD j undef).ownBlock = some b then hc.choose else 0, fun j hj => ⟨?_, fun b he => ?_⟩, fun j hj => ?_⟩
  · simp only [dif_pos hj]
    exact (hr j hj).choose_spec.choose_spec.2
  · have hc : ∃ j, j < vs.length ∧ (vs.getD j undef).ownBlock = some b := ⟨j, hj, he⟩
    simp only [dif_pos hc]
    exact h.inj _ _ hc.choose_spec.1 hj b hc.choose_spec.2 he
  · simp only [dif_pos hj]
    exact (hr j hj).choose_spec.choose_spec.1
end
theorem pk2_cons (n : Nat) (a b c d : Value) (t : List Value) : pk 2 (n + 1) (a :: b :: c :: d :: t) = c :: pk 2 n t := by
  unfold pk
  rw [List.range_succ_eq_map, List.map_cons, List.map_map]
  refine congrArg (List.cons c) (List.map_congr_left fun i _ => ?_)
  show (a :: b :: c :: d :: t).getD ((i + 1) * 4 + 2) undef = t.getD (i * 4 + 2) undef
  rw [show (i + 1) * 4 + 2 = i * 4 + 2 + 1 + 1 + 1 + 1 by omega]
  simp [List.getD]
theorem pk3_cons (n : Nat) (a b c d : Value) (t : List Value) : pk 3 (n + 1) (a :: b :: c :: d :: t) = d :: pk 3 n t := by
  unfold pk
  rw [List.range_succ_eq_map, List.map_cons, List.map_map]
  refine congrArg (List.cons d) (List.map_congr_left fun i _ => ?_)
  show (a :: b :: c :: d :: t).getD ((i + 1) * 4 + 3) undef = t.getD (i * 4 + 3) undef
  rw [show (i + 1) * 4 + 3 = i * 4 + 3 + 1 + 1 + 1 + 1 by omega]
  simp [List.getD]
theorem LnOwn.spM {w : World} : ∀ {ls : List Lx.Ln} {lo hi : Nat} {cs : List Value}, LnOwn w lo hi ls cs → (∀ x ∈ ls, x.marks.length ≤ 1000000 ∧ x.docs.length ≤ 1000000) → Sp w 136 3 lo hi (pk 2 ls.length cs)
  | [], _, _, _, h, _ => h.2
  | l :: ls, _, _, _, ⟨vm, vd, m, r, e, h1, h2, h3, _, _, h6⟩, hx => by
    rw [e, List.length_cons]
    show Sp _ _ _ _ _ (pk 2 (ls.length + 1) (_ :: _ :: _ :: _ :: r))
    rw [pk2_cons]
    exact ⟨m, _, _, h1, (hx l (by simp)).1, h2, h3, h6.spM fun x hq => hx x (by simp [hq])⟩
theorem LnOwn.spD {w : World} : ∀ {ls : List Lx.Ln} {lo hi : Nat} {cs : List Value}, LnOwn w lo hi ls cs → (∀ x ∈ ls, x.marks.length ≤ 1000000 ∧ x.docs.length ≤ 1000000) → Sp w 83 4 lo hi (pk 3 ls.length cs)
  | [], _, _, _, h, _ => h.2
  | l :: ls, _, _, _, ⟨vm, vd, m, r, e, h1, _, _, h2, h3, h6⟩, hx => by
    rw [e, List.length_cons]
    show Sp _ _ _ _ _ (pk 3 (ls.length + 1) (_ :: _ :: _ :: _ :: r))
    rw [pk3_cons]
    exact ⟨m, _, _, h1, (hx l (by simp)).2, h2, h3, h6.spD fun x hq => hx x (by simp [hq])⟩
theorem LnOwn.form {w : World} {ls : List Lx.Ln} {lo hi : Nat} {cs : List Value} (h : LnOwn w lo hi ls cs) : LnCs ls.length cs := fun i hi => by
  obtain ⟨vm, vd, q0, q1, q2, q3, q4, q5⟩ := h.get i hi
  obtain ⟨mA, mc, rfl⟩ := q4.form
  obtain ⟨dA, dc, rfl⟩ := q5.form
  exact ⟨_, _, mA, _, mc, dA, _, dc, q0, q1, q2, q3⟩
/-- what a reading of s answers, its parts. -/
structure Said (s : List UInt8) (E no ln at_ : Int) (G : Value) (ls : List Lx.Ln) : Prop where
  small : ls.length ≤ 5000
  each : ∀ x ∈ ls, x.marks.length ≤ 1000000 ∧ x.docs.length ≤ 1000000
  read : ∀ (w : World), s.length ≤ 2000000 → Env w → Calls Tryz.prog 9 #[.string (bs s)] w fun r w' => (∃ A c cs, r = .returned (.tuple #[.int .u8 E, .slice A ls.length c, G]) ∧ w'.ownsRow w.heap.size 64 4 (.slice A ls.length c) ls.length cs ∧ LnOwn w' w.heap.size w'.heap.size ls cs) ∧ Below w.heap.size w w'
  ref : ∀ (w : World), s.length ≤ 2000000 → Calls Tryz.prog 8 #[.string (bs s)] w fun r w' => (∃ A c, r = .returned (.tuple #[.int .u8 E, .slice A ls.length c, .int .i64 no, .int .i64 ln, .int .i64 at_]) ∧ LsRd w' (.slice A ls.length c) ls) ∧ Below w.heap.size w w'
  at_ : ∀ (w : World), ErrVar w → Calls Tryz.prog 10 #[G, .int .i64 no, .int .i64 ln, .int .i64 at_] w fun e w' => e = .returned (.bool true) ∧ Below w.heap.size w w'
  num : ∀ (w : World), Calls Tryz.prog 11 #[G] w fun e w' => e = .returned (.int .i64 no) ∧ Below w.heap.size w w'
theorem said (s : List UInt8) : ∃ E no ln at_ G ls, Said s E no ln at_ G ls := by
  cases h : Lx.linesL s with
  | inl z =>
    obtain ⟨h1, h2⟩ := lines_no h
    refine ⟨0, (z.1 : Int), z.2.1, z.2.2, eFault (z.1 : Int) z.2.1 z.2.2, [], (by simp), (fun x hx => by cases hx), fun w hs hE => ?_, fun w hs => ?_, fun w hE => at_fault _ _ _ (by omega) (by omega) w hE, fun w => num_fault _ _ _ (by omega) (by omega) w⟩
    · refine (lines_call s hs w hE (Lib.hid h)).mono ?_
      rintro r w' ⟨hA, p⟩
      have hr := lns_err hA
      subst hr
      exact ⟨⟨none, 0, [], rfl, World.ownsRow_nil _ _ _ _, rfl, p.size⟩, p⟩
    · refine (lines14_any s hs w (Lib.hid h)).mono ?_
      rintro r w' ⟨hA, p⟩
      have hr : r = _ := hA
      subst hr
      exact ⟨⟨none, 0, rfl, ⟨none, 0, rfl, fun i hi => absurd hi (by simp)⟩⟩, p⟩
  | inr el =>
    obtain ⟨ee, ls⟩ := el
    obtain ⟨h1, h2⟩ := lines_small h
    refine ⟨(ee.toNat : Int), 0, 0, 0, .nilIface, ls, h1, h2, fun w hs hE => ?_, fun w hs => ?_, fun w hE => ?_, fun w => ?_⟩
    · refine (lines_call s hs w hE (Lib.hid h)).mono ?_
      rintro r w' ⟨hA, p⟩
      obtain ⟨v, cs, hr, ho, hl⟩ := hA
      subst hr
      obtain ⟨A, c, rfl⟩ := ownk_form ho
      exact ⟨⟨A, c, cs, rfl, ho, hl⟩, p⟩
    · refine (lines14_any s hs w (Lib.hid h)).mono ?_
      rintro r w' ⟨⟨A, c, hr, hl⟩, p⟩
      exact ⟨⟨A, c, hr, hl⟩, p⟩
    · refine (at_nil _ _ w).mono ?_
      rintro e w' ⟨rfl, rfl⟩
      exact ⟨rfl, Below.refl _ _⟩
    · refine (num_nil w).mono ?_
      rintro e w' ⟨rfl, rfl⟩
      exact ⟨rfl, Below.refl _ _⟩
end Go.Proofs.YtpgnfianffjpnaaGreatDoor
namespace Go.Proofs.YtpgnfianffjpnaaGreatDoor
open Go Go.RowKit
/-- a list's own rows, kept for the book. -/
structure Got (w : World) (lo hi : Nat) (A : Option Addr) (c : Nat) (ls : List Lx.Ln) (cs : List Value) : Prop where
  own : w.ownsRow lo 64 4 (.slice A ls.length c) ls.length cs
  rows : LnOwn w lo hi ls cs
  lt : ∀ b, (Value.slice A ls.length c).ownBlock = some b → b < hi
theorem Got.new {w w' : World} {lo hi : Nat} {A : Option Addr} {c : Nat} {ls : List Lx.Ln} {cs : List Value} (h : Got w lo hi A c ls cs) (k : Below w.heap.size w w') : Got w' lo hi A c ls cs := ⟨own_below h.own k, h.rows.new k, h.lt⟩
theorem Got.rd {w : World} {lo hi : Nat} {A : Option Addr} {c : Nat} {ls : List Lx.Ln} {cs : List Value} (h : Got w lo hi A c ls cs) : LsRd w (.slice A ls.length c) ls := LnOwn.rd h.own h.rows rfl
theorem Got.line {w : World} {lo hi : Nat} {A : Option Addr} {c : Nat} {ls : List Lx.Ln} {cs : List Value} (h : Got w lo hi A c ls cs) (hn : ls.length ≤ 5000) : Sp w 64 4 lo hi [.slice A ls.length c] := ⟨hi, ls.length, cs, h.rows.le, by omega, h.own, h.lt, Nat.le_refl _⟩
set_option maxRecDepth 100000 in
set_option maxHeartbeats 8000000 in
theorem lawLines (s o : List UInt8) (w : World) (hs : s.length ≤ 1100000) (ho : o.length ≤ 1100000) (hT : Tabs w) (hv : ErrVar w) (hm : Maxl w) :
    Calls Tryz.prog 3 #[.string (bs s), .string (bs o)] w fun e w' => e = .returned (.bool true) ∧ Below w.heap.size w w' := by
  have HE0 := Lib.hid (Env.mk hT hv hm)
  clear hT hv hm
  obtain ⟨E, no, ln, at_, G, ls, hS⟩ := said s
  obtain ⟨E2, no2, ln2, at2, G2, ls2, hO⟩ := said o
  have HS := Lib.hid hS
  have HO := Lib.hid hO
  obtain ⟨K, hK⟩ : ∃ K, ls.length = K := ⟨_, rfl⟩
  obtain ⟨M, hM⟩ : ∃ M, ls2.length = M := ⟨_, rfl⟩
  have hK5 : K ≤ 5000 := by have := hS.small; omega
  have hM5 : M ≤ 5000 := by have := hO.small; omega
  have HK := Lib.hid hK
  have HM := Lib.hid hM
  have q1 : (E != E) = false := by simp
  have q2 : (no2 != no2) = false := by simp
  clear hS hO hK hM
  go_enter Tryz.func3, Tryz.ntmps3
  go_wp2_with fail
  refine (HS.out.ref _ (by omega)).mono ?_
  rintro r w1 ⟨⟨RA1, rc1, rfl, hr⟩, p⟩
  have HR1 := Lib.hid hr
  have HP1 : Hid (Below w.heap.size w w1) := Lib.hid (p)
  have HE1 := Lib.hid (HE0.out.new p)

  rw [HK.out]
  clear p hr
  go_wp2_with fail
  refine (HO.out.ref _ (by omega)).mono ?_
  rintro r w2 ⟨⟨RA2, rc2, rfl, hr⟩, p⟩
  have HR2 := Lib.hid hr
  have HP2 : Hid (Below w.heap.size w w2) := Lib.hid (below_of_below HP1.out p HP1.out.size)
  have HE2 := Lib.hid (HE1.out.new p)
  have HRa2 := Lib.hid (HR1.out.new p)
  rw [HM.out]
  clear p hr
  go_wp2_with fail
  refine (HS.out.read _ (by omega) HE2.out).mono ?_
  rintro r w3 ⟨⟨A3, c3, cs3, rfl, hown, hrows⟩, p⟩
  have HG3_3 : Hid (Got w3 w2.heap.size w3.heap.size A3 c3 ls cs3) := Lib.hid ⟨hown, hrows, fun b hb => (hown.lt b hb).2⟩
  have HP3 : Hid (Below w.heap.size w w3) := Lib.hid (below_of_below HP2.out p HP2.out.size)
  have HE3 := Lib.hid (HE2.out.new p)
  have HRa3 := Lib.hid (HRa2.out.new p)
  have HRb3 := Lib.hid (HR2.out.new p)
  have hz3 := p.size
  rw [HK.out]
  clear p hown hrows
  go_wp2_with fail
  refine (HS.out.read _ (by omega) HE3.out).mono ?_
  rintro r w4 ⟨⟨A4, c4, cs4, rfl, hown, hrows⟩, p⟩
  have HG4_4 : Hid (Got w4 w3.heap.size w4.heap.size A4 c4 ls cs4) := Lib.hid ⟨hown, hrows, fun b hb => (hown.lt b hb).2⟩
  have HP4 : Hid (Below w.heap.size w w4) := Lib.hid (below_of_below HP3.out p HP3.out.size)
  have HE4 := Lib.hid (HE3.out.new p)
  have HRa4 := Lib.hid (HRa3.out.new p)
  have HRb4 := Lib.hid (HRb3.out.new p)
  have HG3_4 := Lib.hid (HG3_3.out.new p)
  have hz4 := p.size
  rw [HK.out]
  clear p hown hrows
  go_wp2_with fail
  refine (HO.out.read _ (by omega) HE4.out).mono ?_
  rintro r w5 ⟨⟨A5, c5, cs5, rfl, hown, hrows⟩, p⟩
  have HG5_5 : Hid (Got w5 w4.heap.size w5.heap.size A5 c5 ls2 cs5) := Lib.hid ⟨hown, hrows, fun b hb => (hown.lt b hb).2⟩
  have HP5 : Hid (Below w.heap.size w w5) := Lib.hid (below_of_below HP4.out p HP4.out.size)
  have HE5 := Lib.hid (HE4.out.new p)
  have HRa5 := Lib.hid (HRa4.out.new p)
  have HRb5 := Lib.hid (HRb4.out.new p)
  have HG3_5 := Lib.hid (HG3_4.out.new p)
  have HG4_5 := Lib.hid (HG4_4.out.new p)
  have hz5 := p.size
  rw [HM.out]
  clear p hown hrows
  go_wp2_with fail
  refine (HS.out.read _ (by omega) HE5.out).mono ?_
  rintro r w6 ⟨⟨A6, c6, cs6, rfl, hown, hrows⟩, p⟩
  have HG6_6 : Hid (Got w6 w5.heap.size w6.heap.size A6 c6 ls cs6) := Lib.hid ⟨hown, hrows, fun b hb => (hown.lt b hb).2⟩
  have HP6 : Hid (Below w.heap.size w w6) := Lib.hid (below_of_below HP5.out p HP5.out.size)
  have HE6 := Lib.hid (HE5.out.new p)
  have HRa6 := Lib.hid (HRa5.out.new p)
  have HRb6 := Lib.hid (HRb5.out.new p)
  have HG3_6 := Lib.hid (HG3_5.out.new p)
  have HG4_6 := Lib.hid (HG4_5.out.new p)
  have HG5_6 := Lib.hid (HG5_5.out.new p)
  have hz6 := p.size
  rw [HK.out]
  clear p hown hrows
  go_wp2_with fail
  refine (HS.out.at_ _ HE6.out.err).mono ?_
  rintro r w7 ⟨rfl, p⟩
  have HP7 : Hid (Below w.heap.size w w7) := Lib.hid (below_of_below HP6.out p HP6.out.size)
  have HE7 := Lib.hid (HE6.out.new p)
  have HRa7 := Lib.hid (HRa6.out.new p)
  have HRb7 := Lib.hid (HRb6.out.new p)
  have HG3_7 := Lib.hid (HG3_6.out.new p)
  have HG4_7 := Lib.hid (HG4_6.out.new p)
  have HG5_7 := Lib.hid (HG5_6.out.new p)
  have HG6_7 := Lib.hid (HG6_6.out.new p)
  have hz7 := p.size
  clear p 
  go_wp2_with fail
  refine (HS.out.at_ _ HE7.out.err).mono ?_
  rintro r w8 ⟨rfl, p⟩
  have HP8 : Hid (Below w.heap.size w w8) := Lib.hid (below_of_below HP7.out p HP7.out.size)
  have HE8 := Lib.hid (HE7.out.new p)
  have HRa8 := Lib.hid (HRa7.out.new p)
  have HRb8 := Lib.hid (HRb7.out.new p)
  have HG3_8 := Lib.hid (HG3_7.out.new p)
  have HG4_8 := Lib.hid (HG4_7.out.new p)
  have HG5_8 := Lib.hid (HG5_7.out.new p)
  have HG6_8 := Lib.hid (HG6_7.out.new p)
  have hz8 := p.size
  clear p 
  go_wp2_with fail
  refine (HO.out.num _).mono ?_
  rintro r w9 ⟨rfl, p⟩
  have HP9 : Hid (Below w.heap.size w w9) := Lib.hid (below_of_below HP8.out p HP8.out.size)
  have HE9 := Lib.hid (HE8.out.new p)
  have HRa9 := Lib.hid (HRa8.out.new p)
  have HRb9 := Lib.hid (HRb8.out.new p)
  have HG3_9 := Lib.hid (HG3_8.out.new p)
  have HG4_9 := Lib.hid (HG4_8.out.new p)
  have HG5_9 := Lib.hid (HG5_8.out.new p)
  have HG6_9 := Lib.hid (HG6_8.out.new p)
  have hz9 := p.size
  clear p 
  go_wp2_with fail
  refine (HS.out.at_ _ HE9.out.err).mono ?_
  rintro r w10 ⟨rfl, p⟩
  have HP10 : Hid (Below w.heap.size w w10) := Lib.hid (below_of_below HP9.out p HP9.out.size)
  have HE10 := Lib.hid (HE9.out.new p)
  have HRa10 := Lib.hid (HRa9.out.new p)
  have HRb10 := Lib.hid (HRb9.out.new p)
  have HG3_10 := Lib.hid (HG3_9.out.new p)
  have HG4_10 := Lib.hid (HG4_9.out.new p)
  have HG5_10 := Lib.hid (HG5_9.out.new p)
  have HG6_10 := Lib.hid (HG6_9.out.new p)
  have hz10 := p.size
  clear p 
  have hcall := sameLines_any _ _ _ _ _ _ HG3_10.out.rd HRa10.out (by have := HS.out.small; omega) HS.out.each
  rw [HK.out] at hcall
  go_wp2_with fail
  refine (hcall).mono ?_
  rintro r w11 ⟨rfl, p⟩
  have HP11 : Hid (Below w.heap.size w w11) := Lib.hid (below_of_below HP10.out p HP10.out.size)
  have HE11 := Lib.hid (HE10.out.new p)
  have HRa11 := Lib.hid (HRa10.out.new p)
  have HRb11 := Lib.hid (HRb10.out.new p)
  have HG3_11 := Lib.hid (HG3_10.out.new p)
  have HG4_11 := Lib.hid (HG4_10.out.new p)
  have HG5_11 := Lib.hid (HG5_10.out.new p)
  have HG6_11 := Lib.hid (HG6_10.out.new p)
  have hz11 := p.size
  clear p hcall
  have hcall := sameLines_any _ _ _ _ _ _ HG4_11.out.rd HRa11.out (by have := HS.out.small; omega) HS.out.each
  rw [HK.out] at hcall
  go_wp2_with fail
  refine (hcall).mono ?_
  rintro r w12 ⟨rfl, p⟩
  have HP12 : Hid (Below w.heap.size w w12) := Lib.hid (below_of_below HP11.out p HP11.out.size)
  have HE12 := Lib.hid (HE11.out.new p)
  have HRa12 := Lib.hid (HRa11.out.new p)
  have HRb12 := Lib.hid (HRb11.out.new p)
  have HG3_12 := Lib.hid (HG3_11.out.new p)
  have HG4_12 := Lib.hid (HG4_11.out.new p)
  have HG5_12 := Lib.hid (HG5_11.out.new p)
  have HG6_12 := Lib.hid (HG6_11.out.new p)
  have hz12 := p.size
  clear p hcall
  have hcall := sameLines_any _ _ _ _ _ _ HG5_12.out.rd HRb12.out (by have := HO.out.small; omega) HO.out.each
  rw [HM.out] at hcall
  go_wp2_with fail
  refine (hcall).mono ?_
  rintro r w13 ⟨rfl, p⟩
  have HP13 : Hid (Below w.heap.size w w13) := Lib.hid (below_of_below HP12.out p HP12.out.size)
  have HE13 := Lib.hid (HE12.out.new p)
  have HRa13 := Lib.hid (HRa12.out.new p)
  have HRb13 := Lib.hid (HRb12.out.new p)
  have HG3_13 := Lib.hid (HG3_12.out.new p)
  have HG4_13 := Lib.hid (HG4_12.out.new p)
  have HG5_13 := Lib.hid (HG5_12.out.new p)
  have HG6_13 := Lib.hid (HG6_12.out.new p)
  have hz13 := p.size
  clear p hcall
  have hcall := sameLines_any _ _ _ _ _ _ HG6_13.out.rd HRa13.out (by have := HS.out.small; omega) HS.out.each
  rw [HK.out] at hcall
  go_wp2_with fail
  refine (hcall).mono ?_
  rintro r w14 ⟨rfl, p⟩
  have HP14 : Hid (Below w.heap.size w w14) := Lib.hid (below_of_below HP13.out p HP13.out.size)
  have HE14 := Lib.hid (HE13.out.new p)
  have HRa14 := Lib.hid (HRa13.out.new p)
  have HRb14 := Lib.hid (HRb13.out.new p)
  have HG3_14 := Lib.hid (HG3_13.out.new p)
  have HG4_14 := Lib.hid (HG4_13.out.new p)
  have HG5_14 := Lib.hid (HG5_13.out.new p)
  have HG6_14 := Lib.hid (HG6_13.out.new p)
  have hz14 := p.size
  clear p hcall
  obtain ⟨w0, hw0⟩ : ∃ w0, w14.alloc (.cells #[.slice none 0 0, .slice none 0 0, .slice none 0 0, .slice none 0 0, .slice none 0 0, .slice none 0 0, .slice none 0 0, .slice none 0 0, .slice none 0 0, .slice none 0 0, .slice none 0 0, .slice none 0 0, .slice none 0 0, .slice none 0 0, .slice none 0 0, .slice none 0 0, .slice none 0 0, .slice none 0 0, .slice none 0 0, .slice none 0 0, .slice none 0 0, .slice none 0 0, .slice none 0 0, .slice none 0 0] 57) = w0 := ⟨_, rfl⟩
  have hb0 : Below w14.heap.size w14 w0 := by rw [← hw0]; exact (Below.refl _ _).alloc (Nat.le_refl _) _
  have hx0 : Blk w0 w14.heap.size 57 #[.slice none 0 0, .slice none 0 0, .slice none 0 0, .slice none 0 0, .slice none 0 0, .slice none 0 0, .slice none 0 0, .slice none 0 0, .slice none 0 0, .slice none 0 0, .slice none 0 0, .slice none 0 0, .slice none 0 0, .slice none 0 0, .slice none 0 0, .slice none 0 0, .slice none 0 0, .slice none 0 0, .slice none 0 0, .slice none 0 0, .slice none 0 0, .slice none 0 0, .slice none 0 0, .slice none 0 0] := by rw [← hw0]; exact Blk.new _ _ _
  have hz0 : w0.heap.size = w14.heap.size + 1 := by rw [← hw0]; simp
  have HW0 := Lib.hid hw0
  have HB0 := Lib.hid hb0
  have HBK0 : Hid (Bk w0 w14.heap.size w14.heap.size [] [] [] (.slice none 0 0) (.slice none 0 0) (.slice none 0 0)) := Lib.hid ⟨hx0, World.ownsRow_nil _ _ _ _, World.ownsRow_nil _ _ _ _, World.ownsRow_nil _ _ _ _, Nat.le_refl _⟩
  clear hw0 hb0 hx0
  go_upto_region 12 with fail
  rw [HW0.out]
  have hcall := bookLines_any w0 HBK0.out A3 _ c3 cs3 (RdRow.own (HG3_14.out.new HB0.out).own) (HG3_14.out.rows.form) (fun b hb => by have := HG3_14.out.lt b hb; omega) (by have := HS.out.small; omega) (by simp) (by simp) (by simp) (by have := HB0.out.size; omega)
  rw [HK.out] at hcall
  go_wp2_with fail
  refine hcall.mono ?_
  rintro r w15 ⟨rfl, ⟨vm15, vd15, vl15, h⟩, p⟩
  simp only [List.nil_append] at h
  have HBK15 := Lib.hid h
  have HB15 : Hid (Below w14.heap.size w14 w15) := Lib.hid (HB0.out.trans p)
  clear h p hcall
  have hcall := bookLines_any w15 HBK15.out A4 _ c4 cs4 (RdRow.own (HG4_14.out.new HB15.out).own) (HG4_14.out.rows.form) (fun b hb => by have := HG4_14.out.lt b hb; omega) (by have := HS.out.small; omega) (by simp [pk_len]; omega) (by simp [pk_len]; omega) (by simp) (by have := HB15.out.size; omega)
  rw [HK.out] at hcall
  go_wp2_with fail
  refine hcall.mono ?_
  rintro r w16 ⟨rfl, ⟨vm16, vd16, vl16, h⟩, p⟩

  have HBK16 := Lib.hid h
  have HB16 : Hid (Below w14.heap.size w14 w16) := Lib.hid (HB15.out.trans p)
  clear h p hcall
  have hcall := bookLines_any w16 HBK16.out A5 _ c5 cs5 (RdRow.own (HG5_14.out.new HB16.out).own) (HG5_14.out.rows.form) (fun b hb => by have := HG5_14.out.lt b hb; omega) (by have := HO.out.small; omega) (by simp [pk_len]; omega) (by simp [pk_len]; omega) (by simp) (by have := HB16.out.size; omega)
  rw [HM.out] at hcall
  go_wp2_with fail
  refine hcall.mono ?_
  rintro r w17 ⟨rfl, ⟨vm17, vd17, vl17, h⟩, p⟩

  have HBK17 := Lib.hid h
  have HB17 : Hid (Below w14.heap.size w14 w17) := Lib.hid (HB16.out.trans p)
  clear h p hcall
  have hcall := bookLines_any w17 HBK17.out A6 _ c6 cs6 (RdRow.own (HG6_14.out.new HB17.out).own) (HG6_14.out.rows.form) (fun b hb => by have := HG6_14.out.lt b hb; omega) (by have := HS.out.small; omega) (by simp [pk_len]; omega) (by simp [pk_len]; omega) (by simp) (by have := HB17.out.size; omega)
  rw [HK.out] at hcall
  go_wp2_with fail
  refine hcall.mono ?_
  rintro r w18 ⟨rfl, ⟨vm18, vd18, vl18, h⟩, p⟩

  have HBK18 := Lib.hid h
  have HB18 : Hid (Below w14.heap.size w14 w18) := Lib.hid (HB17.out.trans p)
  clear h p hcall
  have HEE := Lib.hid (HE14.out.new HB18.out)
  have HEND : Hid (Below w.heap.size w w18) := Lib.hid (below_of_below HP14.out HB18.out HP14.out.size)
  have hlo : w.heap.size ≤ w2.heap.size := HP2.out.size
  have f1 := HG3_14.out.new HB18.out
  have f2 := HG4_14.out.new HB18.out
  have f3 := HG5_14.out.new HB18.out
  have f4 := HG6_14.out.new HB18.out
  have spM := ((((f1.rows.spM HS.out.each).app (f2.rows.spM HS.out.each)).app (f3.rows.spM HO.out.each)).app (f4.rows.spM HS.out.each))
  have spD := ((((f1.rows.spD HS.out.each).app (f2.rows.spD HS.out.each)).app (f3.rows.spD HO.out.each)).app (f4.rows.spD HS.out.each))
  have spL := ((((f1.line HS.out.small).app (f2.line HS.out.small)).app (f3.line HO.out.small)).app (f4.line HS.out.small))
  obtain ⟨NM, XM, cM, rM, nM⟩ := spM.rw hlo
  obtain ⟨ND, XD, cD, rD, nD⟩ := spD.rw hlo
  obtain ⟨NL, XL, cL, rL, nL⟩ := spL.rw hlo
  rw [HK.out, HM.out] at rM nM rD nD rL nL
  have HAP := Lib.hid (bookApart_any w18 HBK18.out rM rD rL HEND.out.size (by simp) (by simp [pk_len]; omega) (by simp [pk_len]; omega) (by simp) nM nD nL)
  clear f1 f2 f3 f4 spM spD spL rM rD rL nM nD nL
  go_wp2_with fail
  refine HAP.out.mono ?_
  rintro r w19 ⟨rfl, p⟩
  have HP19 := Lib.hid (HEND.out.trans p)
  go_wp2_with fail
  refine (works_call _ (HE0.out.new HP19.out)).mono ?_
  rintro r w20 ⟨rfl, p20⟩
  go_wp2_with fail
  go_ret
  exact ⟨by first | rfl | trivial, below_of_below HP19.out p20 HP19.out.size⟩
end Go.Proofs.YtpgnfianffjpnaaGreatDoor
