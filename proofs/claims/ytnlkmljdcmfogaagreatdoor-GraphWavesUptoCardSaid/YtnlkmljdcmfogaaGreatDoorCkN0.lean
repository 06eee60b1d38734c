/- check.valid, walked. What is wrong with a step, its questions told one by one. Plain. the documents that are left: the tail of a slice. -/
import Derived.Test.YtnlkmljdcmfogaaGreatDoorCkM0
import Derived.Test.YtnlkmljdcmfogaaGreatDoorGwC0
import Derived.Deep.RegionHeld3
import Derived.Deep.DeepCutAuto
import Derived.Deep.QuietTactic
import Derived.BigQuiet
import Derived.Test.YtnlkmljdcmfogaaGreatDoorLxA0
namespace Go.Proofs.YtnlkmljdcmfogaaGreatDoor
open Go Go.RowKit
theorem own_new (w : World) (base : Nat) (cs : List Value) (e : TypeId) (n : Nat) (hn : cs.length = n) (h63 : n ≤ 9223372036854775807) (hb : base ≤ w.heap.size) : (w.alloc (.cells cs.toArray e)).ownsRow base e 1 (.slice (some ⟨w.heap.size, 0, none⟩) n n) n cs :=
  ⟨by omega, .inr ⟨w.heap.size, n, cs.toArray, rfl, hb, heap_alloc_new w _, Nat.le_refl _, by unfold maxLen; omega, by simp [hn], by simp [← hn]⟩⟩
theorem hb1' {w w1 w2 : World} {v : Value} {n : Nat} {xs : List Value} (hz : w1.heap.size = w.heap.size + 1) (hb : Below (w.heap.size + 1) w1 w2) (h : SlA w1 v n xs) : SlA w2 v n xs := h.new (by rw [hz]; exact hb)
theorem sc_flat (l : List (List UInt8)) : ∀ u ∈ sc l, u.oneCell' = true := sc_one l
def prT (l : List Ck.Pr) : List (List UInt8) := l.flatMap fun p => [p.key, p.val]
def doT (l : List Lx.Dc) : List (List UInt8) := l.flatMap fun d => [d.name, d.text]
theorem prT_snoc (l : List Ck.Pr) (i : Nat) (hi : i < l.length) : prT (l.take (i + 1)) = prT (l.take i) ++ [l[i].key, l[i].val] := by
  unfold prT
  rw [List.take_add_one, List.getElem?_eq_getElem hi, List.flatMap_append]
  rfl
theorem doT_snoc (l : List Lx.Dc) (i : Nat) (hi : i < l.length) : doT (l.take (i + 1)) = doT (l.take i) ++ [l[i].name, l[i].text] := by
  unfold doT
  rw [List.take_add_one, List.getElem?_eq_getElem hi, List.flatMap_append]
  rfl
theorem two_one {x y : ByteArray} : ∀ u ∈ ([.string x, .string y] : List Value), u.oneCell' = true := fun u hu => by
  rcases List.mem_cons.1 hu with rfl | hu
  · rfl
  · rw [List.mem_singleton] at hu; subst hu; rfl
theorem newA {w : World} {cs : List Value} {e : TypeId} {n g : Nat} (hg : g = w.heap.size) : SlA (w.alloc (.cells cs.toArray e)) (.slice (some ⟨g, 0, none⟩) n n) n cs := .inr ⟨g, 0, n, rfl, fun j u hu => by
  subst hg
  have := news_alloc w cs e j u hu
  rwa [add_none] at this⟩
set_option maxRecDepth 100000 in
set_option linter.unusedSimpArgs false in
set_option maxHeartbeats 4000000 in
theorem valid_ck (m : SM) (w : World) (hok : m.Ok w) (hT : Tabs w) (hn : m.s.words.length + m.s.exec.length + m.s.pairs.length + m.s.docs.length ≤ 1050000) (hL : ∀ t ∈ Ck.textsL m.s, t.length ≤ 9223372036854775807) {b : Bool} (H : Hid ((Ck.textsL m.s).any Ck.badT = b)) :
    Calls Tryz.prog 172 #[.agg #[.int .i64 m.s.op, .int .i64 m.s.line, .string (bs m.s.from_), .string (bs m.s.mode), .bool m.s.force, m.vp, .bool m.s.bare, m.vw, m.vd, m.ve]] w fun r w' => r = .returned (.bool (!b)) ∧ Below w.heap.size w w' := by
  obtain ⟨s, vp, vw, vd, ve⟩ := m
  have hcp : SlA w vp s.pairs.length (prC s.pairs) := hok.cp
  have hcw : SlA w vw s.words.length (sc s.words) := hok.cw
  have hcd : SlA w vd s.docs.length (doC s.docs) := hok.cd
  have hce : SlA w ve s.exec.length (sc s.exec) := hok.ce
  dsimp only at hn hL H ⊢
  clear hok
  obtain ⟨Ap, kp, rfl⟩ := hcp.form
  obtain ⟨Ad, kd, rfl⟩ := hcd.form
  have hal := (Below.refl w.heap.size w).alloc (Nat.le_refl _) (.cells #[.int .i64 s.op, .int .i64 s.line, .string (bs s.from_), .string (bs s.mode), .bool s.force, .slice Ap s.pairs.length kp, .bool s.bare, vw, .slice Ad s.docs.length kd, ve] 100)
  have hk := Blk.new w 100 #[.int .i64 s.op, .int .i64 s.line, .string (bs s.from_), .string (bs s.mode), .bool s.force, .slice Ap s.pairs.length kp, .bool s.bare, vw, .slice Ad s.docs.length kd, ve]
  obtain ⟨w1, hw1⟩ : ∃ x, w.alloc (.cells #[.int .i64 s.op, .int .i64 s.line, .string (bs s.from_), .string (bs s.mode), .bool s.force, .slice Ap s.pairs.length kp, .bool s.bare, vw, .slice Ad s.docs.length kd, ve] 100) = x := ⟨_, rfl⟩
  have hz1 : w1.heap.size = w.heap.size + 1 := by rw [← hw1, World.size_alloc]
  rw [hw1] at hal hk
  have HW1 := Lib.hid hw1
  have HAL := Lib.hid hal
  have HK := Lib.hid hk
  have HP1 := Lib.hid (hcp.new hal)
  have HV1 := Lib.hid (hcw.new hal)
  have HD1 := Lib.hid (hcd.new hal)
  have HE1 := Lib.hid (hce.new hal)
  have HT1 := Lib.hid (hT.new hal)
  have HZ1 := Lib.hid hz1
  have HL := Lib.hid hL
  have hsz1 : w.heap.size + 1 ≤ w1.heap.size := by omega
  clear hw1 hal hk hz1 hcp hcw hcd hce hT hL
  go_enter Tryz.func172, Tryz.ntmps172
  go_upto_region 1 with fail
  rw [HW1.out]
  have b2 : w1.cell? ⟨w.heap.size, 2, none⟩ = some (.string (bs s.from_)) := HK.out.cell 2
  have b3 : w1.cell? ⟨w.heap.size, 3, none⟩ = some (.string (bs s.mode)) := HK.out.cell 3
  have b7 : w1.cell? ⟨w.heap.size, 7, none⟩ = some vw := HK.out.cell 7
  have b9 : w1.cell? ⟨w.heap.size, 9, none⟩ = some ve := HK.out.cell 9
  have lW : (sc s.words).length = s.words.length * 1 := by rw [sc_length, Nat.mul_one]
  have lE : (sc s.exec).length = s.exec.length * 1 := by rw [sc_length, Nat.mul_one]
  have LW := Lib.hid lW
  have LE := Lib.hid lE
  have HO0 := Lib.hid (own_new w1 (w.heap.size + 1) [.string (bs s.from_), .string (bs s.mode)] 9 2 rfl (by omega) hsz1)
  have HB0 := Lib.hid ((Below.refl (w.heap.size + 1) w1).alloc hsz1 (.cells #[.string (bs s.from_), .string (bs s.mode)] 9))
  have HSW := Lib.hid (HV1.out.new ((Below.refl w1.heap.size w1).alloc (Nat.le_refl _) (.cells #[.string (bs s.from_), .string (bs s.mode)] 9)))
  have HSZ : Hid (w.heap.size + 1 ≤ (w1.alloc (.cells #[.string (bs s.from_), .string (bs s.mode)] 9)).heap.size) := Lib.hid (by rw [World.size_alloc]; omega)
  have A2 : Hid (∀ o, (w1.alloc o).cell? ⟨w.heap.size, 2, none⟩ = some (.string (bs s.from_))) := Lib.hid fun o => (HK.out.alloc o).cell 2
  have A3 : Hid (∀ o, (w1.alloc o).cell? ⟨w.heap.size, 3, none⟩ = some (.string (bs s.mode))) := Lib.hid fun o => (HK.out.alloc o).cell 3
  have A7 : Hid (∀ o, (w1.alloc o).cell? ⟨w.heap.size, 7, none⟩ = some vw) := Lib.hid fun o => (HK.out.alloc o).cell 7
  have A9 : Hid (∀ o, (w1.alloc o).cell? ⟨w.heap.size, 9, none⟩ = some ve) := Lib.hid fun o => (HK.out.alloc o).cell 9
  clear lW lE
  go_cut [3] (fun s3 wx => Hid (wx.ownsRow (w.heap.size + 1) 9 1 s3 ([s.from_, s.mode] ++ s.words ++ s.exec).length (sc ([s.from_, s.mode] ++ s.words ++ s.exec))) ∧ Hid (Below (w.heap.size + 1) w1 wx))
  case first =>
    go_region_held3 (fun w' => w'.cell? ⟨w.heap.size, 2, none⟩ = some (.string (bs s.from_)) ∧ w'.cell? ⟨w.heap.size, 3, none⟩ = some (.string (bs s.mode)) ∧ w'.cell? ⟨w.heap.size, 7, none⟩ = some vw ∧ w'.cell? ⟨w.heap.size, 9, none⟩ = some ve) (first | exact ⟨b2, b3, b7, b9⟩ | exact ⟨A2.out _, A3.out _, A7.out _, A9.out _⟩ | exact HS2.out | exact HS3.out)
      (first
        | (refine step_appS rfl _ _ _ rfl strT (w.heap.size + 1) _ 2 [.string (bs s.from_), .string (bs s.mode)] rfl HO0.out vw s.words.length (sc s.words) rfl HSW.out LW.out (sc_flat _) (by omega) (by omega) HB0.out.drew HSZ.out ?_; intro v1 w2 ho1 hb1 hg1 hat1; have HO2 := Lib.hid ho1; have HB2 := Lib.hid hb1; have hk2 := HK.out.below hb1 (by omega); have HSE := Lib.hid (hb1' HZ1.out hb1 HE1.out); have HS2 := Lib.hid (And.intro (hk2.cell 2) (And.intro (hk2.cell 3) (And.intro (hk2.cell 7) (hk2.cell 9)))); clear ho1 hb1 hg1 hat1 hk2)
        | (refine step_appS rfl _ _ _ rfl strT (w.heap.size + 1) _ (2 + s.words.length) _ rfl HO2.out ve s.exec.length (sc s.exec) rfl HSE.out LE.out (sc_flat _) (by omega) (by omega) HB2.out (Nat.le_trans hsz1 HB2.out.size) ?_; intro v2 w3 ho2 hb2 hg2 hat2; have HO3 := Lib.hid ho2; have HB3 := Lib.hid hb2; have hk3 := HK.out.below hb2 (by omega); have HS3 := Lib.hid (And.intro (hk3.cell 2) (And.intro (hk3.cell 3) (And.intro (hk3.cell 7) (hk3.cell 9)))); clear ho2 hb2 hg2 hat2 hk3))
    go_wp2_with fail
    go_meet
    refine ⟨?_, HB3⟩
    have h := HO3.out
    rw [show ([.string (bs s.from_), .string (bs s.mode)] : List Value) = sc [s.from_, s.mode] from rfl, ← sc_append, ← sc_append] at h
    rw [show ([s.from_, s.mode] ++ s.words ++ s.exec).length = 2 + s.words.length + s.exec.length by simp only [List.length_append, List.length_cons, List.length_nil]]
    exact Lib.hid h
  case rest =>
    obtain ⟨HOc, HBc⟩ := hcut
    rename World => w2
    obtain ⟨L0, hL0⟩ : ∃ L, [s.from_, s.mode] ++ s.words ++ s.exec = L := ⟨_, rfl⟩
    rw [hL0] at HOc
    have hl0 : L0.length = 2 + s.words.length + s.exec.length := by rw [← hL0]; simp only [List.length_append, List.length_cons, List.length_nil]
    have HTX : Hid (Ck.textsL s = L0 ++ prT s.pairs ++ doT s.docs) := Lib.hid (by rw [← hL0]; rfl)
    have hl0' : L0.length ≤ 1050002 := by omega
    have hnp : s.pairs.length ≤ 1050000 := by omega
    have hnd : s.docs.length ≤ 1050000 := by omega
    have hnn : L0.length + s.pairs.length + s.docs.length ≤ 1050002 := by omega
    clear hL0 hl0 b2 b3 b7 b9 A2 A3 A7 A9 HO0 HB0 HSW HSZ LW LE
    obtain ⟨A3, c3, hv⟩ := ownk_form HOc.out
    subst hv
    have b5 : w2.cell? ⟨w.heap.size, 5, none⟩ = some (.slice Ap s.pairs.length kp) := (HK.out.below HBc.out (by omega)).cell 5
    go_wp2_with fail
    go_loopw [3, 5, 24] (fun t3 _ t24 wr => ∃ (i : Nat) (L : List (List UInt8)), i ≤ s.pairs.length ∧ t24 = .int .i64 (i : Int) ∧ Hid (wr.ownsRow (w.heap.size + 1) 9 1 t3 L.length (sc L)) ∧ Hid (L = L0 ++ prT (s.pairs.take i)) ∧ L.length ≤ L0.length + 2 * i ∧ Hid (Below (w.heap.size + 1) w1 wr)) (fun _ _ t24 _ => s.pairs.length - (intOf t24).toNat)
    case atStart => exact ⟨0, L0, by omega, rfl, HOc, Lib.hid (by simp [prT]), by omega, HBc⟩
    case round =>
      as_aux_lemma =>
      rename World => wr
      obtain ⟨i, L, hi, rfl, HO, HLe, hll, HB⟩ := hrel
      clear HOc HBc b5
      obtain ⟨A4, c4, hv⟩ := ownk_form HO.out
      subst hv
      rcases Nat.lt_or_ge i s.pairs.length with hin | hin
      · have i0 : decide ((i : Int) < (s.pairs.length : Int)) = true := by rw [decide_eq_true_eq]; omega
        have i1 : (i : Int) < (s.pairs.length : Int) := by omega
        have j0 : (0 : Int) ≤ (i : Int) := by omega
        obtain ⟨g, o, c, hv, c0, c1⟩ := pr_at (hb1' HZ1.out HB.out HP1.out) hin
        injection hv with hA _ _
        subst hA
        have HSN := Lib.hid (prT_snoc s.pairs i hin)
        obtain ⟨x, hx⟩ : ∃ x, s.pairs[i].key = x := ⟨_, rfl⟩
        obtain ⟨y, hy⟩ : ∃ y, s.pairs[i].val = y := ⟨_, rfl⟩
        rw [hx] at c0 HSN
        rw [hy] at c1 HSN
        clear hx hy
        have hown := HO.out
        have hszr : w.heap.size + 1 ≤ wr.heap.size := Nat.le_trans hsz1 HB.out.size
        have HOA := Lib.hid ((hown.alloc (.cells #[.string (bs x), .string (bs y)] 166)).alloc (.cells #[.string (bs x), .string (bs y)] 9))
        have HBA := Lib.hid (((HB.out).alloc hszr (.cells #[.string (bs x), .string (bs y)] 166)).alloc (by rw [World.size_alloc]; omega) (.cells #[.string (bs x), .string (bs y)] 9))
        have HSA : Hid (w.heap.size + 1 ≤ ((wr.alloc (.cells #[.string (bs x), .string (bs y)] 166)).alloc (.cells #[.string (bs x), .string (bs y)] 9)).heap.size) := Lib.hid (by rw [World.size_alloc, World.size_alloc]; omega)
        have HNA := Lib.hid (newA (w := wr.alloc (.cells #[.string (bs x), .string (bs y)] 166)) (cs := [.string (bs x), .string (bs y)]) (e := 9) (n := 2) (g := wr.heap.size + 1) (by rw [World.size_alloc]))
        clear hown
        go_wp2_with (at_builtin; refine wpList_appS rfl _ _ _ rfl strT (w.heap.size + 1) _ L.length (sc L) rfl HOA.out _ 2 [.string (bs x), .string (bs y)] rfl HNA.out rfl two_one (by omega) (by omega) HBA.out HSA.out ?_; intro v1 w8 ho1 hb1 hg1 hat1; have HO8 := Lib.hid ho1; have HB8 := Lib.hid hb1; clear ho1 hb1 hg1 hat1)
        go_roundw
        case rel => exact ⟨_, _, _, ⟨i + 1, by omega, by go_num, L ++ [x, y], Lib.hid (by rw [sc_append, List.length_append]; exact HO8.out), Lib.hid (by rw [HSN.out, HLe.out, List.append_assoc]), by simp only [List.length_append, List.length_cons, List.length_nil]; omega⟩, rfl, rfl, rfl⟩
        case measure => simp [intOf]; omega
      · have i0 : decide ((i : Int) < (s.pairs.length : Int)) = false := by rw [decide_eq_false_iff_not]; omega
        have e0 := i0
        have e0n : decide (i < s.pairs.length) = false := by rw [decide_eq_false_iff_not]; omega
        have HLp : Hid (L = L0 ++ prT s.pairs) := Lib.hid (by rw [HLe.out, List.take_of_length_le hin])
        have b8 : wr.cell? ⟨w.heap.size, 8, none⟩ = some (.slice Ad s.docs.length kd) := (HK.out.below HB.out (by omega)).cell 8
        have hLl : L.length ≤ L0.length + 2 * s.pairs.length := by omega
        obtain ⟨L1, hL1⟩ : ∃ L1, L1 = L := ⟨_, rfl⟩
        have HL1 := Lib.hid hL1
        clear HLe hL1
        go_wp2_with fail
        go_loopw [3, 7, 39] (fun t3 _ t39 wq => ∃ (i : Nat) (M : List (List UInt8)), i ≤ s.docs.length ∧ t39 = .int .i64 (i : Int) ∧ Hid (wq.ownsRow (w.heap.size + 1) 9 1 t3 M.length (sc M)) ∧ Hid (M = L ++ doT (s.docs.take i)) ∧ M.length ≤ L.length + 2 * i ∧ Hid (Below (w.heap.size + 1) w1 wq)) (fun _ _ t39 _ => s.docs.length - (intOf t39).toNat)
        case atStart => exact ⟨0, L, by omega, rfl, HO, Lib.hid (by simp [doT]), by omega, HB⟩
        case round =>
          as_aux_lemma =>
          rename World => wq
          obtain ⟨j, M, hj, rfl, HO2, HM, hml, HB2⟩ := hrel
          clear HO HB b8 i0
          obtain ⟨A5, c5, hv⟩ := ownk_form HO2.out
          subst hv
          rcases Nat.lt_or_ge j s.docs.length with hjn | hjn
          · have i0 : decide ((j : Int) < (s.docs.length : Int)) = true := by rw [decide_eq_true_eq]; omega
            have i1 : (j : Int) < (s.docs.length : Int) := by omega
            have j0 : (0 : Int) ≤ (j : Int) := by omega
            obtain ⟨g, o, c, hv, c0, c1, c2, c3⟩ := do_at (hb1' HZ1.out HB2.out HD1.out) hjn
            injection hv with hA _ _
            subst hA
            have HSN := Lib.hid (doT_snoc s.docs j hjn)
            obtain ⟨x, hx⟩ : ∃ x, s.docs[j].name = x := ⟨_, rfl⟩
            obtain ⟨y, hy⟩ : ∃ y, s.docs[j].text = y := ⟨_, rfl⟩
            obtain ⟨q, hq⟩ : ∃ y, s.docs[j].raw = y := ⟨_, rfl⟩
            obtain ⟨z, hz⟩ : ∃ y, s.docs[j].line = y := ⟨_, rfl⟩
            rw [hx] at c0 HSN
            rw [hy] at c3 HSN
            rw [hq] at c1
            rw [hz] at c2
            clear hx hy hq hz
            have hown := HO2.out
            have hszr : w.heap.size + 1 ≤ wq.heap.size := Nat.le_trans hsz1 HB2.out.size
            have HOA := Lib.hid ((hown.alloc (.cells #[.string (bs x), .bool q, .int .i64 z, .string (bs y)] 238)).alloc (.cells #[.string (bs x), .string (bs y)] 9))
            have HBA := Lib.hid (((HB2.out).alloc hszr (.cells #[.string (bs x), .bool q, .int .i64 z, .string (bs y)] 238)).alloc (by rw [World.size_alloc]; omega) (.cells #[.string (bs x), .string (bs y)] 9))
            have HSA : Hid (w.heap.size + 1 ≤ ((wq.alloc (.cells #[.string (bs x), .bool q, .int .i64 z, .string (bs y)] 238)).alloc (.cells #[.string (bs x), .string (bs y)] 9)).heap.size) := Lib.hid (by rw [World.size_alloc, World.size_alloc]; omega)
            have HNA := Lib.hid (newA (w := wq.alloc (.cells #[.string (bs x), .bool q, .int .i64 z, .string (bs y)] 238)) (cs := [.string (bs x), .string (bs y)]) (e := 9) (n := 2) (g := wq.heap.size + 1) (by rw [World.size_alloc]))
            clear hown
            go_wp2_with (at_builtin; refine wpList_appS rfl _ _ _ rfl strT (w.heap.size + 1) _ M.length (sc M) rfl HOA.out _ 2 [.string (bs x), .string (bs y)] rfl HNA.out rfl two_one (by omega) (by omega) HBA.out HSA.out ?_; intro v1 w8 ho1 hb1 hg1 hat1; have HO8 := Lib.hid ho1; have HB8 := Lib.hid hb1; clear ho1 hb1 hg1 hat1)
            go_roundw
            case rel => exact ⟨_, _, _, ⟨j + 1, by omega, by go_num, M ++ [x, y], Lib.hid (by rw [sc_append, List.length_append]; exact HO8.out), Lib.hid (by rw [HSN.out, HM.out, List.append_assoc]), by simp only [List.length_append, List.length_cons, List.length_nil]; omega⟩, rfl, rfl, rfl⟩
            case measure => simp [intOf]; omega
          · have i0 : decide ((j : Int) < (s.docs.length : Int)) = false := by rw [decide_eq_false_iff_not]; omega
            have HME : Hid (Ck.textsL s = M) := Lib.hid (by rw [HTX.out, HM.out, List.take_of_length_le hjn, HLp.out])
            have hMl : M.length ≤ 4000000 := by omega
            have H0 : Hid ((M.drop 0).any Ck.badT = b) := Lib.hid (by rw [List.drop_zero, ← HME.out]; exact H.out)
            have HML : Hid (∀ t ∈ M, t.length ≤ 9223372036854775807) := Lib.hid (by rw [← HME.out]; exact HL.out)
            clear HM
            have HSM := Lib.hid (SlA.own HO2.out)
            go_wp2_with fail
            have i0n : decide (j < s.docs.length) = false := by rw [decide_eq_false_iff_not]; omega
            try simp only [i0, e0, i0n, e0n]
            go_loopw [9, 53] (fun _ t53 wp => ∃ (i : Nat), i ≤ M.length ∧ t53 = .int .i64 (i : Int) ∧ Hid ((M.drop i).any Ck.badT = b) ∧ Hid (Below wq.heap.size wq wp)) (fun _ t53 _ => M.length - (intOf t53).toNat)
            case atStart => exact ⟨0, by omega, rfl, H0, Lib.hid (Below.refl _ _)⟩
            case round =>
              as_aux_lemma =>
              rename World => wp
              obtain ⟨i, hi, rfl, HR, HBp⟩ := hrel
              clear H0
              have HWP := Lib.hid ((HB2.out.trans (HBp.out.mono (Nat.le_trans hsz1 HB2.out.size))))
              rcases Nat.lt_or_ge i M.length with hin | hin
              · have k0 : decide ((i : Int) < (M.length : Int)) = true := by rw [decide_eq_true_eq]; omega
                have i1 : (i : Int) < (M.length : Int) := by omega
                have j0 : (0 : Int) ≤ (i : Int) := by omega
                obtain ⟨g, o, c, hv, c0⟩ := sc_at (HSM.out.new HBp.out) hin
                injection hv with hA _ hcc
                subst hA
                subst hcc
                have hR := HR.out
                rw [List.drop_eq_getElem_cons hin, List.any_cons] at hR
                have hxl := HML.out _ (List.getElem_mem hin)
                obtain ⟨x, hx⟩ : ∃ x, M[i] = x := ⟨_, rfl⟩
                rw [hx] at c0 hR hxl
                obtain ⟨d, hd⟩ : ∃ d, Hid (Ck.badT x = d) := ⟨_, Lib.hid rfl⟩
                rw [hd.out] at hR
                have HR2 := Lib.hid hR
                have HXL := Lib.hid hxl
                have HTp := Lib.hid (HT1.out.new (by rw [HZ1.out]; exact HWP.out))
                clear hx hR HR hxl
                cases d with
                | true =>
                  have HF : Hid (b = true) := Lib.hid (by rw [← HR2.out]; rfl)
                  go_wp2_with fail
                  refine (valid_any x _ HXL.out HTp.out hd).mono ?_
                  rintro r w9 ⟨rfl, p9⟩
                  have HE := Lib.hid (((HAL.out.trans ((HWP.out.trans (p9.mono (by have := HBp.out.size; have := HB2.out.size; omega))).mono (by omega)))))
                  clear p9
                  go_wp2_with fail
                  go_ret
                  exact ⟨by rw [HF.out]; rfl, HE.out⟩
                | false =>
                  have HF : Hid ((M.drop (i + 1)).any Ck.badT = b) := Lib.hid (by rw [← HR2.out]; rfl)
                  go_wp2_with fail
                  refine (valid_any x _ HXL.out HTp.out hd).mono ?_
                  rintro r w9 ⟨rfl, p9⟩
                  have HE := Lib.hid (HBp.out.trans (p9.mono HBp.out.size))
                  clear p9
                  go_wp2_with fail
                  go_roundw
                  case rel =>
                    try simp only [i0, e0, i0n, e0n]
                    exact ⟨i + 1, by omega, by go_num, HF, HE⟩
                  case measure => simp [intOf]; omega
              · have k0 : decide ((i : Int) < (M.length : Int)) = false := by rw [decide_eq_false_iff_not]; omega
                have HF : Hid (b = false) := Lib.hid (by rw [← HR.out, List.drop_eq_nil_of_le hin]; rfl)
                have HE := Lib.hid (HAL.out.trans (HWP.out.mono (by omega)))
                clear HR
                go_wp2_with fail
                go_ret
                exact ⟨by rw [HF.out]; rfl, HE.out⟩
end Go.Proofs.YtnlkmljdcmfogaaGreatDoor
namespace Go.Proofs.YtnlkmljdcmfogaaGreatDoor
open Go Go.RowKit
namespace Ck
set_option linter.unusedSimpArgs false
/-- the answer of a step, its questions told. -/
def chain (c19 c6 c20 c4 c2 c3 c5 c31 c16 : Bool) (r : Nat) : Nat :=
  if c19 then 19 else if c6 then 6 else if c20 then 20 else if c4 then 4 else if c2 then 2 else if c3 then 3 else if c5 then 5 else if c31 then 31 else if c16 then 16 else r
def exB (s : St) : Bool := s.op == 13 || s.op == 14
def prB (s : St) : Bool := s.op == 1 || s.op == 2 || s.op == 3
def baB (s : St) : Bool := (s.bare && !(s.op == 1)) || (s.bare && s.pairs.any fun p => !p.val.isEmpty)
def c20a (s : St) : Bool := !s.from_.isEmpty && !(s.op == 5)
def c20b (s : St) : Bool := !s.mode.isEmpty && !(s.op == 5) && !(s.op == 6) && !(s.op == 8)
def c20c (s : St) : Bool := s.force && !(s.op == 7)
def c4a (s : St) : Bool := !s.pairs.isEmpty && !prB s
def c4b (s : St) : Bool := !s.words.isEmpty && (prB s || exB s)
def c4c (s : St) : Bool := !s.docs.isEmpty && !(s.op == 5)
def c4d (s : St) : Bool := !s.exec.isEmpty && !exB s
def numN (s : St) : Nat := s.words.length + s.pairs.length + s.exec.length
def c31 (s : St) : Bool := !s.from_.isEmpty && !digitsR s.from_ && !stageR s.from_ && !refR s.from_
def c16 (s : St) : Bool := !s.mode.isEmpty && !modeR s.mode
theorem emp {α : Type} (l : List α) : l.isEmpty = false ↔ ¬ l = [] := by cases l <;> simp
theorem if_congr {α : Sort _} {p q : Prop} [Decidable p] [Decidable q] {x y x' y' : α} (h : p ↔ q) (hx : x = x') (hy : y = y') : (if p then x else y) = if q then x' else y' := by
  subst hx hy
  by_cases hp : p
  · rw [if_pos hp, if_pos (h.1 hp)]
  · rw [if_neg hp, if_neg (fun hq => hp (h.2 hq))]
theorem field_b (s : St) : fieldsL s = if c20a s || c20b s || c20c s then 20 else if c4a s || c4b s || c4c s || c4d s || baB s then 4 else 0 := by
  have h1 : ((s.from_ ≠ [] ∧ s.op ≠ 5) ∨ (s.mode ≠ [] ∧ s.op ≠ 5 ∧ s.op ≠ 6 ∧ s.op ≠ 8) ∨ (s.force = true ∧ s.op ≠ 7)) ↔ (c20a s || c20b s || c20c s) = true := by
    simp only [c20a, c20b, c20c, Bool.or_eq_true, Bool.and_eq_true, emp, Bool.not_eq_true', beq_eq_false_iff_ne, and_assoc, or_assoc, ne_eq]
  have h2 : ((s.pairs ≠ [] ∧ ¬ (s.op = 1 ∨ s.op = 2 ∨ s.op = 3)) ∨ (s.words ≠ [] ∧ (s.op = 1 ∨ s.op = 2 ∨ s.op = 3 ∨ s.op = 13 ∨ s.op = 14)) ∨ (s.docs ≠ [] ∧ s.op ≠ 5) ∨ (s.exec ≠ [] ∧ ¬ (s.op = 13 ∨ s.op = 14)) ∨ (s.bare = true ∧ s.op ≠ 1) ∨ (s.bare = true ∧ ∃ p ∈ s.pairs, p.val ≠ [])) ↔ (c4a s || c4b s || c4c s || c4d s || baB s) = true := by
    simp only [c4a, c4b, c4c, c4d, baB, prB, exB, Bool.or_eq_true, Bool.and_eq_true, emp, Bool.not_eq_true', beq_eq_false_iff_ne, beq_iff_eq, Bool.or_eq_false_iff, and_assoc, or_assoc, ne_eq, not_or, List.any_eq_true]
  unfold fieldsL
  rw [if_congr h1 rfl (if_congr h2 rfl rfl)]
theorem number_b (s : St) : numbersL s = if decide (numN s < least s.op) then 2 else if decide (most s.op < numN s) && decide (most s.op < 64) then 3 else if decide (most s.op < numN s) then 5 else if c31 s then 31 else if c16 s then 16 else 0 := by
  have h1 : (s.from_ ≠ [] ∧ digitsR s.from_ = false ∧ stageR s.from_ = false ∧ refR s.from_ = false) ↔ c31 s = true := by
    simp only [c31, Bool.and_eq_true, emp, Bool.not_eq_true', and_assoc]
  have h2 : (s.mode ≠ [] ∧ modeR s.mode = false) ↔ c16 s = true := by
    simp only [c16, Bool.and_eq_true, emp, Bool.not_eq_true']
  unfold numbersL
  dsimp only
  exact if_congr (by rw [decide_eq_true_eq]; exact Iff.rfl) rfl (if_congr (by rw [Bool.and_eq_true, decide_eq_true_eq, decide_eq_true_eq]; exact Iff.rfl) rfl (if_congr (by rw [decide_eq_true_eq]; exact Iff.rfl) rfl (if_congr h1 rfl (if_congr h2 rfl rfl))))
theorem least_b (op : Int) : least op = if op == 9 || op == 5 || op == 6 || op == 10 then 2 else if op == 13 || op == 14 then 0 else 1 := by
  unfold least
  simp only [Bool.or_eq_true, beq_iff_eq, or_assoc]
theorem open_pre (w : List UInt8) : ([60, 60] : List UInt8).isPrefixOf w = Ck.opening w := by
  unfold Ck.opening
  rcases w with _ | ⟨a, _ | ⟨b, t⟩⟩
  · rfl
  · simp [List.isPrefixOf]
  · simp [List.isPrefixOf, Bool.beq_comm]
def bodyW (e : UInt8) (ds0 : List Lx.Dc) : Nat ⊕ List Lx.Dc → Nat
  | .inl z => z
  | .inr (_ :: _) => 26
  | .inr [] => docsL e ds0
theorem bodyL_eq (s : St) (e : UInt8) : bodyL s e = bodyW e s.docs (wordsL s.op e s.words s.docs) := by
  unfold bodyL
  rcases wordsL s.op e s.words s.docs with z | _ | ⟨d, r⟩ <;> rfl
section
variable {op : Int} {e : UInt8} {w : List UInt8} {r : List (List UInt8)} {ds : List Lx.Dc}
theorem wordsL_plain (h : op ≠ 5 ∨ opening w = false) : wordsL op e (w :: r) ds = if wordL e w ≠ 0 then .inl (wordL e w) else wordsL op e r ds := by
  conv => lhs; unfold wordsL
  rw [if_pos h]
theorem wordsL_last (h : op = 5) (h2 : opening w = true) (hr : r = []) : wordsL op e (w :: r) ds = .inl 4 := by
  conv => lhs; unfold wordsL
  rw [if_neg (by rintro (h3 | h3); exact h3 h; rw [h2] at h3; cases h3), if_pos hr]
theorem wordsL_hit (h : op = 5) (h2 : opening w = true) (hr : r ≠ []) {t : List UInt8} {q : Bool} {d : Lx.Dc} (ho : opensL (w.drop 2) = some (t, q)) (h3 : d.name = t) (h4 : d.raw = q) : wordsL op e (w :: r) (d :: ds) = wordsL op e r ds := by
  conv => lhs; unfold wordsL
  rw [if_neg (by rintro (h3 | h3); exact h3 h; rw [h2] at h3; cases h3), if_neg hr, ho]
  show (if d.name = t ∧ d.raw = q then _ else _) = _
  rw [if_pos (And.intro h3 h4)]
theorem wordsL_none (h : op = 5) (h2 : opening w = true) (hr : r ≠ []) (ho : opensL (w.drop 2) = none) : wordsL op e (w :: r) ds = .inl 26 := by
  conv => lhs; unfold wordsL
  rw [if_neg (by rintro (h3 | h3); exact h3 h; rw [h2] at h3; cases h3), if_neg hr, ho]
theorem wordsL_empty (h : op = 5) (h2 : opening w = true) (hr : r ≠ []) : wordsL op e (w :: r) [] = .inl 26 := by
  conv => lhs; unfold wordsL
  rw [if_neg (by rintro (h3 | h3); exact h3 h; rw [h2] at h3; cases h3), if_neg hr]
  cases opensL (w.drop 2) <;> rfl
theorem wordsL_miss (h : op = 5) (h2 : opening w = true) (hr : r ≠ []) {t : List UInt8} {q : Bool} {d : Lx.Dc} (ho : opensL (w.drop 2) = some (t, q)) (h3 : ¬ (d.name = t ∧ d.raw = q)) : wordsL op e (w :: r) (d :: ds) = .inl 26 := by
  conv => lhs; unfold wordsL
  rw [if_neg (by rintro (h3 | h3); exact h3 h; rw [h2] at h3; cases h3), if_neg hr, ho]
  show (if d.name = t ∧ d.raw = q then _ else _) = _
  rw [if_neg h3]
end
theorem stepL_chain (s : St) (e : UInt8) : stepL s e = chain (decide (s.op < 1) || decide (14 < s.op)) ((textsL s).any badT) (c20a s || c20b s || c20c s) (c4a s || c4b s || c4c s || c4d s || baB s) (decide (numN s < least s.op)) (decide (most s.op < numN s) && decide (most s.op < 64)) (decide (most s.op < numN s)) (c31 s) (c16 s) (if pairsL s.op e s.pairs ≠ 0 then pairsL s.op e s.pairs else bodyL s e) := by
  unfold stepL
  rw [field_b, number_b]
  have h1 : (s.op < 1 ∨ 14 < s.op) ↔ (decide (s.op < 1) || decide (14 < s.op)) = true := by simp only [Bool.or_eq_true, decide_eq_true_eq]
  rw [if_congr h1 rfl rfl]
  obtain ⟨a, ha⟩ : ∃ b, (decide (s.op < 1) || decide (14 < s.op)) = b := ⟨_, rfl⟩
  obtain ⟨b, hb⟩ : ∃ b, (textsL s).any badT = b := ⟨_, rfl⟩
  obtain ⟨c, hc⟩ : ∃ b, (c20a s || c20b s || c20c s) = b := ⟨_, rfl⟩
  obtain ⟨d, hd⟩ : ∃ b, (c4a s || c4b s || c4c s || c4d s || baB s) = b := ⟨_, rfl⟩
  obtain ⟨f, hf⟩ : ∃ b, decide (numN s < least s.op) = b := ⟨_, rfl⟩
  obtain ⟨g, hg⟩ : ∃ b, (decide (most s.op < numN s) && decide (most s.op < 64)) = b := ⟨_, rfl⟩
  obtain ⟨h, hh⟩ : ∃ b, decide (most s.op < numN s) = b := ⟨_, rfl⟩
  rw [ha, hb, hc, hd, hf, hg, hh]
  unfold chain
  cases a <;> try rfl
  cases b <;> try rfl
  cases c <;> try rfl
  cases d <;> try rfl
  cases f <;> try rfl
  cases g <;> try rfl
  cases h <;> try rfl
  cases c31 s <;> try rfl
  cases c16 s <;> rfl
end Ck
end Go.Proofs.YtnlkmljdcmfogaaGreatDoor
namespace Go.Proofs.YtnlkmljdcmfogaaGreatDoor
open Go Go.RowKit
theorem docKd : ElemK Tryz.prog 98 238 (.agg #[.string ⟨#[]⟩, .bool false, .int .i64 0, .string ⟨#[]⟩]) 4 48 := ⟨Tryz.underlying98, by kernel_rfl, rfl, by decide⟩
theorem elem_dc : Tryz.prog.underlying 98 = some (.slice (Tryz.prog.elem 98)) := by simp [Program.elem, Tryz.underlying98]
theorem elem_dce : Tryz.prog.elem 98 = 238 := by simp [Program.elem, Tryz.underlying98]
theorem size_dc : ∀ w, (Go.sizeOf 238).run Tryz.prog w = .ok 4 w := by
  obtain ⟨i, hi, _⟩ := info_parts docKd.hi
  intro w
  rw [run_sizeOf w hi]
  rw [show Tryz.prog.cellsOf 238 = 4 by kernel_rfl]
theorem doc_tail {w : World} {A : Option Addr} {c : Nat} {d : Lx.Dc} {r : List Lx.Dc} (h : SlA w (.slice A (d :: r).length c) (d :: r).length (doC (d :: r))) (hc : (d :: r).length ≤ c) :
    ∃ A', (∀ wx, (Instr.slice 98 (.slice A (r.length + 1) c) (some (.int .i64 1)) none none).run Tryz.prog wx = .ok (.slice A' r.length (c - 1)) wx) ∧ SlA w (.slice A' r.length (c - 1)) r.length (doC r) ∧ r.length ≤ c - 1 := by
  rcases h with ⟨_, h0, _⟩ | ⟨g, o, c', hv, hcell⟩
  · cases h0
  · injection hv with hA _ hc'
    subst hA hc'
    have hl : (d :: r).length = r.length + 1 := rfl
    rw [hl] at hc
    by_cases h1 : c = 1
    · have hr : r = [] := List.eq_nil_of_length_eq_zero (by omega)
      subst hr h1
      refine ⟨some ⟨g, o, none⟩, fun wx => ?_, .inr ⟨g, o, _, rfl, fun j u hu => by simp [doC] at hu⟩, Nat.zero_le _⟩
      rw [run_slice_l wx 98 _ _ _ elem_dc .i64 _ (by omega) (by simp), elem_dce, size_dc]
      simp [Result.andThen, sliced]
    · refine ⟨some ⟨g, o + 4, none⟩, fun wx => ?_, .inr ⟨g, o + 4, _, rfl, fun j u hu => ?_⟩, by omega⟩
      · rw [run_slice_l wx 98 _ _ _ elem_dc .i64 _ (by omega) (by omega), elem_dce, size_dc]
        simp [Result.andThen, sliced, Addr.add, h1]
      · rw [Nat.add_assoc]
        refine hcell _ _ ?_
        rw [doC, List.flatMap_cons, List.getElem?_append_right (by show 4 ≤ 4 + j; omega)]
        show (r.flatMap doL)[4 + j - 4]? = some u
        rw [Nat.add_sub_cancel_left]
        exact hu
end Go.Proofs.YtnlkmljdcmfogaaGreatDoor
