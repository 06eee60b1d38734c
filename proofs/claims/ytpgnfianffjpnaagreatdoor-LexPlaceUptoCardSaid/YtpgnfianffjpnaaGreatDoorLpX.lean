/- stratalaw14.LexPlace: the law. -/
import Derived.Test.YtpgnfianffjpnaaGreatDoorLpK
import Derived.Test.YtpgnfianffjpnaaGreatDoorLpL
import Derived.Test.YtpgnfianffjpnaaGreatDoorLrJ
import Derived.Test.YtpgnfianffjpnaaGreatDoorLwA
namespace Go.Proofs.YtpgnfianffjpnaaGreatDoor
open Go Go.RowKit
theorem RdRow.pre {w : World} {A : Option Addr} {m n c : Nat} {xs ys : List Value} (h : RdRow w (.slice A m c) m xs) (hp : ∀ (j : Nat) (u : Value), ys[j]? = some u → xs[j]? = some u) : RdRow w (.slice A n c) n ys := by
  obtain ⟨A', c', e, hc⟩ := h
  injection e with e1 _ e3
  subst e1 e3
  exact ⟨A, c, rfl, fun j u hu => hc j u (hp j u hu)⟩
theorem mkC_pre (a b : List Lx.Mk) : ∀ (j : Nat) (u : Value), (mkC a)[j]? = some u → (mkC (a ++ b))[j]? = some u := fun j u h => by
  have e : mkC (a ++ b) = mkC a ++ mkC b := by simp [mkC]
  have hj := (List.getElem?_eq_some_iff.1 h).1
  rw [e, List.getElem?_append_left hj]
  exact h
set_option maxRecDepth 100000 in
set_option maxHeartbeats 1000000 in
theorem lawPlace (ln : Lx.Ln) (Am Ad : Option Addr) (km kd : Nat) (at_ : Int) (w : World)
    (hRm : RdRow w (.slice Am ln.marks.length km) ln.marks.length (mkC ln.marks)) (hRd : RdRow w (.slice Ad ln.docs.length kd) ln.docs.length (dcC ln.docs)) (ht : ln.text.length ≤ 1000000000) (hn : ln.marks.length ≤ 1000000) (hn2 : ln.docs.length ≤ 1000000) (_ : -9223372036854775808 ≤ at_) (_ : at_ ≤ 9223372036854775807) (hT : Tabs w) (hv : ErrVar w) (hm : Maxl w) :
    Calls Tryz.prog 4 #[.agg #[.int .i64 ln.line, .string (bs ln.text), .slice Am ln.marks.length km, .slice Ad ln.docs.length kd], .int .i64 at_] w fun e w' => e = .returned (.bool true) ∧ Below w.heap.size w w' := by
  obtain ⟨RES, hRES⟩ : ∃ R, Hid (Lx.placeL ln at_ = R) := ⟨_, Lib.hid rfl⟩
  have t1 : (RES.1 == RES.1) = true := by simp
  have t2 : (RES.2 == RES.2) = true := by simp
  have hBa := (Below.refl w.heap.size w).alloc (Nat.le_refl _) (.cells #[.int .i64 ln.line, .string (bs ln.text), .slice Am ln.marks.length km, .slice Ad ln.docs.length kd] 64)
  have hKa := Blk.new w 64 #[.int .i64 ln.line, .string (bs ln.text), .slice Am ln.marks.length km, .slice Ad ln.docs.length kd]
  obtain ⟨wA, hwA⟩ : ∃ wA, w.alloc (.cells #[.int .i64 ln.line, .string (bs ln.text), .slice Am ln.marks.length km, .slice Ad ln.docs.length kd] 64) = wA := ⟨_, rfl⟩
  rw [hwA] at hBa hKa
  have HWA := Lib.hid hwA
  have HBA := Lib.hid hBa
  have HKA := Lib.hid hKa
  have hla := hKa.lt
  have HRM := Lib.hid hRm
  have HRD := Lib.hid hRd
  have HT := Lib.hid hT
  have HV := Lib.hid hv
  have HM := Lib.hid hm
  clear hT hv hm hRm hRd hBa hKa hwA
  go_enter Tryz.func4, Tryz.ntmps4
  go_upto_region 1 with fail
  rw [HWA.out]
  have a0 : wA.cell? ⟨w.heap.size, 0, none⟩ = some (.int .i64 ln.line) := HKA.out.cell 0
  have a1 : wA.cell? ⟨w.heap.size, 1, none⟩ = some (.string (bs ln.text)) := HKA.out.cell 1
  have a2 : wA.cell? ⟨w.heap.size, 2, none⟩ = some (.slice Am ln.marks.length km) := HKA.out.cell 2
  have a3 : wA.cell? ⟨w.heap.size, 3, none⟩ = some (.slice Ad ln.docs.length kd) := HKA.out.cell 3
  go_upto_region 2 with ((go_at_call 16; refine (place14_any ln (.slice Am ln.marks.length km) (.slice Ad ln.docs.length kd) at_ _ (HRM.out.new HBA.out) ht hn hRES).mono ?_; rintro e w1 ⟨rfl, p1⟩))
  have hB1 := below_of_below HBA.out p1 HBA.out.size
  have hK1 := HKA.out.below p1 hla
  clear a0 a1 a2 a3
  have a0 : w1.cell? ⟨w.heap.size, 0, none⟩ = some (.int .i64 ln.line) := hK1.cell 0
  have a1 : w1.cell? ⟨w.heap.size, 1, none⟩ = some (.string (bs ln.text)) := hK1.cell 1
  have a2 : w1.cell? ⟨w.heap.size, 2, none⟩ = some (.slice Am ln.marks.length km) := hK1.cell 2
  have a3 : w1.cell? ⟨w.heap.size, 3, none⟩ = some (.slice Ad ln.docs.length kd) := hK1.cell 3
  go_upto_region 3 with ((go_at_call 17; refine (lentLine_any ln Am Ad km kd _ (HRM.out.new hB1) (HRD.out.new hB1) (by omega) (by omega)).mono ?_; rintro e w2 ⟨⟨gm, cm, gd, cd, rfl, hcm, hcd, hom, hod⟩, p2⟩))
  have hB2 := below_of_below hB1 p2 hB1.size
  have hK2 := hK1.below p2 hK1.lt
  have p3 := (Below.refl w2.heap.size w2).alloc (Nat.le_refl _) (.cells #[.int .i64 ln.line, .string (bs ln.text), .slice (some ⟨gm, 0, none⟩) ln.marks.length cm, .slice (some ⟨gd, 0, none⟩) ln.docs.length cd] 64)
  have hL3 := Blk.new w2 64 #[.int .i64 ln.line, .string (bs ln.text), .slice (some ⟨gm, 0, none⟩) ln.marks.length cm, .slice (some ⟨gd, 0, none⟩) ln.docs.length cd]
  obtain ⟨g7, hg7⟩ : ∃ g, w2.heap.size = g := ⟨_, rfl⟩
  obtain ⟨w3, hw3⟩ : ∃ w3, w2.alloc (.cells #[.int .i64 ln.line, .string (bs ln.text), .slice (some ⟨gm, 0, none⟩) ln.marks.length cm, .slice (some ⟨gd, 0, none⟩) ln.docs.length cd] 64) = w3 := ⟨_, rfl⟩
  rw [hw3] at p3 hL3
  rw [hw3, hg7]
  rw [hg7] at hL3
  have hB3 := below_of_below hB2 p3 hB2.size
  have hK3 := hK2.below p3 hK2.lt
  have hom3 := own_below hom p3
  have hod3 := own_below hod p3
  have HOM := Lib.hid hom3
  have HOD := Lib.hid hod3
  have HK3 := Lib.hid hK3
  have HL3 := Lib.hid hL3
  clear a0 a1 a2 a3 hw3 hom hod hom3 hod3 hg7
  have b0 : w3.cell? ⟨g7, 0, none⟩ = some (.int .i64 ln.line) := HL3.out.cell 0
  have b1 : w3.cell? ⟨g7, 1, none⟩ = some (.string (bs ln.text)) := HL3.out.cell 1
  have b2 : w3.cell? ⟨g7, 2, none⟩ = some (.slice (some ⟨gm, 0, none⟩) ln.marks.length cm) := HL3.out.cell 2
  have b3 : w3.cell? ⟨g7, 3, none⟩ = some (.slice (some ⟨gd, 0, none⟩) ln.docs.length cd) := HL3.out.cell 3
  have HRX : Hid (RdRow w3 (.slice (some ⟨gm, 0, none⟩) ln.marks.length cm) ln.marks.length (mkC ln.marks)) := Lib.hid (RdRow.pre (RdRow.own HOM.out) (mkC_pre _ _))
  go_upto_region 4 with ((go_at_call 18; refine (place_any ln (.slice (some ⟨gm, 0, none⟩) ln.marks.length cm) (.slice (some ⟨gd, 0, none⟩) ln.docs.length cd) at_ _ HRX.out ht hn hRES).mono ?_; rintro e w4 ⟨rfl, p4⟩))
  have hB4 := below_of_below hB3 p4 hB3.size
  have hK4 := HK3.out.below p4 hK3.lt
  have hL4 := HL3.out.below p4 hL3.lt
  have HOM4 := Lib.hid (own_below HOM.out p4)
  have HOD4 := Lib.hid (own_below HOD.out p4)
  clear b0 b1 b2 b3 hK3 hL3
  have a0 : w4.cell? ⟨w.heap.size, 0, none⟩ = some (.int .i64 ln.line) := hK4.cell 0
  have a1 : w4.cell? ⟨w.heap.size, 1, none⟩ = some (.string (bs ln.text)) := hK4.cell 1
  have a2 : w4.cell? ⟨w.heap.size, 2, none⟩ = some (.slice Am ln.marks.length km) := hK4.cell 2
  have a3 : w4.cell? ⟨w.heap.size, 3, none⟩ = some (.slice Ad ln.docs.length kd) := hK4.cell 3
  have b0 : w4.cell? ⟨g7, 0, none⟩ = some (.int .i64 ln.line) := hL4.cell 0
  have b1 : w4.cell? ⟨g7, 1, none⟩ = some (.string (bs ln.text)) := hL4.cell 1
  have b2 : w4.cell? ⟨g7, 2, none⟩ = some (.slice (some ⟨gm, 0, none⟩) ln.marks.length cm) := hL4.cell 2
  have b3 : w4.cell? ⟨g7, 3, none⟩ = some (.slice (some ⟨gd, 0, none⟩) ln.docs.length cd) := hL4.cell 3
  go_wp2_with fail
  refine (keptLine_any ln gm cm gd cd Am Ad km kd _ HOM4.out hcm HOD4.out hcd (HRM.out.new hB4) (HRD.out.new hB4) (by omega) (by omega)).mono ?_
  rintro e w5 ⟨rfl, p5⟩
  have hB5 := below_of_below hB4 p5 hB4.size
  go_wp2_with fail
  refine (works_any _ (HT.out.new hB5) (HV.out.below hB5 HV.out.lt) (HM.out.grow hB5)).mono ?_
  rintro e w6 ⟨rfl, p6⟩
  go_wp2_with fail
  go_ret
  exact ⟨rfl, below_of_below hB5 p6 hB5.size⟩
end Go.Proofs.YtpgnfianffjpnaaGreatDoor
