/- stratakit.KeptLine, walked. -/
import Derived.Test.YtpgnfianffjpnaaGreatDoorKeptM
import Derived.Test.YtpgnfianffjpnaaGreatDoorKeptD
namespace Go.Proofs.YtpgnfianffjpnaaGreatDoor
open Go Go.RowKit
set_option maxRecDepth 100000 in
set_option maxHeartbeats 1000000 in
theorem keptLine_any (ln : Lx.Ln) (gm cm gd cd : Nat) (Am Ad : Option Addr) (km kd : Nat) (w : World) {b1 b2 : Nat}
    (hom : w.ownsRow b1 136 3 (.slice (some ⟨gm, 0, none⟩) (ln.marks.length + 16) cm) (ln.marks.length + 16) (mkC (ln.marks ++ marksM 16))) (hcm : ln.marks.length + 16 ≤ cm)
    (hod : w.ownsRow b2 83 4 (.slice (some ⟨gd, 0, none⟩) (ln.docs.length + 16) cd) (ln.docs.length + 16) (dcC (ln.docs ++ marksD 16))) (hcd : ln.docs.length + 16 ≤ cd)
    (hRm : RdRow w (.slice Am ln.marks.length km) ln.marks.length (mkC ln.marks)) (hRd : RdRow w (.slice Ad ln.docs.length kd) ln.docs.length (dcC ln.docs)) (hn : ln.marks.length ≤ 1100000) (hn2 : ln.docs.length ≤ 1100000) :
    Calls Tryz.prog 19 #[.agg #[.int .i64 ln.line, .string (bs ln.text), .slice (some ⟨gm, 0, none⟩) ln.marks.length cm, .slice (some ⟨gd, 0, none⟩) ln.docs.length cd], .agg #[.int .i64 ln.line, .string (bs ln.text), .slice Am ln.marks.length km, .slice Ad ln.docs.length kd]] w fun e w' => e = .returned (.bool true) ∧ Below w.heap.size w w' := by
  have t1 : (ln.line == ln.line) = true := by simp
  have t2 : ((bs ln.text).toList == (bs ln.text).toList) = true := by simp
  have hBa := (Below.refl w.heap.size w).alloc (Nat.le_refl _) (.cells #[.int .i64 ln.line, .string (bs ln.text), .slice (some ⟨gm, 0, none⟩) ln.marks.length cm, .slice (some ⟨gd, 0, none⟩) ln.docs.length cd] 64)
  have hKa := Blk.new w 64 #[.int .i64 ln.line, .string (bs ln.text), .slice (some ⟨gm, 0, none⟩) ln.marks.length cm, .slice (some ⟨gd, 0, none⟩) ln.docs.length cd]
  obtain ⟨wA, hwA⟩ : ∃ wA, w.alloc (.cells #[.int .i64 ln.line, .string (bs ln.text), .slice (some ⟨gm, 0, none⟩) ln.marks.length cm, .slice (some ⟨gd, 0, none⟩) ln.docs.length cd] 64) = wA := ⟨_, rfl⟩
  rw [hwA] at hBa hKa
  have hBb := hBa.alloc hBa.size (.cells #[.int .i64 ln.line, .string (bs ln.text), .slice Am ln.marks.length km, .slice Ad ln.docs.length kd] 64)
  have hKb := Blk.new wA 64 #[.int .i64 ln.line, .string (bs ln.text), .slice Am ln.marks.length km, .slice Ad ln.docs.length kd]
  have hKa2 := hKa.below ((Below.refl wA.heap.size wA).alloc (Nat.le_refl _) (.cells #[.int .i64 ln.line, .string (bs ln.text), .slice Am ln.marks.length km, .slice Ad ln.docs.length kd] 64)) hKa.lt
  have hsz : wA.heap.size = w.heap.size + 1 := by rw [← hwA]; exact World.size_alloc w _
  obtain ⟨wB, hwB⟩ : ∃ wB, wA.alloc (.cells #[.int .i64 ln.line, .string (bs ln.text), .slice Am ln.marks.length km, .slice Ad ln.docs.length kd] 64) = wB := ⟨_, rfl⟩
  rw [hwB] at hBb hKb hKa2
  rw [hsz] at hKb
  have HWA := Lib.hid hwA
  have HWB := Lib.hid hwB
  have HOM := Lib.hid (own_below hom hBb)
  have HOD := Lib.hid (own_below hod hBb)
  have HRM := Lib.hid (hRm.new hBb)
  have HRD := Lib.hid (hRd.new hBb)
  have HBB := Lib.hid hBb
  have hla := hKa2.lt
  have hlb := hKb.lt
  have HKA := Lib.hid hKa2
  have HKB := Lib.hid hKb
  clear hom hod hRm hRd hBa hKa hBb hKb hKa2 hwA hwB hsz
  go_enter Tryz.func19, Tryz.ntmps19
  go_upto_region 1 with fail
  rw [HWA.out]
  rw [HWB.out]
  have a0 : wB.cell? ⟨w.heap.size, 0, none⟩ = some (.int .i64 ln.line) := HKA.out.cell 0
  have a1 : wB.cell? ⟨w.heap.size, 1, none⟩ = some (.string (bs ln.text)) := HKA.out.cell 1
  have a2 : wB.cell? ⟨w.heap.size, 2, none⟩ = some (.slice (some ⟨gm, 0, none⟩) ln.marks.length cm) := HKA.out.cell 2
  have a3 : wB.cell? ⟨w.heap.size, 3, none⟩ = some (.slice (some ⟨gd, 0, none⟩) ln.docs.length cd) := HKA.out.cell 3
  have c0 : wB.cell? ⟨w.heap.size + 1, 0, none⟩ = some (.int .i64 ln.line) := HKB.out.cell 0
  have c1 : wB.cell? ⟨w.heap.size + 1, 1, none⟩ = some (.string (bs ln.text)) := HKB.out.cell 1
  have c2 : wB.cell? ⟨w.heap.size + 1, 2, none⟩ = some (.slice Am ln.marks.length km) := HKB.out.cell 2
  have c3 : wB.cell? ⟨w.heap.size + 1, 3, none⟩ = some (.slice Ad ln.docs.length kd) := HKB.out.cell 3
  go_wp2_with fail
  refine (keptM_any ln.marks gm cm Am km _ HOM.out hcm HRM.out hn).mono ?_
  rintro e w1 ⟨rfl, p1⟩
  have hB1 := below_of_below HBB.out p1 HBB.out.size
  have a3' : w1.cell? ⟨w.heap.size, 3, none⟩ = some (.slice (some ⟨gd, 0, none⟩) ln.docs.length cd) := (p1.cell (p := ⟨w.heap.size, 3, none⟩) hla).trans a3
  have c3' : w1.cell? ⟨w.heap.size + 1, 3, none⟩ = some (.slice Ad ln.docs.length kd) := (p1.cell (p := ⟨w.heap.size + 1, 3, none⟩) hlb).trans c3
  go_wp2_with fail
  refine (keptD_any ln.docs gd cd Ad kd _ (own_below HOD.out p1) hcd (HRD.out.new p1) hn2).mono ?_
  rintro e w2 ⟨rfl, p2⟩
  go_wp2_with fail
  go_ret
  exact ⟨rfl, below_of_below hB1 p2 hB1.size⟩
end Go.Proofs.YtpgnfianffjpnaaGreatDoor
