/- stratakit.LentLine, walked. -/
import Derived.Test.YtpgnfianffjpnaaGreatDoorLentM
import Derived.Test.YtpgnfianffjpnaaGreatDoorLentD
namespace Go.Proofs.YtpgnfianffjpnaaGreatDoor
open Go Go.RowKit
/-- what LentLine answers. -/
def LentAns (ln : Lx.Ln) (w w' : World) (e : Ending) : Prop := ∃ gm cm gd cd, e = .returned (.agg #[.int .i64 ln.line, .string (bs ln.text), .slice (some ⟨gm, 0, none⟩) ln.marks.length cm, .slice (some ⟨gd, 0, none⟩) ln.docs.length cd]) ∧
  ln.marks.length + 16 ≤ cm ∧ ln.docs.length + 16 ≤ cd ∧
  w'.ownsRow w.heap.size 136 3 (.slice (some ⟨gm, 0, none⟩) (ln.marks.length + 16) cm) (ln.marks.length + 16) (mkC (ln.marks ++ marksM 16)) ∧
  w'.ownsRow w.heap.size 83 4 (.slice (some ⟨gd, 0, none⟩) (ln.docs.length + 16) cd) (ln.docs.length + 16) (dcC (ln.docs ++ marksD 16))
theorem own_weak {w : World} {b b' k n : Nat} {e : TypeId} {v : Value} {xs : List Value} (h : w.ownsRow b e k v n xs) (hb : b' ≤ b) : w.ownsRow b' e k v n xs := by
  refine ⟨h.1, ?_⟩
  rcases h.2 with h1 | ⟨g, cap, cur, h1, h2, h3⟩
  · exact .inl h1
  · exact .inr ⟨g, cap, cur, h1, Nat.le_trans hb h2, h3⟩
set_option maxRecDepth 100000 in
set_option maxHeartbeats 1000000 in
theorem lentLine_any (ln : Lx.Ln) (Am Ad : Option Addr) (km kd : Nat) (w : World)
    (hRm : RdRow w (.slice Am ln.marks.length km) ln.marks.length (mkC ln.marks)) (hRd : RdRow w (.slice Ad ln.docs.length kd) ln.docs.length (dcC ln.docs)) (hn : ln.marks.length ≤ 1100000) (hn2 : ln.docs.length ≤ 1100000) :
    Calls Tryz.prog 17 #[.agg #[.int .i64 ln.line, .string (bs ln.text), .slice Am ln.marks.length km, .slice Ad ln.docs.length kd]] w fun e w' => LentAns ln w w' e ∧ Below w.heap.size w w' := by
  have hBa := (Below.refl w.heap.size w).alloc (Nat.le_refl _) (.cells #[.int .i64 ln.line, .string (bs ln.text), .slice Am ln.marks.length km, .slice Ad ln.docs.length kd] 64)
  have hKa := Blk.new w 64 #[.int .i64 ln.line, .string (bs ln.text), .slice Am ln.marks.length km, .slice Ad ln.docs.length kd]
  have hsA := World.size_alloc w (.cells #[.int .i64 ln.line, .string (bs ln.text), .slice Am ln.marks.length km, .slice Ad ln.docs.length kd] 64)
  obtain ⟨wA, hwA⟩ : ∃ wA, w.alloc (.cells #[.int .i64 ln.line, .string (bs ln.text), .slice Am ln.marks.length km, .slice Ad ln.docs.length kd] 64) = wA := ⟨_, rfl⟩
  rw [hwA] at hBa hKa hsA
  have hBb := hBa.alloc hBa.size (.cells #[.int .i64 0, .string ⟨#[]⟩, .slice none 0 0, .slice none 0 0] 64)
  have hKb := Blk.new wA 64 #[.int .i64 0, .string ⟨#[]⟩, .slice none 0 0, .slice none 0 0]
  have hKa2 := hKa.below ((Below.refl wA.heap.size wA).alloc (Nat.le_refl _) (.cells #[.int .i64 0, .string ⟨#[]⟩, .slice none 0 0, .slice none 0 0] 64)) hKa.lt
  have hsB := World.size_alloc wA (.cells #[.int .i64 0, .string ⟨#[]⟩, .slice none 0 0, .slice none 0 0] 64)
  obtain ⟨wB, hwB⟩ : ∃ wB, wA.alloc (.cells #[.int .i64 0, .string ⟨#[]⟩, .slice none 0 0, .slice none 0 0] 64) = wB := ⟨_, rfl⟩
  rw [hwB] at hBb hKb hKa2 hsB
  have hBc := hBb.alloc hBb.size (.cells #[.int .i64 ln.line, .string (bs ln.text), .slice Am ln.marks.length km, .slice Ad ln.docs.length kd] 64)
  have hKc := Blk.new wB 64 #[.int .i64 ln.line, .string (bs ln.text), .slice Am ln.marks.length km, .slice Ad ln.docs.length kd]
  have hbc := (Below.refl wB.heap.size wB).alloc (Nat.le_refl _) (.cells #[.int .i64 ln.line, .string (bs ln.text), .slice Am ln.marks.length km, .slice Ad ln.docs.length kd] 64)
  have hKa3 := hKa2.below hbc hKa2.lt
  have hKb3 := hKb.below hbc hKb.lt
  obtain ⟨wC, hwC⟩ : ∃ wC, wB.alloc (.cells #[.int .i64 ln.line, .string (bs ln.text), .slice Am ln.marks.length km, .slice Ad ln.docs.length kd] 64) = wC := ⟨_, rfl⟩
  rw [hwC] at hBc hKc hKa3 hKb3
  obtain ⟨g3, hg3⟩ : ∃ g3, wB.heap.size = g3 := ⟨_, rfl⟩
  have hgv : g3 = w.heap.size + 2 := by rw [← hg3, hsB, hsA]
  rw [hg3] at hKc
  rw [hsA] at hKb3
  have HWA := Lib.hid hwA
  have HWB := Lib.hid hwB
  have HWC := Lib.hid hwC
  have HRM := Lib.hid (hRm.new hBc)
  have HRD := Lib.hid hRd
  have HBC := Lib.hid hBc
  have hla := hKa3.lt
  have hlb := hKb3.lt
  have hlc := hKc.lt
  have HG3 := Lib.hid hg3
  have HGV := Lib.hid hgv
  have hgl : w.heap.size + 1 < g3 := by omega
  have HA2 := Lib.hid hKa2
  have HKA := Lib.hid hKa3
  have HKB := Lib.hid hKb3
  have HKC := Lib.hid hKc
  clear hRm hRd hBa hKa hBb hKb hKa2 hwA hwB hwC hBc hKc hbc hKa3 hKb3 hsA hsB hg3 hgv
  go_enter Tryz.func17, Tryz.ntmps17
  go_upto_region 1 with fail
  rw [HWA.out]
  rw [HWB.out]
  have a0 : wB.cell? ⟨w.heap.size, 0, none⟩ = some (.int .i64 ln.line) := HA2.out.cell 0
  have a1 : wB.cell? ⟨w.heap.size, 1, none⟩ = some (.string (bs ln.text)) := HA2.out.cell 1
  have a2 : wB.cell? ⟨w.heap.size, 2, none⟩ = some (.slice Am ln.marks.length km) := HA2.out.cell 2
  have a3 : wB.cell? ⟨w.heap.size, 3, none⟩ = some (.slice Ad ln.docs.length kd) := HA2.out.cell 3
  go_upto_region 2 with fail
  rw [HWC.out, HG3.out]
  clear a0 a1 a2 a3
  have a2 : wC.cell? ⟨w.heap.size, 2, none⟩ = some (.slice Am ln.marks.length km) := HKA.out.cell 2
  go_upto_region 3 with ((go_at_call 72; refine (lentM_any ln.marks Am km _ HRM.out hn).mono ?_; rintro e w1 ⟨⟨gm, cm, rfl, hcm, hom⟩, p1⟩; have hC1 := HKC.out.below p1 hlc; have f2 := hC1.cell 2; have z2 := hC1.frozen 2))
  have hB1 := below_of_below HBC.out p1 HBC.out.size
  have hs1 := p1.size
  have hA1 := HKA.out.below p1 hla
  have hK1 := HKB.out.below p1 hlb
  have hC2 := hC1.set_ 2 (.slice (some ⟨gm, 0, none⟩) ln.marks.length cm)
  have hF := Fx.set w1 g3 2 (.slice (some ⟨gm, 0, none⟩) ln.marks.length cm)
  have hA2 := hF.blk hA1 (by omega)
  have hK2 := hF.blk hK1 (by omega)
  have hB2 := hB1.grown (setCell_grown w1 ⟨g3, 2, none⟩ (.slice (some ⟨gm, 0, none⟩) ln.marks.length cm)) hB1.size (fun k e => by cases e; simp only; omega)
  obtain ⟨w2, hw2⟩ : ∃ w2, w1.setCell ⟨g3, 2, none⟩ (.slice (some ⟨gm, 0, none⟩) ln.marks.length cm) = w2 := ⟨_, rfl⟩
  rw [hw2] at hC2 hA2 hK2 hB2 hF
  rw [hw2]
  have hgm : wC.heap.size ≤ gm := by
    rcases hom.2 with ⟨h, _⟩ | ⟨g, _, _, h, hb, _⟩
    · cases h
    · injection h with h; injection h with h; injection h with h; omega
  have hom2 := hF.own hom (fun g e (h : g = g3) => by have e2 : gm = g := Option.some.inj e; omega)
  have hs2 := hF.size
  have a3 : w2.cell? ⟨w.heap.size, 3, none⟩ = some (.slice Ad ln.docs.length kd) := hA2.cell 3
  clear a2 f2 z2 hw2
  go_upto_region 4 with ((go_at_call 73; refine (lentD_any ln.docs Ad kd _ (HRD.out.new hB2) hn2).mono ?_; rintro e w3 ⟨⟨gd, cd, rfl, hcd, hod⟩, p3⟩; have hC3 := hC2.below p3 hC2.lt; have f3 := hC3.cell 3; have z3 := hC3.frozen 3))
  have hB3 := below_of_below hB2 p3 hB2.size
  have hs3 := p3.size
  have hK3 := hK2.below p3 hK2.lt
  have hom3 := own_below hom2 p3
  have hC4 := hC3.set_ 3 (.slice (some ⟨gd, 0, none⟩) ln.docs.length cd)
  have hF4 := Fx.set w3 g3 3 (.slice (some ⟨gd, 0, none⟩) ln.docs.length cd)
  have hK4 := hF4.blk hK3 (by omega)
  have hgd : w2.heap.size ≤ gd := by
    rcases hod.2 with ⟨h, _⟩ | ⟨g, _, _, h, hb, _⟩
    · cases h
    · injection h with h; injection h with h; injection h with h; omega
  have hom4 := hF4.own hom3 (fun g e (h : g = g3) => by have e2 : gm = g := Option.some.inj e; omega)
  have hod4 := hF4.own hod (fun g e (h : g = g3) => by have e2 : gd = g := Option.some.inj e; omega)
  have hB4 := hB3.grown (setCell_grown w3 ⟨g3, 3, none⟩ (.slice (some ⟨gd, 0, none⟩) ln.docs.length cd)) hB3.size (fun k e => by cases e; simp only; omega)
  obtain ⟨w4, hw4⟩ : ∃ w4, w3.setCell ⟨g3, 3, none⟩ (.slice (some ⟨gd, 0, none⟩) ln.docs.length cd) = w4 := ⟨_, rfl⟩
  rw [hw4] at hC4 hK4 hB4 hF4 hom4 hod4
  rw [hw4]
  clear a3 f3 z3 hw4
  have c0 : w4.cell? ⟨g3, 0, none⟩ = some (.int .i64 ln.line) := hC4.cell 0
  have c1 : w4.cell? ⟨g3, 1, none⟩ = some (.string (bs ln.text)) := hC4.cell 1
  have c2 : w4.cell? ⟨g3, 2, none⟩ = some (.slice (some ⟨gm, 0, none⟩) ln.marks.length cm) := hC4.cell 2
  have c3 : w4.cell? ⟨g3, 3, none⟩ = some (.slice (some ⟨gd, 0, none⟩) ln.docs.length cd) := hC4.cell 3
  go_wp2_with (refine wpList_store_st rfl _ _ _ rfl lineT (w.heap.size + 1) _ _ rfl rfl hK4 rfl rfl rfl ?_; intro w5 hK5 hg5 hz5)
  have hF5 := Fx.row1 hg5
  have hB5 := hB4.grown hg5 hB4.size (fun k e => by cases e; omega)
  have hom5 := hF5.own hom4 (fun g e (h : g = w.heap.size + 1) => by have e2 : gm = g := Option.some.inj e; omega)
  have hod5 := hF5.own hod4 (fun g e (h : g = w.heap.size + 1) => by have e2 : gd = g := Option.some.inj e; omega)
  refine bodyPost_ret (v := .agg #[.int .i64 ln.line, .string (bs ln.text), .slice (some ⟨gm, 0, none⟩) ln.marks.length cm, .slice (some ⟨gd, 0, none⟩) ln.docs.length cd]) (results_c0 rfl lineT rfl hK5 rfl) rfl ?_
  exact ⟨⟨gm, cm, gd, cd, rfl, hcm, hcd, own_weak hom5 HBC.out.size, own_weak hod5 hB2.size⟩, hB5⟩
end Go.Proofs.YtpgnfianffjpnaaGreatDoor
