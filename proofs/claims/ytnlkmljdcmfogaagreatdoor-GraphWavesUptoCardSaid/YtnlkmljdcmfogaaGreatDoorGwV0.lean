/- graph's base and from, where nothing is wrong, walked. stratalaw19.three, walked: the file of the chapter's first example. -/
import Derived.Test.YtnlkmljdcmfogaaGreatDoorGwU0
import Derived.Test.YtnlkmljdcmfogaaGreatDoorGwX0
import Derived.Test.YtnlkmljdcmfogaaGreatDoorCkM0
import Derived.Test.YtnlkmljdcmfogaaGreatDoorOwn0
import Derived.Test.YtnlkmljdcmfogaaGreatDoorCkLt0
namespace Go.Proofs.YtnlkmljdcmfogaaGreatDoor
open Go Go.RowKit
/-- what a text that is named refers to, in the stage i. -/
def RefOk (l : List GM) (i : Nat) (s : List UInt8) (r : Gw.Rf) : Prop := (∃ n : Int, namedL s l = n ∧ 0 ≤ n ∧ n < (i : Int) ∧ r = ⟨1, n, []⟩) ∨ (namedL s l = -1 ∧ Ck.refR s = true ∧ r = ⟨2, 0, fullN s⟩)
/-- what a stage begins with. -/
def BaseOk (e : UInt8) (l : List GM) (i : Nat) (b : List UInt8) (r : Gw.Rf) : Prop := ∃ s t, Ex.readL e .plain b = .inr (s.map .b, t) ∧ s.length ≤ 60000 ∧ s.isEmpty = false ∧ (((s == [115, 99, 114, 97, 116, 99, 104]) = true ∧ r = ⟨0, 0, []⟩) ∨ ((s == [115, 99, 114, 97, 116, 99, 104]) = false ∧ RefOk l i s r))
set_option maxRecDepth 100000 in
set_option maxHeartbeats 2000000 in
theorem base_any (e : UInt8) (va : Value) (g c : Nat) (l : List GM) (i : Nat) (w : World) (hi : i < l.length) (r : Gw.Rf) (hr : BaseOk e l i l[i].base r) (hb : l[i].base.length ≤ 60000) (hn : l.length ≤ 1000000) (hs : GsA w (.slice (some ⟨g, 0, none⟩) l.length c) l) (hM : Maxl w) :
    Calls Tryz.prog 38 #[.agg #[.int .u8 (e.toNat : Int), va, .slice (some ⟨g, 0, none⟩) l.length c], .int .i64 (i : Int), .slice none 0 0] w fun q w' => q = .returned (.tuple #[.agg #[.int .i64 r.kind, .int .i64 r.stage, .string (bs r.name)], .nilIface]) ∧ Below w.heap.size w w' := by
  obtain ⟨g0, o0, c0, X, A, k, hv, hX, hXv, hXs, d0, d1, d2, d3⟩ := gm_full hs hi
  injection hv with hv _ hcc
  injection hv with hv
  injection hv with q1 q2 _
  subst q1 q2 hcc
  have hgl : g < w.heap.size := World.block_lt_of_cell? w _ d0
  rw [hX] at hr hb
  obtain ⟨s, t, hx, hsl, hse, hcase⟩ := hr
  simp only [Nat.zero_add] at d0 d1 d2 d3
  obtain ⟨line, base, nm, vs, ms⟩ := X
  dsimp only at hx hb d0 d1 d2 d3 hXv
  subst hXv
  have hbt : e.toNat < 256 := UInt8.toNat_lt _
  have HS := Lib.hid hs.1
  have HMX := Lib.hid hM
  have HRD := Lib.hid hx
  have k0 := Blk.new w 25 #[.int .u8 (e.toNat : Int), va, .slice (some ⟨g, 0, none⟩) l.length c]
  have b0 := (Below.refl w.heap.size w).alloc (Nat.le_refl _) (.cells #[.int .u8 (e.toNat : Int), va, .slice (some ⟨g, 0, none⟩) l.length c] 25)
  have k1 := Blk.new (w.alloc (.cells #[.int .u8 (e.toNat : Int), va, .slice (some ⟨g, 0, none⟩) l.length c] 25)) 77 #[.int .i64 0, .int .i64 0, .string ⟨#[]⟩]
  have b1 := b0.alloc b0.size (.cells #[.int .i64 0, .int .i64 0, .string ⟨#[]⟩] 77)
  have k0 := k0.alloc (.cells #[.int .i64 0, .int .i64 0, .string ⟨#[]⟩] 77)
  rw [World.size_alloc] at k1
  obtain ⟨w1, h1⟩ : ∃ y, (w.alloc (.cells #[.int .u8 (e.toNat : Int), va, .slice (some ⟨g, 0, none⟩) l.length c] 25)).alloc (.cells #[.int .i64 0, .int .i64 0, .string ⟨#[]⟩] 77) = y := ⟨_, rfl⟩
  rw [h1] at b1 k0 k1
  have HW1 := Lib.hid h1
  have d0 := (b1.cell (p := ⟨g, i * 4, none⟩) hgl).trans d0
  have d1 := (b1.cell (p := ⟨g, i * 4 + 1, none⟩) hgl).trans d1
  have d2 := (b1.cell (p := ⟨g, i * 4 + 2, none⟩) hgl).trans d2
  have d3 := (b1.cell (p := ⟨g, i * 4 + 3, none⟩) hgl).trans d3
  have a2 : w1.cell? ⟨w.heap.size, 2, none⟩ = some (.slice (some ⟨g, 0, none⟩) l.length c) := k0.cell 2
  have HB1 := Lib.hid b1
  have HK0 := Lib.hid k0
  have HK1 := Lib.hid k1
  have i0 : (0 : Int) ≤ (i : Int) := by omega
  have i1 : (i : Int) < (l.length : Int) := by omega
  clear h1 b0 b1 k0 k1 hM hx hs hX hXs
  go_enter Tryz.func38, Tryz.ntmps38
  go_upto_region 1 with fail
  rw [HW1.out]
  clear HW1
  go_upto_region 2 with fail
  have kx := Blk.new w1 88 #[.int .i64 line, .string (bs base), .string (bs nm), .slice A ms.length k]
  have bx := (Below.refl w1.heap.size w1).alloc (Nat.le_refl _) (.cells #[.int .i64 line, .string (bs base), .string (bs nm), .slice A ms.length k] 88)
  obtain ⟨w2, h2⟩ : ∃ y, w1.alloc (.cells #[.int .i64 line, .string (bs base), .string (bs nm), .slice A ms.length k] 88) = y := ⟨_, rfl⟩
  rw [h2] at kx bx ⊢
  have HB2 := Lib.hid (below_of_below HB1.out bx HB1.out.size)
  have HX2 := Lib.hid kx
  have HK02 := Lib.hid (HK0.out.below bx HK0.out.lt)
  have HK12 := Lib.hid (HK1.out.below bx HK1.out.lt)
  have x1 : w2.cell? ⟨w1.heap.size, 1, none⟩ = some (.string (bs base)) := kx.cell 1
  have f0 : w2.cell? ⟨w.heap.size, 0, none⟩ = some (.int .u8 (e.toNat : Int)) := HK02.out.cell 0
  have HC := Lib.hid (wordB_any base e (by unfold exMax; omega) s t HRD (by omega) w2)
  clear kx bx h2 d0 d1 d2 d3 a2 HK0 HK1
  go_wp2_with fail
  refine HC.out.mono ?_
  rintro q w3 ⟨rfl, p3⟩
  have HB3 := Lib.hid (below_of_below HB2.out p3 HB2.out.size)
  have HX3 := Lib.hid (HX2.out.below p3 HX2.out.lt)
  have HK03 := Lib.hid (HK02.out.below p3 HK02.out.lt)
  have HK13 := Lib.hid (HK12.out.below p3 HK12.out.lt)
  have e1 : (bs s).toList.isEmpty = false := by rw [bs_list]; exact hse
  obtain ⟨z, hz⟩ : ∃ z, (s == [115, 99, 114, 97, 116, 99, 104]) = z := ⟨_, rfl⟩
  have e2 : ((bs s).toList == [115, 99, 114, 97, 116, 99, 104]) = z := by rw [bs_list]; exact hz
  rw [hz] at hcase
  have HCS := Lib.hid hcase
  clear p3 HC x1 f0 HX2 HK02 HK12 hz hse hcase
  cases z with
  | true =>
    obtain ⟨_, hr⟩ | ⟨h, _⟩ := HCS.out
    · subst hr
      go_wp2_with (refine wpList_store_st rfl _ _ _ rfl refTg (w.heap.size + 1) #[.int .i64 0, .int .i64 0, .string ⟨#[]⟩] _ rfl rfl HK13.out rfl rfl rfl ?_; intro w9 hK9 hG9 _)
      have kf := (Fx.of_grown hG9).mono (S' := fun b => b = w.heap.size + 1) (fun b _ h => by injection h with h; exact h.symm)
      refine bodyPost_ret (results_c1 rfl refTg rfl rfl hK9 rfl) rfl ⟨rfl, ?_⟩
      exact HB3.out.trans (kf.to_below HB3.out.size (fun b h => by have h2 : b = w.heap.size + 1 := h; omega))
    · cases h
  | false =>
    have hro : RefOk l i s r := by
      rcases HCS.out with ⟨h, _⟩ | ⟨_, h⟩
      · cases h
      · exact h
    have HRO := Lib.hid hro
    have f0 : w3.cell? ⟨w.heap.size, 0, none⟩ = some (.int .u8 (e.toNat : Int)) := HK03.out.cell 0
    have f1 : w3.cell? ⟨w.heap.size, 1, none⟩ = some va := HK03.out.cell 1
    have f2 : w3.cell? ⟨w.heap.size, 2, none⟩ = some (.slice (some ⟨g, 0, none⟩) l.length c) := HK03.out.cell 2
    obtain ⟨n, hnm⟩ : ∃ n, namedL s l = n := ⟨_, rfl⟩
    have HC := Lib.hid (named_any e va g l.length c l s w3 (Lib.hid hnm) rfl hn (HS.out.new HB3.out) (Nat.lt_of_lt_of_le hgl HB3.out.size))
    clear HCS hro
    go_wp2_with fail
    refine HC.out.mono ?_
    rintro q w4 ⟨rfl, p4⟩
    have HB4 := Lib.hid (below_of_below HB3.out p4 HB3.out.size)
    have HX4 := Lib.hid (HX3.out.below p4 HX3.out.lt)
    have HK14 := Lib.hid (HK13.out.below p4 HK13.out.lt)
    clear p4 HC f0 f1 f2 HX3 HK03 HK13
    rcases HRO.out with ⟨n', h1, h2, h3, hr⟩ | ⟨h1, h2, hr⟩
    · rw [hnm] at h1
      subst h1 hr
      have i2 : decide (0 ≤ n) = true := by rw [decide_eq_true_eq]; exact h2
      have x0 : w4.cell? ⟨w1.heap.size, 0, none⟩ = some (.int .i64 line) := HX4.out.cell 0
      have HC := Lib.hid (back_any (i : Int) n line w4 h3)
      clear hnm
      go_wp2_with (first | (go_at_call 118; refine HC.out.mono ?_; rintro q w5 ⟨rfl, p5⟩; have HB5 := Lib.hid (below_of_below HB4.out p5 HB4.out.size); have HK15 := Lib.hid (HK14.out.below p5 HK14.out.lt)) | (refine wpList_store_st rfl _ _ _ rfl refTg (w.heap.size + 1) #[.int .i64 1, .int .i64 n, .string ⟨#[]⟩] _ rfl rfl HK15.out rfl rfl rfl ?_; intro w9 hK9 hG9 _))
      have kf := (Fx.of_grown hG9).mono (S' := fun b => b = w.heap.size + 1) (fun b _ h => by injection h with h; exact h.symm)
      refine bodyPost_ret (results_c1 rfl refTg rfl rfl hK9 rfl) rfl ⟨rfl, ?_⟩
      exact HB5.out.trans (kf.to_below HB5.out.size (fun b h => by have h2 : b = w.heap.size + 1 := h; omega))
    · rw [hnm] at h1
      subst h1 hr
      have HC := Lib.hid (ckRef_any s (by omega) w4 (HMX.out.grow HB4.out) (Lib.hid h2))
      clear hnm
      go_wp2_with fail
      refine HC.out.mono ?_
      rintro q w5 ⟨hq, p5⟩
      obtain rfl : q = .returned .nilIface := hq
      have HB5 := Lib.hid (below_of_below HB4.out p5 HB4.out.size)
      have HK15 := Lib.hid (HK14.out.below p5 HK14.out.lt)
      have HC2 := Lib.hid (image_any s (by omega) w5 (Lib.hid (rfl : fullN s = fullN s)))
      clear p5 HC
      go_wp2_with (first | (go_at_call 120; refine HC2.out.mono ?_; rintro q w6 ⟨rfl, p6⟩; have HB6 := Lib.hid (below_of_below HB5.out p6 HB5.out.size); have HK16 := Lib.hid (HK15.out.below p6 HK15.out.lt)) | (refine wpList_store_st rfl _ _ _ rfl refTg (w.heap.size + 1) #[.int .i64 2, .int .i64 0, .string (bs (fullN s))] _ rfl rfl HK16.out rfl rfl rfl ?_; intro w9 hK9 hG9 _))
      have kf := (Fx.of_grown hG9).mono (S' := fun b => b = w.heap.size + 1) (fun b _ h => by injection h with h; exact h.symm)
      refine bodyPost_ret (results_c1 rfl refTg rfl rfl hK9 rfl) rfl ⟨rfl, ?_⟩
      exact HB6.out.trans (kf.to_below HB6.out.size (fun b h => by have h2 : b = w.heap.size + 1 := h; omega))
/-- what a step copies from. -/
def FromOk (l : List GM) (i : Nat) (fr : List UInt8) (r : Gw.Rf) : Prop := fr.isEmpty = false ∧ fr.length ≤ 60000 ∧ ((fr = [48] ∧ 0 < i ∧ r = ⟨1, 0, []⟩) ∨ ((Lib.trimS fr [48, 49, 50, 51, 52, 53, 54, 55, 56, 57]).isEmpty = false ∧ RefOk l i fr r))
set_option maxRecDepth 100000 in
set_option maxHeartbeats 2000000 in
theorem from_any (e : UInt8) (va : Value) (g c : Nat) (l : List GM) (i : Nat) (op line : Int) (fr md : List UInt8) (fo ba : Bool) (vp vw vd ve : Value) (w : World) (hi : i < l.length) (r : Gw.Rf) (hr : FromOk l i fr r) (hn : l.length ≤ 1000000) (hs : GsA w (.slice (some ⟨g, 0, none⟩) l.length c) l) (hM : Maxl w) :
    Calls Tryz.prog 39 #[.agg #[.int .u8 (e.toNat : Int), va, .slice (some ⟨g, 0, none⟩) l.length c], .int .i64 (i : Int), .agg #[.int .i64 op, .int .i64 line, .string (bs fr), .string (bs md), .bool fo, vp, .bool ba, vw, vd, ve]] w fun q w' => q = .returned (.tuple #[.agg #[.int .i64 r.kind, .int .i64 r.stage, .string (bs r.name)], .nilIface]) ∧ Below w.heap.size w w' := by
  obtain ⟨g0, o0, c0, X, A, k, hv, _, _, _, d0, _⟩ := gm_full hs hi
  injection hv with hv _ hcc
  injection hv with hv
  injection hv with q1 q2 _
  subst q1 q2 hcc
  have hgl : g < w.heap.size := World.block_lt_of_cell? w _ d0
  obtain ⟨hse, hsl, hcase⟩ := hr
  have hbt : e.toNat < 256 := UInt8.toNat_lt _
  have HS := Lib.hid hs.1
  have HMX := Lib.hid hM
  have b0 := (Below.refl w.heap.size w).alloc (Nat.le_refl _) (.cells #[.int .u8 (e.toNat : Int), va, .slice (some ⟨g, 0, none⟩) l.length c] 25)
  have b1 := b0.alloc b0.size (.cells #[.int .i64 op, .int .i64 line, .string (bs fr), .string (bs md), .bool fo, vp, .bool ba, vw, vd, ve] 100)
  have b2 := b1.alloc b1.size (.cells #[.int .i64 0, .int .i64 0, .string ⟨#[]⟩] 77)
  have k0 := ((Blk.new w 25 #[.int .u8 (e.toNat : Int), va, .slice (some ⟨g, 0, none⟩) l.length c]).alloc (.cells #[.int .i64 op, .int .i64 line, .string (bs fr), .string (bs md), .bool fo, vp, .bool ba, vw, vd, ve] 100)).alloc (.cells #[.int .i64 0, .int .i64 0, .string ⟨#[]⟩] 77)
  have k1 := (Blk.new (w.alloc (.cells #[.int .u8 (e.toNat : Int), va, .slice (some ⟨g, 0, none⟩) l.length c] 25)) 100 #[.int .i64 op, .int .i64 line, .string (bs fr), .string (bs md), .bool fo, vp, .bool ba, vw, vd, ve]).alloc (.cells #[.int .i64 0, .int .i64 0, .string ⟨#[]⟩] 77)
  have k2 := Blk.new ((w.alloc (.cells #[.int .u8 (e.toNat : Int), va, .slice (some ⟨g, 0, none⟩) l.length c] 25)).alloc (.cells #[.int .i64 op, .int .i64 line, .string (bs fr), .string (bs md), .bool fo, vp, .bool ba, vw, vd, ve] 100)) 77 #[.int .i64 0, .int .i64 0, .string ⟨#[]⟩]
  rw [World.size_alloc] at k1
  rw [World.size_alloc, World.size_alloc] at k2
  obtain ⟨w1, h1⟩ : ∃ y, ((w.alloc (.cells #[.int .u8 (e.toNat : Int), va, .slice (some ⟨g, 0, none⟩) l.length c] 25)).alloc (.cells #[.int .i64 op, .int .i64 line, .string (bs fr), .string (bs md), .bool fo, vp, .bool ba, vw, vd, ve] 100)).alloc (.cells #[.int .i64 0, .int .i64 0, .string ⟨#[]⟩] 77) = y := ⟨_, rfl⟩
  rw [h1] at b2 k0 k1 k2
  have HW1 := Lib.hid h1
  have HB1 := Lib.hid b2
  have HK0 := Lib.hid k0
  have HK1 := Lib.hid k1
  have HK2 := Lib.hid k2
  have i0 : (0 : Int) ≤ (i : Int) := by omega
  have e1 : (bs fr).toList.isEmpty = false := by rw [bs_list]; exact hse
  have f0 : w1.cell? ⟨w.heap.size, 0, none⟩ = some (.int .u8 (e.toNat : Int)) := k0.cell 0
  have f1 : w1.cell? ⟨w.heap.size, 1, none⟩ = some va := k0.cell 1
  have f2 : w1.cell? ⟨w.heap.size, 2, none⟩ = some (.slice (some ⟨g, 0, none⟩) l.length c) := k0.cell 2
  have s1 : w1.cell? ⟨w.heap.size + 1, 1, none⟩ = some (.int .i64 line) := k1.cell 1
  have s2 : w1.cell? ⟨w.heap.size + 1, 2, none⟩ = some (.string (bs fr)) := k1.cell 2
  clear h1 b0 b1 b2 k0 k1 k2 hM hs d0
  go_enter Tryz.func39, Tryz.ntmps39
  go_upto_region 1 with fail
  rw [HW1.out]
  clear HW1
  rcases hcase with ⟨h1, h2, hr⟩ | ⟨h1, hro⟩
  · subst h1 hr
    have HC := Lib.hid (number_zero l.length (by omega) w1)
    go_wp2_with fail
    refine HC.out.mono ?_
    rintro q w2 ⟨rfl, p2⟩
    have HB2 := Lib.hid (below_of_below HB1.out p2 HB1.out.size)
    have HK12 := Lib.hid (HK1.out.below p2 HK1.out.lt)
    have HK22 := Lib.hid (HK2.out.below p2 HK2.out.lt)
    have x1 : w2.cell? ⟨w.heap.size + 1, 1, none⟩ = some (.int .i64 line) := HK12.out.cell 1
    have HC := Lib.hid (back_any (i : Int) 0 line w2 (by omega))
    clear p2 f0 f1 f2 s1 s2 HK0 HK1 HK2
    go_wp2_with (first | (go_at_call 118; refine HC.out.mono ?_; rintro q w5 ⟨rfl, p5⟩; have HB5 := Lib.hid (below_of_below HB2.out p5 HB2.out.size); have HK25 := Lib.hid (HK22.out.below p5 HK22.out.lt)) | (refine wpList_store_st rfl _ _ _ rfl refTg (w.heap.size + 1 + 1) #[.int .i64 1, .int .i64 0, .string ⟨#[]⟩] _ rfl rfl HK25.out rfl rfl rfl ?_; intro w9 hK9 hG9 _))
    have kf := (Fx.of_grown hG9).mono (S' := fun b => b = w.heap.size + 1 + 1) (fun b _ h => by injection h with h; exact h.symm)
    refine bodyPost_ret (results_c1 rfl refTg rfl rfl hK9 rfl) rfl ⟨rfl, ?_⟩
    exact HB5.out.trans (kf.to_below HB5.out.size (fun b h => by have h2 : b = w.heap.size + 1 + 1 := h; omega))
  · have HRO := Lib.hid hro
    have HC := Lib.hid (number_not fr (l.length : Int) (by omega) _ (Lib.hid rfl) h1 w1)
    clear hro h1
    go_wp2_with fail
    refine HC.out.mono ?_
    rintro q w2 ⟨rfl, p2⟩
    have HB2 := Lib.hid (below_of_below HB1.out p2 HB1.out.size)
    have HK02 := Lib.hid (HK0.out.below p2 HK0.out.lt)
    have HK12 := Lib.hid (HK1.out.below p2 HK1.out.lt)
    have HK22 := Lib.hid (HK2.out.below p2 HK2.out.lt)
    clear p2 f0 f1 f2 s1 s2 HK0 HK1 HK2 HC
    have f0 : w2.cell? ⟨w.heap.size, 0, none⟩ = some (.int .u8 (e.toNat : Int)) := HK02.out.cell 0
    have f1 : w2.cell? ⟨w.heap.size, 1, none⟩ = some va := HK02.out.cell 1
    have f2 : w2.cell? ⟨w.heap.size, 2, none⟩ = some (.slice (some ⟨g, 0, none⟩) l.length c) := HK02.out.cell 2
    have s2 : w2.cell? ⟨w.heap.size + 1, 2, none⟩ = some (.string (bs fr)) := HK12.out.cell 2
    obtain ⟨n, hnm⟩ : ∃ n, namedL fr l = n := ⟨_, rfl⟩
    have HC := Lib.hid (named_any e va g l.length c l fr w2 (Lib.hid hnm) rfl hn (HS.out.new HB2.out) (Nat.lt_of_lt_of_le hgl HB2.out.size))
    go_wp2_with fail
    refine HC.out.mono ?_
    rintro q w4 ⟨rfl, p4⟩
    have HB4 := Lib.hid (below_of_below HB2.out p4 HB2.out.size)
    have HK14 := Lib.hid (HK12.out.below p4 HK12.out.lt)
    have HK24 := Lib.hid (HK22.out.below p4 HK22.out.lt)
    clear p4 HC f0 f1 f2 s2 HK02 HK12 HK22
    have s1 : w4.cell? ⟨w.heap.size + 1, 1, none⟩ = some (.int .i64 line) := HK14.out.cell 1
    have s2 : w4.cell? ⟨w.heap.size + 1, 2, none⟩ = some (.string (bs fr)) := HK14.out.cell 2
    rcases HRO.out with ⟨n', h1, h2, h3, hr⟩ | ⟨h1, h2, hr⟩
    · rw [hnm] at h1
      subst h1 hr
      have i2 : decide (0 ≤ n) = true := by rw [decide_eq_true_eq]; exact h2
      have HC := Lib.hid (back_any (i : Int) n line w4 h3)
      clear hnm
      go_wp2_with (first | (go_at_call 118; refine HC.out.mono ?_; rintro q w5 ⟨rfl, p5⟩; have HB5 := Lib.hid (below_of_below HB4.out p5 HB4.out.size); have HK15 := Lib.hid (HK24.out.below p5 HK24.out.lt)) | (refine wpList_store_st rfl _ _ _ rfl refTg (w.heap.size + 1 + 1) #[.int .i64 1, .int .i64 n, .string ⟨#[]⟩] _ rfl rfl HK15.out rfl rfl rfl ?_; intro w9 hK9 hG9 _))
      have kf := (Fx.of_grown hG9).mono (S' := fun b => b = w.heap.size + 1 + 1) (fun b _ h => by injection h with h; exact h.symm)
      refine bodyPost_ret (results_c1 rfl refTg rfl rfl hK9 rfl) rfl ⟨rfl, ?_⟩
      exact HB5.out.trans (kf.to_below HB5.out.size (fun b h => by have h2 : b = w.heap.size + 1 + 1 := h; omega))
    · rw [hnm] at h1
      subst h1 hr
      have HC := Lib.hid (ckRef_any fr (by omega) w4 (HMX.out.grow HB4.out) (Lib.hid h2))
      clear hnm
      go_wp2_with fail
      refine HC.out.mono ?_
      rintro q w5 ⟨hq, p5⟩
      obtain rfl : q = .returned .nilIface := hq
      have HB5 := Lib.hid (below_of_below HB4.out p5 HB4.out.size)
      have HK15 := Lib.hid (HK14.out.below p5 HK14.out.lt)
      have HK25 := Lib.hid (HK24.out.below p5 HK24.out.lt)
      have HC2 := Lib.hid (image_any fr (by omega) w5 (Lib.hid (rfl : fullN fr = fullN fr)))
      clear p5 HC s1 s2
      have s2 : w5.cell? ⟨w.heap.size + 1, 2, none⟩ = some (.string (bs fr)) := HK15.out.cell 2
      go_wp2_with (first | (go_at_call 120; refine HC2.out.mono ?_; rintro q w6 ⟨rfl, p6⟩; have HB6 := Lib.hid (below_of_below HB5.out p6 HB5.out.size); have HK16 := Lib.hid (HK25.out.below p6 HK25.out.lt)) | (refine wpList_store_st rfl _ _ _ rfl refTg (w.heap.size + 1 + 1) #[.int .i64 2, .int .i64 0, .string (bs (fullN fr))] _ rfl rfl HK16.out rfl rfl rfl ?_; intro w9 hK9 hG9 _))
      have kf := (Fx.of_grown hG9).mono (S' := fun b => b = w.heap.size + 1 + 1) (fun b _ h => by injection h with h; exact h.symm)
      refine bodyPost_ret (results_c1 rfl refTg rfl rfl hK9 rfl) rfl ⟨rfl, ?_⟩
      exact HB6.out.trans (kf.to_below HB6.out.size (fun b h => by have h2 : b = w.heap.size + 1 + 1 := h; omega))
end Go.Proofs.YtnlkmljdcmfogaaGreatDoor
namespace Go.Proofs.YtnlkmljdcmfogaaGreatDoor
open Go Go.RowKit
def st19 (fr : List UInt8) (line : Int) : Ck.St := ⟨5, line, fr, [], false, [], false, [[120], [121]], [], []⟩
def sm19 (fr : List UInt8) (line : Int) (v : Value) : SM := ⟨st19 fr line, .slice none 0 0, v, .slice none 0 0, .slice none 0 0⟩
theorem sm19_ok {w : World} {fr : List UInt8} {line : Int} {v : Value} (h : SlA w v 2 (sc [[120], [121]])) : (sm19 fr line v).Ok w := ⟨SlA.none w, h, SlA.none w, SlA.none w, fun A n c e => by injection e with _ h1 h2; omega⟩
theorem stepTg : StK Tryz.prog 100 10 := ⟨⟨_, Tryz.underlying100⟩, by kernel_rfl⟩
theorem fileTg : StK Tryz.prog 25 3 := ⟨⟨_, Tryz.underlying25⟩, by kernel_rfl⟩
set_option maxRecDepth 100000 in
set_option maxHeartbeats 1000000 in
theorem copied_any (fr : List UInt8) (line : Int) (w : World) : Calls Tryz.prog 145 #[.string (bs fr), .int .i64 line] w fun r w' => (∃ v, r = .returned (.agg #[.int .i64 5, .int .i64 line, .string (bs fr), .string ⟨#[]⟩, .bool false, .slice none 0 0, .bool false, v, .slice none 0 0, .slice none 0 0]) ∧ SlA w' v 2 (sc [[120], [121]])) ∧ Below w.heap.size w w' := by
  have k0 := Blk.new w 100 #[.int .i64 0, .int .i64 0, .string ⟨#[]⟩, .string ⟨#[]⟩, .bool false, .slice none 0 0, .bool false, .slice none 0 0, .slice none 0 0, .slice none 0 0]
  have b0 := (Below.refl w.heap.size w).alloc (Nat.le_refl _) (.cells #[.int .i64 0, .int .i64 0, .string ⟨#[]⟩, .string ⟨#[]⟩, .bool false, .slice none 0 0, .bool false, .slice none 0 0, .slice none 0 0, .slice none 0 0] 100)
  obtain ⟨w1, h1⟩ : ∃ y, w.alloc (.cells #[.int .i64 0, .int .i64 0, .string ⟨#[]⟩, .string ⟨#[]⟩, .bool false, .slice none 0 0, .bool false, .slice none 0 0, .slice none 0 0, .slice none 0 0] 100) = y := ⟨_, rfl⟩
  rw [h1] at k0 b0
  have k1 := Blk.new w1 9 #[.string ⟨#[120]⟩, .string ⟨#[121]⟩]
  have b1 := b0.alloc b0.size (.cells #[.string ⟨#[120]⟩, .string ⟨#[121]⟩] 9)
  have k0' := k0.alloc (.cells #[.string ⟨#[120]⟩, .string ⟨#[121]⟩] 9)
  have z1 : w1.heap.size = w.heap.size + 1 := by rw [← h1, World.size_alloc]
  have HW1 := Lib.hid h1
  have HK0 := Lib.hid k0'
  have HK1 := Lib.hid k1
  have HB1 := Lib.hid b1
  have HZ1 := Lib.hid z1
  clear h1 k0 b0 k1 b1 k0' z1
  go_enter Tryz.func145, Tryz.ntmps145
  go_upto_region 1 with fail
  rw [HW1.out]
  go_wp2_with (refine wpList_store_st rfl _ _ _ rfl stepTg w.heap.size #[.int .i64 5, .int .i64 line, .string (bs fr), .string ⟨#[]⟩, .bool false, .slice none 0 0, .bool false, .slice (some ⟨w1.heap.size, 0, none⟩) 2 2, .slice none 0 0, .slice none 0 0] _ rfl rfl HK0.out rfl rfl rfl ?_; intro w3 hK3 hG3 _)
  have kf := (Fx.of_grown hG3).mono (S' := fun b => b = w.heap.size) (fun b _ h => by injection h with h; exact h.symm)
  refine bodyPost_ret (results_c0 rfl stepTg rfl hK3 rfl) rfl ⟨⟨_, rfl, SlA.blk (kf.blk HK1.out (by show ¬ w1.heap.size = w.heap.size; have := HZ1.out; omega))⟩, ?_⟩
  exact HB1.out.trans (kf.to_below HB1.out.size (fun b h => by have h2 : b = w.heap.size := h; omega))
set_option maxRecDepth 100000 in
set_option maxHeartbeats 1000000 in
theorem file19_any (A : Option Addr) (n c : Nat) (w : World) : Calls Tryz.prog 144 #[.slice A n c] w fun r w' => r = .returned (.agg #[.int .u8 92, .slice none 0 0, .slice A n c]) ∧ Below w.heap.size w w' := by
  have k0 := Blk.new w 25 #[.int .u8 0, .slice none 0 0, .slice none 0 0]
  have b0 := (Below.refl w.heap.size w).alloc (Nat.le_refl _) (.cells #[.int .u8 0, .slice none 0 0, .slice none 0 0] 25)
  obtain ⟨w1, h1⟩ : ∃ y, w.alloc (.cells #[.int .u8 0, .slice none 0 0, .slice none 0 0] 25) = y := ⟨_, rfl⟩
  rw [h1] at k0 b0
  have HW1 := Lib.hid h1
  have HK0 := Lib.hid k0
  have HB1 := Lib.hid b0
  clear h1 k0 b0
  go_enter Tryz.func144, Tryz.ntmps144
  go_upto_region 1 with fail
  rw [HW1.out]
  go_wp2_with (refine wpList_store_st rfl _ _ _ rfl fileTg w.heap.size #[.int .u8 92, .slice none 0 0, .slice A n c] _ rfl rfl HK0.out rfl rfl rfl ?_; intro w3 hK3 hG3 _)
  have kf := (Fx.of_grown hG3).mono (S' := fun b => b = w.heap.size) (fun b _ h => by injection h with h; exact h.symm)
  refine bodyPost_ret (results_c0 rfl fileTg rfl hK3 rfl) rfl ⟨rfl, ?_⟩
  exact HB1.out.trans (kf.to_below HB1.out.size (fun b h => by have h2 : b = w.heap.size := h; omega))
/-- the chapter's first example. -/
def threeM (vg v1 v2 wa wb wc : Value) : FM := ⟨92, .slice none 0 0, [], vg, [⟨1, [115, 99, 114, 97, 116, 99, 104], [97], .slice none 0 0, []⟩, ⟨2, [105, 109, 103], [98], v1, [sm19 [97] 3 wa]⟩, ⟨4, [98], [], v2, [sm19 [48] 5 wb, sm19 [111, 116, 104, 101, 114, 58, 49] 6 wc]⟩]⟩
theorem SlA.not_in {w w' : World} {v : Value} {n : Nat} {xs : List Value} {R : Nat} {t : TypeId} {old : Array Value} (h : SlA w v n xs) (hk : Blk w R t old) (kf : Fx (fun b => b = R) w w') (hne : ∀ u ∈ xs, ∀ i : Nat, old[i]? ≠ some u) : SlA w' v n xs := by
  rcases h with h | ⟨g, o, c, rfl, hc⟩
  · exact .inl h
  · refine .inr ⟨g, o, c, rfl, fun j u hu => kf.cell (hc j u hu) fun e => ?_⟩
    have e2 : g = R := e
    subst e2
    have h1 := hc j u hu
    rw [hk.cell] at h1
    exact hne u (List.mem_of_getElem? hu) _ h1
set_option maxRecDepth 100000 in
set_option maxHeartbeats 1000000 in
theorem three_any (w : World) : Calls Tryz.prog 79 #[] w fun r w' => (∃ g v1 v2 wa wb wc, r = .returned (.agg #[.int .u8 92, .slice none 0 0, .slice (some ⟨g, 0, none⟩) 3 3]) ∧ (threeM (.slice (some ⟨g, 0, none⟩) 3 3) v1 v2 wa wb wc).Ok w') ∧ Below w.heap.size w w' := by
  have k0 := Blk.new w 25 #[.int .u8 0, .slice none 0 0, .slice none 0 0]
  have b0 := (Below.refl w.heap.size w).alloc (Nat.le_refl _) (.cells #[.int .u8 0, .slice none 0 0, .slice none 0 0] 25)
  obtain ⟨w1, h1⟩ : ∃ y, w.alloc (.cells #[.int .u8 0, .slice none 0 0, .slice none 0 0] 25) = y := ⟨_, rfl⟩
  rw [h1] at k0 b0
  have HW1 := Lib.hid h1
  have HK0 := Lib.hid k0
  have HB1 := Lib.hid b0
  clear h1 k0 b0
  go_enter Tryz.func79, Tryz.ntmps79
  go_upto_region 1 with fail
  rw [HW1.out]
  clear HW1
  go_wp2_with fail
  refine (copied_any [97] 3 _).mono ?_
  rintro e w2 ⟨⟨wa, rfl, ha⟩, p2⟩
  have HS : Hid (w.heap.size < w2.heap.size) := Lib.hid (Nat.lt_of_lt_of_le HK0.out.lt p2.size)
  obtain ⟨Aa, ka, rfl⟩ := ha.form
  have pa := p2.trans (((Below.refl w2.heap.size w2).alloc (Nat.le_refl _) (.cells #[.int .i64 5, .int .i64 3, .string (bs [97]), .string ⟨#[]⟩, .bool false, .slice none 0 0, .bool false, .slice Aa 2 ka, .slice none 0 0, .slice none 0 0] 100)).mono p2.size)
  have HK2 := Lib.hid (HK0.out.below pa HK0.out.lt)
  have HB2 := Lib.hid (below_of_below HB1.out pa HB1.out.size)
  have HA := Lib.hid (SlA.new ha ((Below.refl w2.heap.size w2).alloc (Nat.le_refl _) (.cells #[.int .i64 5, .int .i64 3, .string (bs [97]), .string ⟨#[]⟩, .bool false, .slice none 0 0, .bool false, .slice Aa 2 ka, .slice none 0 0, .slice none 0 0] 100)))
  have HX := Lib.hid (Blk.new w2 100 #[.int .i64 5, .int .i64 3, .string (bs [97]), .string ⟨#[]⟩, .bool false, .slice none 0 0, .bool false, .slice Aa 2 ka, .slice none 0 0, .slice none 0 0])
  clear ha p2 HK0 HB1 pa
  go_wp2_with fail
  refine (copied_any [48] 5 _).mono ?_
  rintro e w3 ⟨⟨wb, rfl, hb⟩, p3⟩
  obtain ⟨Ab, kb, rfl⟩ := hb.form
  have HK3 := Lib.hid (HK2.out.below p3 HK2.out.lt)
  have HB3 := Lib.hid (below_of_below HB2.out p3 HB2.out.size)
  have HA3 := Lib.hid (SlA.new HA.out p3)
  have HX3 := Lib.hid (HX.out.below p3 HX.out.lt)
  have HBb := Lib.hid hb
  clear hb p3 HK2 HB2 HA HX
  go_wp2_with fail
  refine (copied_any [111, 116, 104, 101, 114, 58, 49] 6 _).mono ?_
  rintro e w4 ⟨⟨wc, rfl, hc⟩, p4⟩
  have HS4 : Hid (w.heap.size < w4.heap.size) := Lib.hid (Nat.lt_of_lt_of_le HK3.out.lt p4.size)
  obtain ⟨Ac, kc, rfl⟩ := hc.form
  have pc1 := (Below.refl w4.heap.size w4).alloc (Nat.le_refl _) (.cells #[.int .i64 5, .int .i64 5, .string (bs [48]), .string ⟨#[]⟩, .bool false, .slice none 0 0, .bool false, .slice Ab 2 kb, .slice none 0 0, .slice none 0 0, .int .i64 5, .int .i64 6, .string (bs [111, 116, 104, 101, 114, 58, 49]), .string ⟨#[]⟩, .bool false, .slice none 0 0, .bool false, .slice Ac 2 kc, .slice none 0 0, .slice none 0 0] 100)
  have pc := p4.trans ((pc1.alloc (by rw [World.size_alloc]; omega) (.cells #[.int .i64 1, .string ⟨#[115, 99, 114, 97, 116, 99, 104]⟩, .string ⟨#[97]⟩, .slice none 0 0, .int .i64 2, .string ⟨#[105, 109, 103]⟩, .string ⟨#[98]⟩, .slice (some ⟨w2.heap.size, 0, none⟩) 1 1, .int .i64 4, .string ⟨#[98]⟩, .string ⟨#[]⟩, .slice (some ⟨w4.heap.size, 0, none⟩) 2 2] 88)).mono p4.size)
  have pd := pc1.alloc (by rw [World.size_alloc]; omega) (.cells #[.int .i64 1, .string ⟨#[115, 99, 114, 97, 116, 99, 104]⟩, .string ⟨#[97]⟩, .slice none 0 0, .int .i64 2, .string ⟨#[105, 109, 103]⟩, .string ⟨#[98]⟩, .slice (some ⟨w2.heap.size, 0, none⟩) 1 1, .int .i64 4, .string ⟨#[98]⟩, .string ⟨#[]⟩, .slice (some ⟨w4.heap.size, 0, none⟩) 2 2] 88)
  have HK4 := Lib.hid (HK3.out.below pc HK3.out.lt)
  have HB4 := Lib.hid (below_of_below HB3.out pc HB3.out.size)
  have HA4 := Lib.hid (SlA.new HA3.out pc)
  have HX4 := Lib.hid (HX3.out.below pc HX3.out.lt)
  have HBb4 := Lib.hid (SlA.new HBb.out pc)
  have HC4 := Lib.hid (SlA.new hc pd)
  have HY := Lib.hid ((Blk.new w4 100 #[.int .i64 5, .int .i64 5, .string (bs [48]), .string ⟨#[]⟩, .bool false, .slice none 0 0, .bool false, .slice Ab 2 kb, .slice none 0 0, .slice none 0 0, .int .i64 5, .int .i64 6, .string (bs [111, 116, 104, 101, 114, 58, 49]), .string ⟨#[]⟩, .bool false, .slice none 0 0, .bool false, .slice Ac 2 kc, .slice none 0 0, .slice none 0 0]).alloc (.cells #[.int .i64 1, .string ⟨#[115, 99, 114, 97, 116, 99, 104]⟩, .string ⟨#[97]⟩, .slice none 0 0, .int .i64 2, .string ⟨#[105, 109, 103]⟩, .string ⟨#[98]⟩, .slice (some ⟨w2.heap.size, 0, none⟩) 1 1, .int .i64 4, .string ⟨#[98]⟩, .string ⟨#[]⟩, .slice (some ⟨w4.heap.size, 0, none⟩) 2 2] 88))
  have HZ := Lib.hid (Blk.new (w4.alloc (.cells #[.int .i64 5, .int .i64 5, .string (bs [48]), .string ⟨#[]⟩, .bool false, .slice none 0 0, .bool false, .slice Ab 2 kb, .slice none 0 0, .slice none 0 0, .int .i64 5, .int .i64 6, .string (bs [111, 116, 104, 101, 114, 58, 49]), .string ⟨#[]⟩, .bool false, .slice none 0 0, .bool false, .slice Ac 2 kc, .slice none 0 0, .slice none 0 0] 100)) 88 #[.int .i64 1, .string ⟨#[115, 99, 114, 97, 116, 99, 104]⟩, .string ⟨#[97]⟩, .slice none 0 0, .int .i64 2, .string ⟨#[105, 109, 103]⟩, .string ⟨#[98]⟩, .slice (some ⟨w2.heap.size, 0, none⟩) 1 1, .int .i64 4, .string ⟨#[98]⟩, .string ⟨#[]⟩, .slice (some ⟨w4.heap.size, 0, none⟩) 2 2])
  have hz := World.size_alloc w4 (.cells #[.int .i64 5, .int .i64 5, .string (bs [48]), .string ⟨#[]⟩, .bool false, .slice none 0 0, .bool false, .slice Ab 2 kb, .slice none 0 0, .slice none 0 0, .int .i64 5, .int .i64 6, .string (bs [111, 116, 104, 101, 114, 58, 49]), .string ⟨#[]⟩, .bool false, .slice none 0 0, .bool false, .slice Ac 2 kc, .slice none 0 0, .slice none 0 0] 100)
  rw [hz] at HZ
  clear hc p4 pc1 pc pd HK3 HB3 HA3 HX3 HBb hz
  go_wp2_with fail
  refine (file19_any _ _ _ _).mono ?_
  rintro e w5 ⟨rfl, p5⟩
  have HK5 := Lib.hid (HK4.out.below p5 HK4.out.lt)
  have HB5 := Lib.hid (below_of_below HB4.out p5 HB4.out.size)
  have HA5 := Lib.hid (SlA.new HA4.out p5)
  have HX5 := Lib.hid (HX4.out.below p5 HX4.out.lt)
  have HBb5 := Lib.hid (SlA.new HBb4.out p5)
  have HC5 := Lib.hid (SlA.new HC4.out p5)
  have HY5 := Lib.hid (HY.out.below p5 HY.out.lt)
  have HZ5 := Lib.hid (HZ.out.below p5 HZ.out.lt)
  clear p5 HK4 HB4 HA4 HX4 HBb4 HC4 HY HZ
  go_wp2_with (refine wpList_store_st rfl _ _ _ rfl fileTg w.heap.size #[.int .u8 92, .slice none 0 0, .slice (some ⟨w4.heap.size + 1, 0, none⟩) 3 3] _ rfl rfl HK5.out rfl rfl rfl ?_; intro w6 hK6 hG6 _)
  have kf := (Fx.of_grown hG6).mono (S' := fun b => b = w.heap.size) (fun b _ h => by injection h with h; exact h.symm)
  have hnf : ∀ u ∈ sc [[120], [121]], ∀ i : Nat, (#[.int .u8 0, .slice none 0 0, .slice none 0 0] : Array Value)[i]? ≠ some u := fun u hu i h => by
    obtain ⟨x, _, rfl⟩ := List.mem_map.1 hu
    match i with
    | 0 => cases h
    | 1 => cases h
    | 2 => cases h
    | i + 3 => simp at h
  have hA6 := HA5.out.not_in HK5.out kf hnf
  have hB6 := HBb5.out.not_in HK5.out kf hnf
  have hC6 := HC5.out.not_in HK5.out kf hnf
  have hX6 := kf.blk HX5.out (by have := HS.out; show ¬ w2.heap.size = w.heap.size; omega)
  have hY6 := kf.blk HY5.out (by have := HS4.out; show ¬ w4.heap.size = w.heap.size; omega)
  have hZ6 := kf.blk HZ5.out (by have := HS4.out; show ¬ w4.heap.size + 1 = w.heap.size; omega)
  refine bodyPost_ret (results_c0 rfl fileTg rfl hK6 rfl) rfl ⟨⟨_, .slice (some ⟨w2.heap.size, 0, none⟩) 1 1, .slice (some ⟨w4.heap.size, 0, none⟩) 2 2, .slice Aa 2 ka, .slice Ab 2 kb, .slice Ac 2 kc, rfl, ⟨⟨SlA.none _, fun m h => absurd h (List.not_mem_nil)⟩, ⟨SlA.blk (cs := gmC (threeM (.slice (some ⟨w4.heap.size + 1, 0, none⟩) 3 3) (.slice (some ⟨w2.heap.size, 0, none⟩) 1 1) (.slice (some ⟨w4.heap.size, 0, none⟩) 2 2) (.slice Aa 2 ka) (.slice Ab 2 kb) (.slice Ac 2 kc)).stages) hZ6, ?_⟩⟩⟩, ?_⟩
  · intro g hg
    simp only [threeM, List.mem_cons, List.not_mem_nil, or_false] at hg
    rcases hg with rfl | rfl | rfl
    · exact ⟨SlA.none _, fun _ h => by cases h⟩
    · refine ⟨SlA.blk (cs := smC [sm19 [97] 3 (.slice Aa 2 ka)]) hX6, fun m hm => ?_⟩
      rw [List.mem_singleton] at hm
      subst hm
      exact sm19_ok hA6
    · refine ⟨SlA.blk (cs := smC [sm19 [48] 5 (.slice Ab 2 kb), sm19 [111, 116, 104, 101, 114, 58, 49] 6 (.slice Ac 2 kc)]) hY6, fun m hm => ?_⟩
      simp only [List.mem_cons, List.not_mem_nil, or_false] at hm
      rcases hm with rfl | rfl
      · exact sm19_ok hB6
      · exact sm19_ok hC6
  · exact HB5.out.trans (kf.to_below HB5.out.size (fun b h => by have h2 : b = w.heap.size := h; omega))
end Go.Proofs.YtnlkmljdcmfogaaGreatDoor
