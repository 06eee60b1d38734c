/- stratakit: nodes and plans lent: LentNode, LentNodes, LentPlan, walked. (Printed by wip/gengwn.py.) -/
import Derived.Test.YtnlkmljdcmfogaaGreatDoorGwR
import Derived.Test.YtnlkmljdcmfogaaGreatDoorCkLt0
namespace Go.Proofs.YtnlkmljdcmfogaaGreatDoor
open Go Go.RowKit
def mkN : NdM := ⟨⟨-7, 0, []⟩, .slice none 0 0, []⟩
def marksN (n : Nat) : List NdM := List.replicate n mkN
/-- a node that was lent. -/
def LNd (w : World) (X : Nat → Prop) (n : NdM) : Prop := LtV w X n.vf n.froms.length (rfC n.froms ++ rfC (marksR 16))
theorem LNd.fx {w w' : World} {X X' S : Nat → Prop} {n : NdM} (h : LNd w X n) (k : Fx S w w') (hX : ∀ b, b < w.heap.size → S b ∨ X' b → X b) : LNd w' X' n := LtV.fx h k hX
theorem LNd.new {w w' : World} {X : Nat → Prop} {n : NdM} (h : LNd w X n) (k : Below w.heap.size w w') : LNd w' X n := LtV.new h k
/-- nodes that were lent. -/
structure LNs (w : World) (X : Nat → Prop) (v : Value) (l : List NdM) : Prop where
  r : LtV w X v l.length (ndC l ++ ndC (marksN 16))
  m : ∀ m ∈ l, LNd w X m
theorem LNs.fx {w w' : World} {X X' S : Nat → Prop} {v : Value} {l : List NdM} (h : LNs w X v l) (k : Fx S w w') (hX : ∀ b, b < w.heap.size → S b ∨ X' b → X b) : LNs w' X' v l := ⟨h.r.fx k hX, fun m hm => (h.m m hm).fx k hX⟩
theorem LNs.new {w w' : World} {X : Nat → Prop} {v : Value} {l : List NdM} (h : LNs w X v l) (k : Below w.heap.size w w') : LNs w' X v l := ⟨h.r.new k, fun m hm => (h.m m hm).new k⟩
theorem LNs.ok {w : World} {X : Nat → Prop} {v : Value} {l : List NdM} (h : LNs w X v l) : NdsA w v l := ⟨h.r.sl, fun m hm => LtV.sl (h.m m hm)⟩
theorem nodeTl : StK Tryz.prog 80 4 := ⟨⟨_, Tryz.underlying80⟩, by kernel_rfl⟩
theorem planTl : StK Tryz.prog 32 4 := ⟨⟨_, Tryz.underlying32⟩, by kernel_rfl⟩
theorem nodeKl : ElemK Tryz.prog 28 80 (.agg #[.int .i64 0, .int .i64 0, .string ⟨#[]⟩, .slice none 0 0]) 4 56 := ⟨Tryz.underlying28, by kernel_rfl, rfl, by decide⟩
theorem nd_full {w : World} {v : Value} {l : List NdM} (h : NdsA w v l) {i : Nat} (hi : i < l.length) : ∃ (g o c : Nat) (G : NdM) (A : Option Addr) (k : Nat), v = .slice (some ⟨g, o, none⟩) l.length c ∧ l[i] = G ∧ G.vf = .slice A G.froms.length k ∧ G.Ok w ∧
    w.cell? ⟨g, o + i * 4, none⟩ = some (.int .i64 G.base.kind) ∧ w.cell? ⟨g, o + i * 4 + 1, none⟩ = some (.int .i64 G.base.stage) ∧ w.cell? ⟨g, o + i * 4 + 2, none⟩ = some (.string (bs G.base.name)) ∧ w.cell? ⟨g, o + i * 4 + 3, none⟩ = some (.slice A G.froms.length k) := by
  obtain ⟨g, o, c, hv, hm, h0, h1, h2, h3⟩ := nd_at h hi
  obtain ⟨A, k, e⟩ := SlA.form hm
  exact ⟨g, o, c, l[i], A, k, hv, rfl, e, hm, h0, h1, h2, by rw [h3, e]⟩
set_option maxRecDepth 100000 in
set_option maxHeartbeats 2000000 in
theorem lentNode_any (G : NdM) (w : World) (hok : G.Ok w) (hn : G.froms.length ≤ 1050000) : Calls Tryz.prog 146 #[.agg #[.int .i64 G.base.kind, .int .i64 G.base.stage, .string (bs G.base.name), G.vf]] w fun r w' => (∃ vf, r = .returned (.agg #[.int .i64 G.base.kind, .int .i64 G.base.stage, .string (bs G.base.name), vf]) ∧ LNd w' (fun b => b < w.heap.size) ⟨G.base, vf, G.froms⟩) ∧ Below w.heap.size w w' := by
  obtain ⟨⟨kd, sg, nm⟩, vf, ms⟩ := G
  unfold NdM.Ok at hok
  dsimp only at hok hn ⊢
  obtain ⟨As, ks, rfl⟩ := hok.form
  have HOK := Lib.hid hok
  clear hok
  obtain ⟨w1, hw1⟩ : ∃ y, ((w.alloc (.cells #[.int .i64 kd, .int .i64 sg, .string (bs nm), .slice As ms.length ks] 80)).alloc (.cells #[.int .i64 0, .int .i64 0, .string ⟨#[]⟩, .slice none 0 0] 80)).alloc (.cells #[.int .i64 kd, .int .i64 sg, .string (bs nm), .slice As ms.length ks] 80) = y := ⟨_, rfl⟩
  have HB1 : Hid (Below w.heap.size w w1) := Lib.hid (by rw [← hw1]; exact (((Below.refl _ _).alloc (Nat.le_refl _) _).alloc (by rw [World.size_alloc]; omega) _).alloc (by rw [World.size_alloc, World.size_alloc]; omega) _)
  have K0 : Hid (Blk w1 w.heap.size 80 #[.int .i64 kd, .int .i64 sg, .string (bs nm), .slice As ms.length ks]) := Lib.hid (by rw [← hw1]; exact ((Blk.new w _ _).alloc _).alloc _)
  have K1 : Hid (Blk w1 (w.heap.size + 1) 80 #[.int .i64 0, .int .i64 0, .string ⟨#[]⟩, .slice none 0 0]) := Lib.hid (by have q := Blk.new (w.alloc (.cells #[.int .i64 kd, .int .i64 sg, .string (bs nm), .slice As ms.length ks] 80)) 80 #[.int .i64 0, .int .i64 0, .string ⟨#[]⟩, .slice none 0 0]; rw [World.size_alloc] at q; rw [← hw1]; exact q.alloc _)
  have K2 : Hid (Blk w1 (w.heap.size + 1 + 1) 80 #[.int .i64 kd, .int .i64 sg, .string (bs nm), .slice As ms.length ks]) := Lib.hid (by have q := Blk.new ((w.alloc (.cells #[.int .i64 kd, .int .i64 sg, .string (bs nm), .slice As ms.length ks] 80)).alloc (.cells #[.int .i64 0, .int .i64 0, .string ⟨#[]⟩, .slice none 0 0] 80)) 80 #[.int .i64 kd, .int .i64 sg, .string (bs nm), .slice As ms.length ks]; rw [World.size_alloc, World.size_alloc] at q; rw [← hw1]; exact q)
  have HW1 := Lib.hid hw1
  clear hw1
  have a0 : ((w.alloc (.cells #[.int .i64 kd, .int .i64 sg, .string (bs nm), .slice As ms.length ks] 80)).alloc (.cells #[.int .i64 0, .int .i64 0, .string ⟨#[]⟩, .slice none 0 0] 80)).cell? ⟨w.heap.size, 0, none⟩ = some (.int .i64 kd) := (((Blk.new w 80 #[.int .i64 kd, .int .i64 sg, .string (bs nm), .slice As ms.length ks]).alloc _)).cell 0
  have a1 : ((w.alloc (.cells #[.int .i64 kd, .int .i64 sg, .string (bs nm), .slice As ms.length ks] 80)).alloc (.cells #[.int .i64 0, .int .i64 0, .string ⟨#[]⟩, .slice none 0 0] 80)).cell? ⟨w.heap.size, 1, none⟩ = some (.int .i64 sg) := (((Blk.new w 80 #[.int .i64 kd, .int .i64 sg, .string (bs nm), .slice As ms.length ks]).alloc _)).cell 1
  have a2 : ((w.alloc (.cells #[.int .i64 kd, .int .i64 sg, .string (bs nm), .slice As ms.length ks] 80)).alloc (.cells #[.int .i64 0, .int .i64 0, .string ⟨#[]⟩, .slice none 0 0] 80)).cell? ⟨w.heap.size, 2, none⟩ = some (.string (bs nm)) := (((Blk.new w 80 #[.int .i64 kd, .int .i64 sg, .string (bs nm), .slice As ms.length ks]).alloc _)).cell 2
  have a3 : ((w.alloc (.cells #[.int .i64 kd, .int .i64 sg, .string (bs nm), .slice As ms.length ks] 80)).alloc (.cells #[.int .i64 0, .int .i64 0, .string ⟨#[]⟩, .slice none 0 0] 80)).cell? ⟨w.heap.size, 3, none⟩ = some (.slice As ms.length ks) := (((Blk.new w 80 #[.int .i64 kd, .int .i64 sg, .string (bs nm), .slice As ms.length ks]).alloc _)).cell 3
  go_enter Tryz.func146, Tryz.ntmps146
  go_upto_region 2 with fail
  rw [HW1.out]
  clear HW1 a0 a1 a2 a3
  have b3 : w1.cell? ⟨w.heap.size, 3, none⟩ = some (.slice As ms.length ks) := K0.out.cell 3
  have hlx := K2.out.lt
  have HC := Lib.hid (lentR_any ms As ks w1 (HOK.out.new HB1.out) (by omega))
  go_wp2_with fail
  refine HC.out.mono ?_
  rintro a wb0 ⟨⟨gs, cs, rfl, hcs, hown⟩, hb⟩
  have hls := LtV.own (X := fun b => b < w1.heap.size) hown (fun b h1 h2 => by have h3 : b < w1.heap.size := h2; omega) hcs
  rw [rfC_app] at hls
  clear hown
  have Ls := Lib.hid ((hls).fx (S := fun _ => False) (X' := fun b => b < w.heap.size + 3) Fx.refl (fun b _ h => h.elim False.elim (fun h => Nat.lt_of_lt_of_le h (by show w.heap.size + 1 + 1 + 1 ≤ _; omega))))
  have J0 := Lib.hid (K0.out.below hb K0.out.lt)
  have J1 := Lib.hid (K1.out.below hb K1.out.lt)
  have J2 := Lib.hid (K2.out.below hb K2.out.lt)
  have JB := Lib.hid (below_of_below HB1.out hb HB1.out.size)
  clear hb HC b3 K0 K1 K2 HB1 hlx hls
  have y3 : wb0.cell? ⟨w.heap.size + 1 + 1, 3, none⟩ = some (.slice As ms.length ks) := J2.out.cell 3
  have yf := J2.out.frozen 3
  have kx := fx_set18 wb0 (w.heap.size + 1 + 1) 3 (.slice (some ⟨gs, 0, none⟩) ms.length cs)
  have K0 := Lib.hid (kx.blk J0.out (by show ¬ w.heap.size = w.heap.size + 1 + 1; omega))
  have K1 := Lib.hid (kx.blk J1.out (by show ¬ w.heap.size + 1 = w.heap.size + 1 + 1; omega))
  have K2 := Lib.hid (J2.out.set_ 3 (.slice (some ⟨gs, 0, none⟩) ms.length cs))
  have HB1 := Lib.hid (JB.out.setCell (p := ⟨w.heap.size + 1 + 1, 3, none⟩) (by show w.heap.size ≤ w.heap.size + 1 + 1; omega) (.slice (some ⟨gs, 0, none⟩) ms.length cs))
  have Ms := Lib.hid (Ls.out.fx kx (X' := fun b => b < w.heap.size + 3) (fun b _ hh => hh.elim (fun h => by have h2 : b = w.heap.size + 1 + 1 := h; show b < _; omega) id))
  clear Ls
  have Ls := Ms
  clear Ms
  clear kx J0 J1 J2 JB
  go_upto_region 3 with fail
  obtain ⟨wa0, hwa⟩ : ∃ y, wb0.setCell ⟨w.heap.size + 1 + 1, 3, none⟩ (.slice (some ⟨gs, 0, none⟩) ms.length cs) = y := ⟨_, rfl⟩
  rw [hwa] at K0 K1 K2 HB1 Ls
  rw [hwa]
  clear hwa y3 yf
  have K3 : Hid (Blk wa0 (w.heap.size + 1 + 1) 80 #[.int .i64 kd, .int .i64 sg, .string (bs nm), .slice (some ⟨gs, 0, none⟩) ms.length cs]) := Lib.hid K2.out
  clear K2 K0
  have y0 : wa0.cell? ⟨w.heap.size + 1 + 1, 0, none⟩ = some (.int .i64 kd) := K3.out.cell 0
  have y1 : wa0.cell? ⟨w.heap.size + 1 + 1, 1, none⟩ = some (.int .i64 sg) := K3.out.cell 1
  have y2 : wa0.cell? ⟨w.heap.size + 1 + 1, 2, none⟩ = some (.string (bs nm)) := K3.out.cell 2
  have y3 : wa0.cell? ⟨w.heap.size + 1 + 1, 3, none⟩ = some (.slice (some ⟨gs, 0, none⟩) ms.length cs) := K3.out.cell 3
  go_wp2_with (refine wpList_store_st rfl _ _ _ rfl nodeTl (w.heap.size + 1) #[.int .i64 kd, .int .i64 sg, .string (bs nm), .slice (some ⟨gs, 0, none⟩) ms.length cs] #[.int .i64 0, .int .i64 0, .string ⟨#[]⟩, .slice none 0 0] rfl rfl K1.out rfl rfl rfl ?_; intro wz hKz hGz _)
  have kz := (Fx.of_grown hGz).mono (S' := fun b => b = w.heap.size + 1) (fun b _ h => by injection h with h; exact h.symm)
  have hX : ∀ b, b < wa0.heap.size → b = w.heap.size + 1 ∨ b < w.heap.size → b < w.heap.size + 3 := fun b _ h => by omega
  refine bodyPost_ret (results_c0 rfl nodeTl rfl hKz rfl) rfl ⟨⟨_, rfl, Ls.out.fx kz hX⟩, ?_⟩
  exact HB1.out.trans (kz.to_below HB1.out.size (fun b h => by have h2 : b = w.heap.size + 1 := h; omega))
set_option maxRecDepth 100000 in
set_option maxHeartbeats 4000000 in
theorem lentNodes_any (l : List NdM) (v : Value) (w : World) (hl : NdsA w v l) (hsm : ∀ G ∈ l, G.froms.length ≤ 1050000) (hn : l.length ≤ 1050000) : Calls Tryz.prog 82 #[v] w fun r w' => (∃ v' l', r = .returned v' ∧ LNs w' (fun b => b < w.heap.size) v' l' ∧ l'.map NdM.nd = l.map NdM.nd) ∧ Below w.heap.size w w' := by
  obtain ⟨A0, k0, rfl⟩ := hl.1.form
  have HL := Lib.hid hl
  have HSM := Lib.hid hsm
  clear hl hsm
  go_enter Tryz.func82, Tryz.ntmps82
  go_wp2_with fail
  go_loopw [3, 4, 5] (fun t3 t4 _ wr => ∃ (i : Nat) (l' : List NdM), i ≤ l.length ∧ t4 = .int .i64 (i : Int) ∧ wr.ownsRow w.heap.size 80 4 t3 i (ndC l') ∧ l'.length = i ∧ Hid (l'.map NdM.nd = (l.take i).map NdM.nd) ∧ Hid (∀ m ∈ l', LNd wr (fun b => b < w.heap.size ∨ t3.ownBlock = some b) m) ∧ Hid (Below w.heap.size w wr)) (fun _ t4 _ _ => l.length - (intOf t4).toNat)
  case atStart => exact ⟨0, [], by omega, rfl, World.ownsRow_nil _ _ _ _, rfl, Lib.hid rfl, Lib.hid (fun m hm => by cases hm), Lib.hid (Below.refl _ _)⟩
  case round =>
    rename World => wr
    obtain ⟨i, l', hi, rfl, hown, hl', HM, HLT, HB⟩ := hrel
    obtain ⟨AA, ca, rfl⟩ := ownk_form hown
    have HO := Lib.hid hown
    have HLL := Lib.hid hl'
    clear hown hl'
    have j0 : (0 : Int) ≤ (i : Int) := by omega
    rcases Nat.lt_or_ge i l.length with hin | hin
    · have i0 : decide ((i : Int) < (l.length : Int)) = true := by rw [decide_eq_true_eq]; omega
      have i1 : (i : Int) < (l.length : Int) := by omega
      have hsmi := HSM.out _ (List.getElem_mem hin)
      obtain ⟨g, o, cc, G, A, kk, hv, hG, hGv, hGs, c0, c1, c2, c3⟩ := nd_full (HL.out.new HB.out) hin
      injection hv with hA _ hcc
      subst hA hcc
      rw [hG] at hsmi
      have HMS : Hid ((l.take (i + 1)).map NdM.nd = (l.take i).map NdM.nd ++ [G.nd]) := Lib.hid (by rw [List.take_add_one, List.getElem?_eq_getElem hin, List.map_append, hG]; rfl)
      have HC := Lib.hid (lentNode_any G wr hGs hsmi)
      rw [hGv] at HC
      clear hGs hGv hG hsmi
      go_wp2_with fail
      refine HC.out.mono ?_
      rintro a w1 ⟨⟨vs, rfl, hlt⟩, hb1⟩
      have hlt' := hlt
      obtain ⟨gp, cp, ep, _⟩ := hlt'
      dsimp only at ep
      subst ep
      have HGG : Hid ((⟨G.base, .slice (some ⟨gp, 0, none⟩) G.froms.length cp, G.froms⟩ : NdM).nd = G.nd) := Lib.hid rfl
      have HN : Hid (LNd w1 (fun b => b < wr.heap.size) ⟨G.base, .slice (some ⟨gp, 0, none⟩) G.froms.length cp, G.froms⟩) := Lib.hid hlt
      clear hlt HC c0 c1 c2 c3
      have hbw1 := below_of_below HB.out hb1 HB.out.size
      have HO1 := Lib.hid (own_below HO.out hb1)
      have kb2 := (Below.refl w1.heap.size w1).alloc (Nat.le_refl _) (.cells #[.int .i64 G.base.kind, .int .i64 G.base.stage, .string (bs G.base.name), .slice (some ⟨gp, 0, none⟩) G.froms.length cp] 80)
      have HO2 := Lib.hid (own_below HO1.out kb2)
      have hbw2 := below_of_below hbw1 kb2 hbw1.size
      have HK2 := Lib.hid (Blk.new w1 80 #[.int .i64 G.base.kind, .int .i64 G.base.stage, .string (bs G.base.name), .slice (some ⟨gp, 0, none⟩) G.froms.length cp])
      have hwr := HB.out.size
      have hr1 := hb1.size
      go_upto_region 6 with fail
      obtain ⟨Z, hZ⟩ : ∃ Z, w1.heap.size = Z := ⟨_, rfl⟩
      have K12 : Hid (Fx (fun _ => False) w1 (w1.alloc (.cells #[.int .i64 G.base.kind, .int .i64 G.base.stage, .string (bs G.base.name), .slice (some ⟨gp, 0, none⟩) G.froms.length cp] 80))) := Lib.hid (Fx.new kb2)
      have K01 : Hid (Fx (fun _ => False) wr w1) := Lib.hid (Fx.new hb1)
      have hz2 : w1.heap.size < (w1.alloc (.cells #[.int .i64 G.base.kind, .int .i64 G.base.stage, .string (bs G.base.name), .slice (some ⟨gp, 0, none⟩) G.froms.length cp] 80)).heap.size := by rw [World.size_alloc]; omega
      obtain ⟨w2, hw2⟩ : ∃ y, w1.alloc (.cells #[.int .i64 G.base.kind, .int .i64 G.base.stage, .string (bs G.base.name), .slice (some ⟨gp, 0, none⟩) G.froms.length cp] 80) = y := ⟨_, rfl⟩
      rw [hw2] at HO2 hbw2 HK2 K12 hz2
      rw [hZ] at HK2
      rw [hw2, hZ]
      clear hw2 kb2 hb1
      have HBW2 := Lib.hid hbw2
      have y0 : w2.cell? ⟨Z, 0, none⟩ = some (.int .i64 G.base.kind) := HK2.out.cell 0
      have y1 : w2.cell? ⟨Z, 1, none⟩ = some (.int .i64 G.base.stage) := HK2.out.cell 1
      have y2 : w2.cell? ⟨Z, 2, none⟩ = some (.string (bs G.base.name)) := HK2.out.cell 2
      have y3 : w2.cell? ⟨Z, 3, none⟩ = some (.slice (some ⟨gp, 0, none⟩) G.froms.length cp) := HK2.out.cell 3
      have HNW := Lib.hid (news_at w2 w2.heap.size rfl [.int .i64 G.base.kind, .int .i64 G.base.stage, .string (bs G.base.name), .slice (some ⟨gp, 0, none⟩) G.froms.length cp] 80)
      have HOA := Lib.hid (HO2.out.alloc (.cells #[.int .i64 G.base.kind, .int .i64 G.base.stage, .string (bs G.base.name), .slice (some ⟨gp, 0, none⟩) G.froms.length cp] 80))
      have HBA := Lib.hid ((Below.refl w.heap.size w2).alloc HBW2.out.size (.cells #[.int .i64 G.base.kind, .int .i64 G.base.stage, .string (bs G.base.name), .slice (some ⟨gp, 0, none⟩) G.froms.length cp] 80))
      have HSA : Hid (w.heap.size ≤ (w2.alloc (.cells #[.int .i64 G.base.kind, .int .i64 G.base.stage, .string (bs G.base.name), .slice (some ⟨gp, 0, none⟩) G.froms.length cp] 80)).heap.size) := Lib.hid (Nat.le_trans HBW2.out.size (by rw [World.size_alloc]; omega))
      have K23 : Hid (Fx (fun _ => False) w2 (w2.alloc (.cells #[.int .i64 G.base.kind, .int .i64 G.base.stage, .string (bs G.base.name), .slice (some ⟨gp, 0, none⟩) G.froms.length cp] 80))) := Lib.hid (Fx.new ((Below.refl _ _).alloc (Nat.le_refl _) _))
      go_wp2_with (at_builtin; refine wpList_appk rfl _ _ _ rfl nodeKl w.heap.size _ _ _ rfl HOA.out _ 1 1 [.int .i64 G.base.kind, .int .i64 G.base.stage, .string (bs G.base.name), .slice (some ⟨gp, 0, none⟩) G.froms.length cp] rfl rfl HNW.out (one_of_all rfl) (by omega) (by omega) HBA.out HSA.out ?_; intro v6 w6 ho6 hb6 hg6 hat6; obtain ⟨A6, c6, rfl⟩ := ownk_form ho6)
      have hgr : (w2.alloc (.cells #[.int .i64 G.base.kind, .int .i64 G.base.stage, .string (bs G.base.name), .slice (some ⟨gp, 0, none⟩) G.froms.length cp] 80)).grownBy w6 (Value.slice AA i ca).ownBlock := hg6
      have hat : (Value.slice A6 (i + 1) c6).ownBlock = (Value.slice AA i ca).ownBlock ∨ (Value.slice A6 (i + 1) c6).ownBlock = some (w2.alloc (.cells #[.int .i64 G.base.kind, .int .i64 G.base.stage, .string (bs G.base.name), .slice (some ⟨gp, 0, none⟩) G.froms.length cp] 80)).heap.size := hat6
      have kg := Fx.of_grown hgr
      have hsz3 : w2.heap.size ≤ (w2.alloc (.cells #[.int .i64 G.base.kind, .int .i64 G.base.stage, .string (bs G.base.name), .slice (some ⟨gp, 0, none⟩) G.froms.length cp] 80)).heap.size := K23.out.size
      have hAl : ∀ b, (Value.slice AA i ca).ownBlock = some b → b < wr.heap.size := fun b hb => (HO.out.lt b hb).2
      have hX6 : ∀ b, b < (w2.alloc (.cells #[.int .i64 G.base.kind, .int .i64 G.base.stage, .string (bs G.base.name), .slice (some ⟨gp, 0, none⟩) G.froms.length cp] 80)).heap.size → (Value.slice A6 (i + 1) c6).ownBlock = some b → (Value.slice AA i ca).ownBlock = some b := fun b hb h => by
        rcases hat with e | e
        · exact e ▸ h
        · rw [e] at h; injection h with h; omega
      have HLT6 : Hid (∀ m ∈ l' ++ [(⟨G.base, .slice (some ⟨gp, 0, none⟩) G.froms.length cp, G.froms⟩ : NdM)], LNd w6 (fun b => b < w.heap.size ∨ (Value.slice A6 (i + 1) c6).ownBlock = some b) m) := Lib.hid (fun m hm => by
        rcases List.mem_append.1 hm with hm | hm
        · have q1 := (((HLT.out m hm).fx (X' := fun b => b < w.heap.size ∨ (Value.slice AA i ca).ownBlock = some b) K01.out (fun b _ h => h.elim False.elim id)).fx (X' := fun b => b < w.heap.size ∨ (Value.slice AA i ca).ownBlock = some b) K12.out (fun b _ h => h.elim False.elim id)).fx (X' := fun b => b < w.heap.size ∨ (Value.slice AA i ca).ownBlock = some b) K23.out (fun b _ h => h.elim False.elim id)
          exact q1.fx kg (fun b hb h => by
            rcases h with h | h | h
            · exact .inr h
            · exact .inl h
            · exact .inr (hX6 b hb h))
        · rw [List.mem_singleton] at hm
          subst hm
          have q1 := (HN.out.fx (X' := fun b => b < wr.heap.size) K12.out (fun b _ h => h.elim False.elim id)).fx (X' := fun b => b < wr.heap.size) K23.out (fun b _ h => h.elim False.elim id)
          exact q1.fx kg (fun b hb h => by
            rcases h with h | h | h
            · exact hAl b h
            · exact Nat.lt_of_lt_of_le h hwr
            · exact hAl b (hX6 b hb h)))
      have HO6 : Hid (w6.ownsRow w.heap.size 80 4 (.slice A6 (i + 1) c6) (i + 1) (ndC (l' ++ [(⟨G.base, .slice (some ⟨gp, 0, none⟩) G.froms.length cp, G.froms⟩ : NdM)]))) := Lib.hid (by rw [ndC_snoc]; exact ho6)
      have HB6 := Lib.hid (HBW2.out.trans hb6)
      have HM6 : Hid ((l' ++ [(⟨G.base, .slice (some ⟨gp, 0, none⟩) G.froms.length cp, G.froms⟩ : NdM)]).map NdM.nd = (l.take (i + 1)).map NdM.nd) := Lib.hid (by rw [HMS.out, List.map_append, HM.out]; show _ ++ [_] = _; rw [HGG.out])
      clear ho6 hb6 hg6 hat6 hgr hat kg hX6 hAl HLT HO HO1 HO2 HOA HBA HSA HNW K12 K23 K01
      go_roundw
      case rel => exact ⟨i + 1, _, by omega, by go_num, HO6.out, by rw [List.length_append, HLL.out]; rfl, HM6, HLT6, HB6⟩
      case measure => simp [intOf]; omega
    · have i0 : decide ((i : Int) < (l.length : Int)) = false := by rw [decide_eq_false_iff_not]; omega
      obtain rfl : i = l.length := by omega
      have HMM : Hid (l'.map NdM.nd = l.map NdM.nd) := Lib.hid (by have h := HM.out; rwa [List.take_length] at h)
      clear HM
      have H0 : Hid (wr.ownsRow w.heap.size 80 4 (.slice AA l.length ca) (l.length + 0) (ndC (l' ++ marksN 0))) := Lib.hid (by rw [show marksN 0 = [] from rfl, List.append_nil]; exact HO.out)
      clear HO
      go_wp2_with fail
      go_loopw [3, 6] (fun t3 t6 wv => ∃ j : Nat, j ≤ 16 ∧ t6 = .int .i64 (j : Int) ∧ wv.ownsRow w.heap.size 80 4 t3 (l.length + j) (ndC (l' ++ marksN j)) ∧ Hid (∀ m ∈ l', LNd wv (fun b => b < w.heap.size ∨ t3.ownBlock = some b) m) ∧ Hid (Below w.heap.size w wv)) (fun _ t6 _ => 16 - (intOf t6).toNat)
      case atStart => exact ⟨0, by omega, rfl, H0.out, HLT, HB⟩
      case round =>
        clear H0 HLT HB
        rename World => wv
        obtain ⟨j, hj, rfl, hown, HLT, HB⟩ := hrel
        obtain ⟨A2, c2, rfl⟩ := ownk_form hown
        have HO := Lib.hid hown
        clear hown
        rcases Nat.lt_or_ge j 16 with hjn | hjn
        · have j1 : (j : Int) < 16 := by omega
          have hT : Hid (ndC (l' ++ marksN (j + 1)) = ndC (l' ++ marksN j) ++ #[.int .i64 (-7), .int .i64 0, .string ⟨#[]⟩, .slice none 0 0].toList) := Lib.hid (by rw [show marksN (j + 1) = marksN j ++ [mkN] from List.replicate_succ', ← List.append_assoc, ndC_snoc]; rfl)
          have HNW := Lib.hid (news_at wv wv.heap.size rfl #[.int .i64 (-7), .int .i64 0, .string ⟨#[]⟩, .slice none 0 0].toList 80)
          have HOA := Lib.hid (HO.out.alloc (.cells #[.int .i64 (-7), .int .i64 0, .string ⟨#[]⟩, .slice none 0 0] 80))
          have HBA := Lib.hid ((Below.refl w.heap.size wv).alloc HB.out.size (.cells #[.int .i64 (-7), .int .i64 0, .string ⟨#[]⟩, .slice none 0 0] 80))
          have HSA : Hid (w.heap.size ≤ (wv.alloc (.cells #[.int .i64 (-7), .int .i64 0, .string ⟨#[]⟩, .slice none 0 0] 80)).heap.size) := Lib.hid (Nat.le_trans HB.out.size (by rw [World.size_alloc]; omega))
          have K23 : Hid (Fx (fun _ => False) wv (wv.alloc (.cells #[.int .i64 (-7), .int .i64 0, .string ⟨#[]⟩, .slice none 0 0] 80))) := Lib.hid (Fx.new ((Below.refl _ _).alloc (Nat.le_refl _) _))
          go_wp2_with (at_builtin; refine wpList_appk rfl _ _ _ rfl nodeKl w.heap.size _ _ _ rfl HOA.out _ 1 1 #[.int .i64 (-7), .int .i64 0, .string ⟨#[]⟩, .slice none 0 0].toList rfl rfl HNW.out (one_of_all rfl) (by omega) (by omega) HBA.out HSA.out ?_; intro v6 w6 ho6 hb6 hg6 hat6; obtain ⟨A6, c6, rfl⟩ := ownk_form ho6)
          have hgr : (wv.alloc (.cells #[.int .i64 (-7), .int .i64 0, .string ⟨#[]⟩, .slice none 0 0] 80)).grownBy w6 (Value.slice A2 (l.length + j) c2).ownBlock := hg6
          have hat : (Value.slice A6 (l.length + j + 1) c6).ownBlock = (Value.slice A2 (l.length + j) c2).ownBlock ∨ (Value.slice A6 (l.length + j + 1) c6).ownBlock = some (wv.alloc (.cells #[.int .i64 (-7), .int .i64 0, .string ⟨#[]⟩, .slice none 0 0] 80)).heap.size := hat6
          have kg := Fx.of_grown hgr
          have HLT6 : Hid (∀ m ∈ l', LNd w6 (fun b => b < w.heap.size ∨ (Value.slice A6 (l.length + j + 1) c6).ownBlock = some b) m) := Lib.hid (fun m hm => by
            have q1 := (HLT.out m hm).fx (X' := fun b => b < w.heap.size ∨ (Value.slice A2 (l.length + j) c2).ownBlock = some b) K23.out (fun b _ h => h.elim False.elim id)
            exact q1.fx kg (fun b hb h => by
              rcases h with h | h | h
              · exact .inr h
              · exact .inl h
              · rcases hat with e | e
                · exact .inr (e ▸ h)
                · rw [e] at h; injection h with h; omega))
          have HO6 : Hid (w6.ownsRow w.heap.size 80 4 (.slice A6 (l.length + j + 1) c6) (l.length + (j + 1)) (ndC (l' ++ marksN (j + 1)))) := Lib.hid (by rw [hT.out]; exact ho6)
          have HB6 := Lib.hid (HB.out.trans hb6)
          clear ho6 hb6 hg6 hat6 hgr hat kg HLT HO HOA HBA HSA HNW K23
          go_roundw
          case rel => exact ⟨j + 1, by omega, by go_num, HO6.out, HLT6, HB6⟩
          case measure => simp [intOf]; omega
        · obtain rfl : j = 16 := by omega
          obtain ⟨g, cap, hv, _⟩ := HO.out.form (by omega)
          injection hv with hA _ hc
          subst hA hc
          have hc2 : l.length + 16 ≤ c2 := by
            rcases own_two18 HO.out with ⟨h, _⟩ | ⟨b, c', h, hc⟩
            · cases h
            · injection h with _ _ h; omega
          have HLN : Hid (l'.length = l.length) := Lib.hid HLL.out
          have i1 : (0 : Int) ≤ (l.length : Int) := by omega
          have i2 : (l.length : Int) ≤ (c2 : Int) := by omega
          have i3 : l.length ≤ c2 := by omega
          go_wp2_with fail
          go_ret
          refine ⟨⟨_, rfl, l', ⟨?_, fun m hm => (HLT.out m hm).fx (S := fun _ => False) Fx.refl (fun b _ h => h.elim False.elim .inl)⟩, HMM.out⟩, HB.out⟩
          have q := LtV.own (n := l.length) (X := fun b => b < w.heap.size) HO.out (fun b h1 h2 => by have h3 : b < w.heap.size := h2; omega) hc2
          rw [HLN.out, ← ndC_app]
          exact q
theorem sc_app (a b : List (List UInt8)) : sc (a ++ b) = sc a ++ sc b := by simp [sc]
set_option maxRecDepth 100000 in
set_option maxHeartbeats 2000000 in
theorem lentPlan_any (p : PM) (w : World) (hok : p.Ok w) (hn : p.nodes.length ≤ 1050000) (hnf : ∀ n ∈ p.nodes, n.froms.length ≤ 1050000) (hd : p.need.length ≤ 1050000) (hi : p.images.length ≤ 1050000) : Calls Tryz.prog 18 #[.agg #[p.vn, .int .i64 p.target, p.vd, p.vi]] w fun r w' => (∃ vn nodes vd vi, r = .returned (.agg #[vn, .int .i64 p.target, vd, vi]) ∧ LNs w' (fun b => b < w.heap.size) vn nodes ∧ nodes.map NdM.nd = p.nodes.map NdM.nd ∧ LtV w' (fun b => b < w.heap.size) vd p.need.length (icC p.need ++ icC (marksI 16)) ∧ LtV w' (fun b => b < w.heap.size) vi p.images.length (sc p.images ++ sc (marksT 16))) ∧ Below w.heap.size w w' := by
  obtain ⟨vn, nodes, target, vd, need, vi, images⟩ := p
  have hcn : NdsA w vn nodes := hok.n
  have hcd : SlA w vd need.length (icC need) := hok.d
  have hci : SlA w vi images.length (sc images) := hok.i
  dsimp only at hn hnf hd hi ⊢
  clear hok
  obtain ⟨An, kn, rfl⟩ := hcn.1.form
  obtain ⟨Ad, kd, rfl⟩ := hcd.form
  obtain ⟨Ai, ki, rfl⟩ := hci.form
  have HN := Lib.hid hcn
  have HD := Lib.hid hcd
  have HI := Lib.hid hci
  have HNF := Lib.hid hnf
  clear hcn hcd hci hnf
  obtain ⟨w1, hw1⟩ : ∃ y, ((w.alloc (.cells #[.slice An nodes.length kn, .int .i64 target, .slice Ad need.length kd, .slice Ai images.length ki] 32)).alloc (.cells #[.slice none 0 0, .int .i64 0, .slice none 0 0, .slice none 0 0] 32)).alloc (.cells #[.slice An nodes.length kn, .int .i64 target, .slice Ad need.length kd, .slice Ai images.length ki] 32) = y := ⟨_, rfl⟩
  have HB1 : Hid (Below w.heap.size w w1) := Lib.hid (by rw [← hw1]; exact (((Below.refl _ _).alloc (Nat.le_refl _) _).alloc (by rw [World.size_alloc]; omega) _).alloc (by rw [World.size_alloc, World.size_alloc]; omega) _)
  have K0 : Hid (Blk w1 w.heap.size 32 #[.slice An nodes.length kn, .int .i64 target, .slice Ad need.length kd, .slice Ai images.length ki]) := Lib.hid (by rw [← hw1]; exact ((Blk.new w _ _).alloc _).alloc _)
  have K1 : Hid (Blk w1 (w.heap.size + 1) 32 #[.slice none 0 0, .int .i64 0, .slice none 0 0, .slice none 0 0]) := Lib.hid (by have q := Blk.new (w.alloc (.cells #[.slice An nodes.length kn, .int .i64 target, .slice Ad need.length kd, .slice Ai images.length ki] 32)) 32 #[.slice none 0 0, .int .i64 0, .slice none 0 0, .slice none 0 0]; rw [World.size_alloc] at q; rw [← hw1]; exact q.alloc _)
  have K2 : Hid (Blk w1 (w.heap.size + 1 + 1) 32 #[.slice An nodes.length kn, .int .i64 target, .slice Ad need.length kd, .slice Ai images.length ki]) := Lib.hid (by have q := Blk.new ((w.alloc (.cells #[.slice An nodes.length kn, .int .i64 target, .slice Ad need.length kd, .slice Ai images.length ki] 32)).alloc (.cells #[.slice none 0 0, .int .i64 0, .slice none 0 0, .slice none 0 0] 32)) 32 #[.slice An nodes.length kn, .int .i64 target, .slice Ad need.length kd, .slice Ai images.length ki]; rw [World.size_alloc, World.size_alloc] at q; rw [← hw1]; exact q)
  have HW1 := Lib.hid hw1
  clear hw1
  have a0 : ((w.alloc (.cells #[.slice An nodes.length kn, .int .i64 target, .slice Ad need.length kd, .slice Ai images.length ki] 32)).alloc (.cells #[.slice none 0 0, .int .i64 0, .slice none 0 0, .slice none 0 0] 32)).cell? ⟨w.heap.size, 0, none⟩ = some (.slice An nodes.length kn) := (((Blk.new w 32 #[.slice An nodes.length kn, .int .i64 target, .slice Ad need.length kd, .slice Ai images.length ki]).alloc _)).cell 0
  have a1 : ((w.alloc (.cells #[.slice An nodes.length kn, .int .i64 target, .slice Ad need.length kd, .slice Ai images.length ki] 32)).alloc (.cells #[.slice none 0 0, .int .i64 0, .slice none 0 0, .slice none 0 0] 32)).cell? ⟨w.heap.size, 1, none⟩ = some (.int .i64 target) := (((Blk.new w 32 #[.slice An nodes.length kn, .int .i64 target, .slice Ad need.length kd, .slice Ai images.length ki]).alloc _)).cell 1
  have a2 : ((w.alloc (.cells #[.slice An nodes.length kn, .int .i64 target, .slice Ad need.length kd, .slice Ai images.length ki] 32)).alloc (.cells #[.slice none 0 0, .int .i64 0, .slice none 0 0, .slice none 0 0] 32)).cell? ⟨w.heap.size, 2, none⟩ = some (.slice Ad need.length kd) := (((Blk.new w 32 #[.slice An nodes.length kn, .int .i64 target, .slice Ad need.length kd, .slice Ai images.length ki]).alloc _)).cell 2
  have a3 : ((w.alloc (.cells #[.slice An nodes.length kn, .int .i64 target, .slice Ad need.length kd, .slice Ai images.length ki] 32)).alloc (.cells #[.slice none 0 0, .int .i64 0, .slice none 0 0, .slice none 0 0] 32)).cell? ⟨w.heap.size, 3, none⟩ = some (.slice Ai images.length ki) := (((Blk.new w 32 #[.slice An nodes.length kn, .int .i64 target, .slice Ad need.length kd, .slice Ai images.length ki]).alloc _)).cell 3
  go_enter Tryz.func18, Tryz.ntmps18
  go_upto_region 2 with fail
  rw [HW1.out]
  clear HW1 a0 a1 a2 a3
  have b0 : w1.cell? ⟨w.heap.size, 0, none⟩ = some (.slice An nodes.length kn) := K0.out.cell 0
  have hlx := K2.out.lt
  have HC := Lib.hid (lentNodes_any nodes (.slice An nodes.length kn) w1 (HN.out.new HB1.out) HNF.out hn)
  go_wp2_with fail
  refine HC.out.mono ?_
  rintro a wb0 ⟨⟨v', l', rfl, hln, hlm⟩, hb⟩
  have HLM := Lib.hid hlm
  obtain ⟨gn, cn, en, _⟩ := hln.r
  subst en
  clear hlm
  have Ln := Lib.hid ((hln).fx (S := fun _ => False) (X' := fun b => b < w.heap.size + 3) Fx.refl (fun b _ h => h.elim False.elim (fun h => Nat.lt_of_lt_of_le h (by show w.heap.size + 1 + 1 + 1 ≤ _; omega))))
  have J0 := Lib.hid (K0.out.below hb K0.out.lt)
  have J1 := Lib.hid (K1.out.below hb K1.out.lt)
  have J2 := Lib.hid (K2.out.below hb K2.out.lt)
  have JB := Lib.hid (below_of_below HB1.out hb HB1.out.size)
  clear hb HC b0 K0 K1 K2 HB1 hlx hln
  have y0 : wb0.cell? ⟨w.heap.size + 1 + 1, 0, none⟩ = some (.slice An nodes.length kn) := J2.out.cell 0
  have yf := J2.out.frozen 0
  have kx := fx_set18 wb0 (w.heap.size + 1 + 1) 0 (.slice (some ⟨gn, 0, none⟩) l'.length cn)
  have K0 := Lib.hid (kx.blk J0.out (by show ¬ w.heap.size = w.heap.size + 1 + 1; omega))
  have K1 := Lib.hid (kx.blk J1.out (by show ¬ w.heap.size + 1 = w.heap.size + 1 + 1; omega))
  have K2 := Lib.hid (J2.out.set_ 0 (.slice (some ⟨gn, 0, none⟩) l'.length cn))
  have HB1 := Lib.hid (JB.out.setCell (p := ⟨w.heap.size + 1 + 1, 0, none⟩) (by show w.heap.size ≤ w.heap.size + 1 + 1; omega) (.slice (some ⟨gn, 0, none⟩) l'.length cn))
  have Mn := Lib.hid (Ln.out.fx kx (X' := fun b => b < w.heap.size + 3) (fun b _ hh => hh.elim (fun h => by have h2 : b = w.heap.size + 1 + 1 := h; show b < _; omega) id))
  clear Ln
  have Ln := Mn
  clear Mn
  clear kx J0 J1 J2 JB
  go_upto_region 3 with fail
  obtain ⟨wa0, hwa⟩ : ∃ y, wb0.setCell ⟨w.heap.size + 1 + 1, 0, none⟩ (.slice (some ⟨gn, 0, none⟩) l'.length cn) = y := ⟨_, rfl⟩
  rw [hwa] at K0 K1 K2 HB1 Ln
  rw [hwa]
  clear hwa y0 yf
  have b2 : wa0.cell? ⟨w.heap.size, 2, none⟩ = some (.slice Ad need.length kd) := K0.out.cell 2
  have hlx := K2.out.lt
  have HC := Lib.hid (lentI_any need Ad kd wa0 (HD.out.new HB1.out) (by omega))
  go_wp2_with fail
  refine HC.out.mono ?_
  rintro a wb1 ⟨⟨gd, cd, rfl, hcs, hown⟩, hb⟩
  have hld := LtV.own (X := fun b => b < wa0.heap.size) hown (fun b h1 h2 => by have h3 : b < wa0.heap.size := h2; omega) hcs
  clear hown
  rw [icC_app] at hld
  have Ld := Lib.hid ((hld).fx (S := fun _ => False) (X' := fun b => b < w.heap.size + 3) Fx.refl (fun b _ h => h.elim False.elim (fun h => Nat.lt_of_lt_of_le h (by show w.heap.size + 1 + 1 + 1 ≤ _; omega))))
  have J0 := Lib.hid (K0.out.below hb K0.out.lt)
  have J1 := Lib.hid (K1.out.below hb K1.out.lt)
  have J2 := Lib.hid (K2.out.below hb K2.out.lt)
  have JB := Lib.hid (below_of_below HB1.out hb HB1.out.size)
  have Mn := Lib.hid (Ln.out.new hb)
  clear Ln
  have Ln := Mn
  clear Mn
  clear hb HC b2 K0 K1 K2 HB1 hlx hld
  have y2 : wb1.cell? ⟨w.heap.size + 1 + 1, 2, none⟩ = some (.slice Ad need.length kd) := J2.out.cell 2
  have yf := J2.out.frozen 2
  have kx := fx_set18 wb1 (w.heap.size + 1 + 1) 2 (.slice (some ⟨gd, 0, none⟩) need.length cd)
  have K0 := Lib.hid (kx.blk J0.out (by show ¬ w.heap.size = w.heap.size + 1 + 1; omega))
  have K1 := Lib.hid (kx.blk J1.out (by show ¬ w.heap.size + 1 = w.heap.size + 1 + 1; omega))
  have K2 := Lib.hid (J2.out.set_ 2 (.slice (some ⟨gd, 0, none⟩) need.length cd))
  have HB1 := Lib.hid (JB.out.setCell (p := ⟨w.heap.size + 1 + 1, 2, none⟩) (by show w.heap.size ≤ w.heap.size + 1 + 1; omega) (.slice (some ⟨gd, 0, none⟩) need.length cd))
  have Mn := Lib.hid (Ln.out.fx kx (X' := fun b => b < w.heap.size + 3) (fun b _ hh => hh.elim (fun h => by have h2 : b = w.heap.size + 1 + 1 := h; show b < _; omega) id))
  clear Ln
  have Ln := Mn
  clear Mn
  have Md := Lib.hid (Ld.out.fx kx (X' := fun b => b < w.heap.size + 3) (fun b _ hh => hh.elim (fun h => by have h2 : b = w.heap.size + 1 + 1 := h; show b < _; omega) id))
  clear Ld
  have Ld := Md
  clear Md
  clear kx J0 J1 J2 JB
  go_upto_region 4 with fail
  obtain ⟨wa1, hwa⟩ : ∃ y, wb1.setCell ⟨w.heap.size + 1 + 1, 2, none⟩ (.slice (some ⟨gd, 0, none⟩) need.length cd) = y := ⟨_, rfl⟩
  rw [hwa] at K0 K1 K2 HB1 Ln Ld
  rw [hwa]
  clear hwa y2 yf
  have b3 : wa1.cell? ⟨w.heap.size, 3, none⟩ = some (.slice Ai images.length ki) := K0.out.cell 3
  have hlx := K2.out.lt
  have HC := Lib.hid (lentT_any images Ai ki wa1 (HI.out.new HB1.out) (by omega))
  go_wp2_with fail
  refine HC.out.mono ?_
  rintro a wb2 ⟨⟨gi, ci, rfl, hcs, hown⟩, hb⟩
  have hli := LtV.own (X := fun b => b < wa1.heap.size) hown (fun b h1 h2 => by have h3 : b < wa1.heap.size := h2; omega) hcs
  clear hown
  rw [sc_app] at hli
  have Li := Lib.hid ((hli).fx (S := fun _ => False) (X' := fun b => b < w.heap.size + 3) Fx.refl (fun b _ h => h.elim False.elim (fun h => Nat.lt_of_lt_of_le h (by show w.heap.size + 1 + 1 + 1 ≤ _; omega))))
  have J0 := Lib.hid (K0.out.below hb K0.out.lt)
  have J1 := Lib.hid (K1.out.below hb K1.out.lt)
  have J2 := Lib.hid (K2.out.below hb K2.out.lt)
  have JB := Lib.hid (below_of_below HB1.out hb HB1.out.size)
  have Mn := Lib.hid (Ln.out.new hb)
  clear Ln
  have Ln := Mn
  clear Mn
  have Md := Lib.hid (Ld.out.new hb)
  clear Ld
  have Ld := Md
  clear Md
  clear hb HC b3 K0 K1 K2 HB1 hlx hli
  have y3 : wb2.cell? ⟨w.heap.size + 1 + 1, 3, none⟩ = some (.slice Ai images.length ki) := J2.out.cell 3
  have yf := J2.out.frozen 3
  have kx := fx_set18 wb2 (w.heap.size + 1 + 1) 3 (.slice (some ⟨gi, 0, none⟩) images.length ci)
  have K0 := Lib.hid (kx.blk J0.out (by show ¬ w.heap.size = w.heap.size + 1 + 1; omega))
  have K1 := Lib.hid (kx.blk J1.out (by show ¬ w.heap.size + 1 = w.heap.size + 1 + 1; omega))
  have K2 := Lib.hid (J2.out.set_ 3 (.slice (some ⟨gi, 0, none⟩) images.length ci))
  have HB1 := Lib.hid (JB.out.setCell (p := ⟨w.heap.size + 1 + 1, 3, none⟩) (by show w.heap.size ≤ w.heap.size + 1 + 1; omega) (.slice (some ⟨gi, 0, none⟩) images.length ci))
  have Mn := Lib.hid (Ln.out.fx kx (X' := fun b => b < w.heap.size + 3) (fun b _ hh => hh.elim (fun h => by have h2 : b = w.heap.size + 1 + 1 := h; show b < _; omega) id))
  clear Ln
  have Ln := Mn
  clear Mn
  have Md := Lib.hid (Ld.out.fx kx (X' := fun b => b < w.heap.size + 3) (fun b _ hh => hh.elim (fun h => by have h2 : b = w.heap.size + 1 + 1 := h; show b < _; omega) id))
  clear Ld
  have Ld := Md
  clear Md
  have Mi := Lib.hid (Li.out.fx kx (X' := fun b => b < w.heap.size + 3) (fun b _ hh => hh.elim (fun h => by have h2 : b = w.heap.size + 1 + 1 := h; show b < _; omega) id))
  clear Li
  have Li := Mi
  clear Mi
  clear kx J0 J1 J2 JB
  go_upto_region 5 with fail
  obtain ⟨wa2, hwa⟩ : ∃ y, wb2.setCell ⟨w.heap.size + 1 + 1, 3, none⟩ (.slice (some ⟨gi, 0, none⟩) images.length ci) = y := ⟨_, rfl⟩
  rw [hwa] at K0 K1 K2 HB1 Ln Ld Li
  rw [hwa]
  clear hwa y3 yf
  have K3 : Hid (Blk wa2 (w.heap.size + 1 + 1) 32 #[.slice (some ⟨gn, 0, none⟩) l'.length cn, .int .i64 target, .slice (some ⟨gd, 0, none⟩) need.length cd, .slice (some ⟨gi, 0, none⟩) images.length ci]) := Lib.hid K2.out
  clear K2 K0
  have y0 : wa2.cell? ⟨w.heap.size + 1 + 1, 0, none⟩ = some (.slice (some ⟨gn, 0, none⟩) l'.length cn) := K3.out.cell 0
  have y1 : wa2.cell? ⟨w.heap.size + 1 + 1, 1, none⟩ = some (.int .i64 target) := K3.out.cell 1
  have y2 : wa2.cell? ⟨w.heap.size + 1 + 1, 2, none⟩ = some (.slice (some ⟨gd, 0, none⟩) need.length cd) := K3.out.cell 2
  have y3 : wa2.cell? ⟨w.heap.size + 1 + 1, 3, none⟩ = some (.slice (some ⟨gi, 0, none⟩) images.length ci) := K3.out.cell 3
  go_wp2_with (refine wpList_store_st rfl _ _ _ rfl planTl (w.heap.size + 1) #[.slice (some ⟨gn, 0, none⟩) l'.length cn, .int .i64 target, .slice (some ⟨gd, 0, none⟩) need.length cd, .slice (some ⟨gi, 0, none⟩) images.length ci] #[.slice none 0 0, .int .i64 0, .slice none 0 0, .slice none 0 0] rfl rfl K1.out rfl rfl rfl ?_; intro wz hKz hGz _)
  have kz := (Fx.of_grown hGz).mono (S' := fun b => b = w.heap.size + 1) (fun b _ h => by injection h with h; exact h.symm)
  have hX : ∀ b, b < wa2.heap.size → b = w.heap.size + 1 ∨ b < w.heap.size → b < w.heap.size + 3 := fun b _ h => by omega
  refine bodyPost_ret (results_c0 rfl planTl rfl hKz rfl) rfl ⟨⟨_, l', _, _, rfl, Ln.out.fx kz hX, HLM.out, Ld.out.fx kz hX, Li.out.fx kz hX⟩, ?_⟩
  exact HB1.out.trans (kz.to_below HB1.out.size (fun b h => by have h2 : b = w.heap.size + 1 := h; omega))
end Go.Proofs.YtnlkmljdcmfogaaGreatDoor
