/- stratakit: stages and files lent, walked. (Printed by wip/genlst.py.) -/
import Derived.Test.YtdaejggcjjdhkaaGreatDoorCkLs
namespace Go.Proofs.YtdaejggcjjdhkaaGreatDoor
open Go Go.RowKit
def mkG : GM := ⟨-7, [], [], .slice none 0 0, []⟩
def marksG (n : Nat) : List GM := List.replicate n mkG
/-- a stage that was lent. -/
def LGt (w : World) (X : Nat → Prop) (G : GM) : Prop := LSs w X G.vs G.ms
theorem LGt.fx {w w' : World} {X X' S : Nat → Prop} {G : GM} (h : LGt w X G) (k : Fx S w w') (hX : ∀ b, b < w.heap.size → S b ∨ X' b → X b) : LGt w' X' G := LSs.fx h k hX
theorem LGt.new {w w' : World} {X : Nat → Prop} {G : GM} (h : LGt w X G) (k : Below w.heap.size w w') : LGt w' X G := LSs.new h k
/-- stages that were lent. -/
structure LGs (w : World) (X : Nat → Prop) (v : Value) (l : List GM) : Prop where
  r : LtV w X v l.length (gmC l ++ gmC (marksG 16))
  m : ∀ m ∈ l, LGt w X m
theorem LGs.fx {w w' : World} {X X' S : Nat → Prop} {v : Value} {l : List GM} (h : LGs w X v l) (k : Fx S w w') (hX : ∀ b, b < w.heap.size → S b ∨ X' b → X b) : LGs w' X' v l := ⟨h.r.fx k hX, fun m hm => (h.m m hm).fx k hX⟩
theorem LGs.new {w w' : World} {X : Nat → Prop} {v : Value} {l : List GM} (h : LGs w X v l) (k : Below w.heap.size w w') : LGs w' X v l := ⟨h.r.new k, fun m hm => (h.m m hm).new k⟩
theorem LGs.ok {w : World} {X : Nat → Prop} {v : Value} {l : List GM} (h : LGs w X v l) : GsA w v l := ⟨h.r.sl, fun m hm => LSs.ok (h.m m hm)⟩
theorem gmC_app (a b : List GM) : gmC (a ++ b) = gmC a ++ gmC b := by simp [gmC]
theorem gmC_snoc (l : List GM) (x : GM) : gmC (l ++ [x]) = gmC l ++ gmL x := by simp [gmC]
theorem stageTl : StK Tryz.prog 53 4 := ⟨⟨_, Tryz.underlying53⟩, by kernel_rfl⟩
theorem fileTl : StK Tryz.prog 25 3 := ⟨⟨_, Tryz.underlying25⟩, by kernel_rfl⟩
theorem stageKl : ElemK Tryz.prog 23 53 (.agg #[.int .i64 0, .string ⟨#[]⟩, .string ⟨#[]⟩, .slice none 0 0]) 4 64 := ⟨Tryz.underlying23, by kernel_rfl, rfl, by decide⟩
set_option maxRecDepth 100000 in
set_option maxHeartbeats 2000000 in
theorem lentStage_any (G : GM) (w : World) (hok : StsA w G.vs G.ms) (hn : G.ms.length ≤ 1050000) (hsm : ∀ m ∈ G.ms, m.s.words.length + m.s.exec.length + m.s.pairs.length + m.s.docs.length ≤ 1050000) : Calls Tryz.prog 90 #[.agg #[.int .i64 G.line, .string (bs G.base), .string (bs G.name), G.vs]] w fun r w' => (∃ vs ms, r = .returned (.agg #[.int .i64 G.line, .string (bs G.base), .string (bs G.name), vs]) ∧ LSs w' (fun b => b < w.heap.size) vs ms ∧ ms.map SM.s = G.ms.map SM.s) ∧ Below w.heap.size w w' := by
  obtain ⟨line, base, name, vs, ms⟩ := G
  dsimp only at hok hn hsm ⊢
  obtain ⟨As, ks, rfl⟩ := hok.1.form
  have HOK := Lib.hid hok
  have HSM := Lib.hid hsm
  clear hok hsm
  obtain ⟨w1, hw1⟩ : ∃ y, ((w.alloc (.cells #[.int .i64 line, .string (bs base), .string (bs name), .slice As ms.length ks] 53)).alloc (.cells #[.int .i64 0, .string ⟨#[]⟩, .string ⟨#[]⟩, .slice none 0 0] 53)).alloc (.cells #[.int .i64 line, .string (bs base), .string (bs name), .slice As ms.length ks] 53) = y := ⟨_, rfl⟩
  have HB1 : Hid (Below w.heap.size w w1) := Lib.hid (by rw [← hw1]; exact (((Below.refl _ _).alloc (Nat.le_refl _) _).alloc (by rw [World.size_alloc]; omega) _).alloc (by rw [World.size_alloc, World.size_alloc]; omega) _)
  have K0 : Hid (Blk w1 w.heap.size 53 #[.int .i64 line, .string (bs base), .string (bs name), .slice As ms.length ks]) := Lib.hid (by rw [← hw1]; exact ((Blk.new w _ _).alloc _).alloc _)
  have K1 : Hid (Blk w1 (w.heap.size + 1) 53 #[.int .i64 0, .string ⟨#[]⟩, .string ⟨#[]⟩, .slice none 0 0]) := Lib.hid (by have q := Blk.new (w.alloc (.cells #[.int .i64 line, .string (bs base), .string (bs name), .slice As ms.length ks] 53)) 53 #[.int .i64 0, .string ⟨#[]⟩, .string ⟨#[]⟩, .slice none 0 0]; rw [World.size_alloc] at q; rw [← hw1]; exact q.alloc _)
  have K2 : Hid (Blk w1 (w.heap.size + 1 + 1) 53 #[.int .i64 line, .string (bs base), .string (bs name), .slice As ms.length ks]) := Lib.hid (by have q := Blk.new ((w.alloc (.cells #[.int .i64 line, .string (bs base), .string (bs name), .slice As ms.length ks] 53)).alloc (.cells #[.int .i64 0, .string ⟨#[]⟩, .string ⟨#[]⟩, .slice none 0 0] 53)) 53 #[.int .i64 line, .string (bs base), .string (bs name), .slice As ms.length ks]; rw [World.size_alloc, World.size_alloc] at q; rw [← hw1]; exact q)
  have HW1 := Lib.hid hw1
  clear hw1
  have a0 : ((w.alloc (.cells #[.int .i64 line, .string (bs base), .string (bs name), .slice As ms.length ks] 53)).alloc (.cells #[.int .i64 0, .string ⟨#[]⟩, .string ⟨#[]⟩, .slice none 0 0] 53)).cell? ⟨w.heap.size, 0, none⟩ = some (.int .i64 line) := (((Blk.new w 53 #[.int .i64 line, .string (bs base), .string (bs name), .slice As ms.length ks]).alloc _)).cell 0
  have a1 : ((w.alloc (.cells #[.int .i64 line, .string (bs base), .string (bs name), .slice As ms.length ks] 53)).alloc (.cells #[.int .i64 0, .string ⟨#[]⟩, .string ⟨#[]⟩, .slice none 0 0] 53)).cell? ⟨w.heap.size, 1, none⟩ = some (.string (bs base)) := (((Blk.new w 53 #[.int .i64 line, .string (bs base), .string (bs name), .slice As ms.length ks]).alloc _)).cell 1
  have a2 : ((w.alloc (.cells #[.int .i64 line, .string (bs base), .string (bs name), .slice As ms.length ks] 53)).alloc (.cells #[.int .i64 0, .string ⟨#[]⟩, .string ⟨#[]⟩, .slice none 0 0] 53)).cell? ⟨w.heap.size, 2, none⟩ = some (.string (bs name)) := (((Blk.new w 53 #[.int .i64 line, .string (bs base), .string (bs name), .slice As ms.length ks]).alloc _)).cell 2
  have a3 : ((w.alloc (.cells #[.int .i64 line, .string (bs base), .string (bs name), .slice As ms.length ks] 53)).alloc (.cells #[.int .i64 0, .string ⟨#[]⟩, .string ⟨#[]⟩, .slice none 0 0] 53)).cell? ⟨w.heap.size, 3, none⟩ = some (.slice As ms.length ks) := (((Blk.new w 53 #[.int .i64 line, .string (bs base), .string (bs name), .slice As ms.length ks]).alloc _)).cell 3
  go_enter Tryz.func90, Tryz.ntmps90
  go_upto_region 2 with fail
  rw [HW1.out]
  clear HW1 a0 a1 a2 a3
  have b3 : w1.cell? ⟨w.heap.size, 3, none⟩ = some (.slice As ms.length ks) := K0.out.cell 3
  have hlx := K2.out.lt
  have HC := Lib.hid (lentSteps_any ms (.slice As ms.length ks) w1 (HOK.out.new HB1.out) HSM.out hn)
  go_wp2_with fail
  refine HC.out.mono ?_
  rintro a wb0 ⟨⟨v', l', rfl, hls, hlm⟩, hb⟩
  have hll : l'.length = ms.length := by have := congrArg List.length hlm; simpa using this
  have HLM := Lib.hid hlm
  obtain ⟨gs, cs, es, _⟩ := hls.r
  subst es
  clear hlm hll
  have Ls := Lib.hid ((hls).fx (S := fun _ => False) (X' := fun b => b < w.heap.size + 3) Fx.refl (fun b _ h => h.elim False.elim (fun h => Nat.lt_of_lt_of_le h (by show w.heap.size + 1 + 1 + 1 ≤ _; omega))))
  have J0 := Lib.hid (K0.out.below hb K0.out.lt)
  have J1 := Lib.hid (K1.out.below hb K1.out.lt)
  have J2 := Lib.hid (K2.out.below hb K2.out.lt)
  have JB := Lib.hid (below_of_below HB1.out hb HB1.out.size)
  clear hb HC b3 K0 K1 K2 HB1 hlx hls
  have y3 : wb0.cell? ⟨w.heap.size + 1 + 1, 3, none⟩ = some (.slice As ms.length ks) := J2.out.cell 3
  have yf := J2.out.frozen 3
  have kx := fx_set18 wb0 (w.heap.size + 1 + 1) 3 (.slice (some ⟨gs, 0, none⟩) l'.length cs)
  have K0 := Lib.hid (kx.blk J0.out (by show ¬ w.heap.size = w.heap.size + 1 + 1; omega))
  have K1 := Lib.hid (kx.blk J1.out (by show ¬ w.heap.size + 1 = w.heap.size + 1 + 1; omega))
  have K2 := Lib.hid (J2.out.set_ 3 (.slice (some ⟨gs, 0, none⟩) l'.length cs))
  have HB1 := Lib.hid (JB.out.setCell (p := ⟨w.heap.size + 1 + 1, 3, none⟩) (by show w.heap.size ≤ w.heap.size + 1 + 1; omega) (.slice (some ⟨gs, 0, none⟩) l'.length cs))
  have Ms := Lib.hid (Ls.out.fx kx (X' := fun b => b < w.heap.size + 3) (fun b _ hh => hh.elim (fun h => by have h2 : b = w.heap.size + 1 + 1 := h; show b < _; omega) id))
  clear Ls
  have Ls := Ms
  clear Ms
  clear kx J0 J1 J2 JB
  go_upto_region 3 with fail
  obtain ⟨wa0, hwa⟩ : ∃ y, wb0.setCell ⟨w.heap.size + 1 + 1, 3, none⟩ (.slice (some ⟨gs, 0, none⟩) l'.length cs) = y := ⟨_, rfl⟩
  rw [hwa] at K0 K1 K2 HB1 Ls
  rw [hwa]
  clear hwa y3 yf
  have K3 : Hid (Blk wa0 (w.heap.size + 1 + 1) 53 #[.int .i64 line, .string (bs base), .string (bs name), .slice (some ⟨gs, 0, none⟩) l'.length cs]) := Lib.hid K2.out
  clear K2 K0
  have y0 : wa0.cell? ⟨w.heap.size + 1 + 1, 0, none⟩ = some (.int .i64 line) := K3.out.cell 0
  have y1 : wa0.cell? ⟨w.heap.size + 1 + 1, 1, none⟩ = some (.string (bs base)) := K3.out.cell 1
  have y2 : wa0.cell? ⟨w.heap.size + 1 + 1, 2, none⟩ = some (.string (bs name)) := K3.out.cell 2
  have y3 : wa0.cell? ⟨w.heap.size + 1 + 1, 3, none⟩ = some (.slice (some ⟨gs, 0, none⟩) l'.length cs) := K3.out.cell 3
  go_wp2_with (refine wpList_store_st rfl _ _ _ rfl stageTl (w.heap.size + 1) #[.int .i64 line, .string (bs base), .string (bs name), .slice (some ⟨gs, 0, none⟩) l'.length cs] #[.int .i64 0, .string ⟨#[]⟩, .string ⟨#[]⟩, .slice none 0 0] rfl rfl K1.out rfl rfl rfl ?_; intro wz hKz hGz _)
  have kz := (Fx.of_grown hGz).mono (S' := fun b => b = w.heap.size + 1) (fun b _ h => by injection h with h; exact h.symm)
  have hX : ∀ b, b < wa0.heap.size → b = w.heap.size + 1 ∨ b < w.heap.size → b < w.heap.size + 3 := fun b _ h => by omega
  refine bodyPost_ret (results_c0 rfl stageTl rfl hKz rfl) rfl ⟨⟨_, l', rfl, Ls.out.fx kz hX, HLM.out⟩, ?_⟩
  exact HB1.out.trans (kz.to_below HB1.out.size (fun b h => by have h2 : b = w.heap.size + 1 := h; omega))
set_option maxRecDepth 100000 in
set_option maxHeartbeats 4000000 in
theorem lentStages_any (l : List GM) (v : Value) (w : World) (hl : GsA w v l) (hsm : ∀ G ∈ l, G.ms.length ≤ 1050000 ∧ ∀ m ∈ G.ms, m.s.words.length + m.s.exec.length + m.s.pairs.length + m.s.docs.length ≤ 1050000) (hn : l.length ≤ 1050000) : Calls Tryz.prog 38 #[v] w fun r w' => (∃ v' l', r = .returned v' ∧ LGs w' (fun b => b < w.heap.size) v' l' ∧ l'.map GM.sg = l.map GM.sg) ∧ Below w.heap.size w w' := by
  obtain ⟨A0, k0, rfl⟩ := hl.1.form
  have HL := Lib.hid hl
  have HSM := Lib.hid hsm
  clear hl hsm
  go_enter Tryz.func38, Tryz.ntmps38
  go_wp2_with fail
  go_loopw [3, 4, 5] (fun t3 t4 _ wr => ∃ (i : Nat) (l' : List GM), i ≤ l.length ∧ t4 = .int .i64 (i : Int) ∧ wr.ownsRow w.heap.size 53 4 t3 i (gmC l') ∧ l'.length = i ∧ Hid (l'.map GM.sg = (l.take i).map GM.sg) ∧ Hid (∀ m ∈ l', LGt wr (fun b => b < w.heap.size ∨ t3.ownBlock = some b) m) ∧ Hid (Below w.heap.size w wr)) (fun _ t4 _ _ => l.length - (intOf t4).toNat)
  case atStart => exact ⟨0, [], by omega, rfl, World.ownsRow_nil _ _ _ _, rfl, Lib.hid rfl, Lib.hid (fun m hm => by cases hm), Lib.hid (Below.refl _ _)⟩
  case round =>
    rename World => wr
    obtain ⟨i, l', hi, rfl, hown, hl', HM, HLT, HB⟩ := hrel
    obtain ⟨AA, ca, rfl⟩ := ownk_form hown
    have HO := Lib.hid hown
    have HLL := Lib.hid hl'
    clear hown hl'
    have j0 : (0 : Int) ≤ (i : Int) := by omega
    rcases Nat.lt_or_ge i l.length with hin | hin
    · have i0 : decide ((i : Int) < (l.length : Int)) = true := by rw [decide_eq_true_eq]; omega
      have i1 : (i : Int) < (l.length : Int) := by omega
      have hsmi := HSM.out _ (List.getElem_mem hin)
      obtain ⟨g, o, cc, G, A, kk, hv, hG, hGv, hGs, c0, c1, c2, c3⟩ := gm_full (HL.out.new HB.out) hin
      injection hv with hA _ hcc
      subst hA hcc
      rw [hG] at hsmi
      have HMS : Hid ((l.take (i + 1)).map GM.sg = (l.take i).map GM.sg ++ [G.sg]) := Lib.hid (by rw [List.take_add_one, List.getElem?_eq_getElem hin, List.map_append, hG]; rfl)
      have HC := Lib.hid (lentStage_any G wr hGs hsmi.1 hsmi.2)
      rw [hGv] at HC
      clear hGs hGv hG hsmi
      go_wp2_with fail
      refine HC.out.mono ?_
      rintro a w1 ⟨⟨vs, ms, rfl, hlt, hms⟩, hb1⟩
      have hml : ms.length = G.ms.length := by have := congrArg List.length hms; simpa using this
      obtain ⟨gp, cp, ep, _⟩ := hlt.r
      subst ep
      have HGG : Hid ((⟨G.line, G.base, G.name, .slice (some ⟨gp, 0, none⟩) ms.length cp, ms⟩ : GM).sg = G.sg) := Lib.hid (by show (⟨_, _, _, _⟩ : Ck.Sg) = ⟨_, _, _, _⟩; rw [hms])
      have HN : Hid (LGt w1 (fun b => b < wr.heap.size) ⟨G.line, G.base, G.name, .slice (some ⟨gp, 0, none⟩) ms.length cp, ms⟩) := Lib.hid hlt
      clear hlt HC c0 c1 c2 c3 hms hml
      have hbw1 := below_of_below HB.out hb1 HB.out.size
      have HO1 := Lib.hid (own_below HO.out hb1)
      have kb2 := (Below.refl w1.heap.size w1).alloc (Nat.le_refl _) (.cells #[.int .i64 G.line, .string (bs G.base), .string (bs G.name), .slice (some ⟨gp, 0, none⟩) ms.length cp] 53)
      have HO2 := Lib.hid (own_below HO1.out kb2)
      have hbw2 := below_of_below hbw1 kb2 hbw1.size
      have HK2 := Lib.hid (Blk.new w1 53 #[.int .i64 G.line, .string (bs G.base), .string (bs G.name), .slice (some ⟨gp, 0, none⟩) ms.length cp])
      have hwr := HB.out.size
      have hr1 := hb1.size
      go_upto_region 6 with fail
      obtain ⟨Z, hZ⟩ : ∃ Z, w1.heap.size = Z := ⟨_, rfl⟩
      have K12 : Hid (Fx (fun _ => False) w1 (w1.alloc (.cells #[.int .i64 G.line, .string (bs G.base), .string (bs G.name), .slice (some ⟨gp, 0, none⟩) ms.length cp] 53))) := Lib.hid (Fx.new kb2)
      have K01 : Hid (Fx (fun _ => False) wr w1) := Lib.hid (Fx.new hb1)
      have hz2 : w1.heap.size < (w1.alloc (.cells #[.int .i64 G.line, .string (bs G.base), .string (bs G.name), .slice (some ⟨gp, 0, none⟩) ms.length cp] 53)).heap.size := by rw [World.size_alloc]; omega
      obtain ⟨w2, hw2⟩ : ∃ y, w1.alloc (.cells #[.int .i64 G.line, .string (bs G.base), .string (bs G.name), .slice (some ⟨gp, 0, none⟩) ms.length cp] 53) = y := ⟨_, rfl⟩
      rw [hw2] at HO2 hbw2 HK2 K12 hz2
      rw [hZ] at HK2
      rw [hw2, hZ]
      clear hw2 kb2 hb1
      have HBW2 := Lib.hid hbw2
      have y0 : w2.cell? ⟨Z, 0, none⟩ = some (.int .i64 G.line) := HK2.out.cell 0
      have y1 : w2.cell? ⟨Z, 1, none⟩ = some (.string (bs G.base)) := HK2.out.cell 1
      have y2 : w2.cell? ⟨Z, 2, none⟩ = some (.string (bs G.name)) := HK2.out.cell 2
      have y3 : w2.cell? ⟨Z, 3, none⟩ = some (.slice (some ⟨gp, 0, none⟩) ms.length cp) := HK2.out.cell 3
      have HNW := Lib.hid (news_at w2 w2.heap.size rfl [.int .i64 G.line, .string (bs G.base), .string (bs G.name), .slice (some ⟨gp, 0, none⟩) ms.length cp] 53)
      have HOA := Lib.hid (HO2.out.alloc (.cells #[.int .i64 G.line, .string (bs G.base), .string (bs G.name), .slice (some ⟨gp, 0, none⟩) ms.length cp] 53))
      have HBA := Lib.hid ((Below.refl w.heap.size w2).alloc HBW2.out.size (.cells #[.int .i64 G.line, .string (bs G.base), .string (bs G.name), .slice (some ⟨gp, 0, none⟩) ms.length cp] 53))
      have HSA : Hid (w.heap.size ≤ (w2.alloc (.cells #[.int .i64 G.line, .string (bs G.base), .string (bs G.name), .slice (some ⟨gp, 0, none⟩) ms.length cp] 53)).heap.size) := Lib.hid (Nat.le_trans HBW2.out.size (by rw [World.size_alloc]; omega))
      have K23 : Hid (Fx (fun _ => False) w2 (w2.alloc (.cells #[.int .i64 G.line, .string (bs G.base), .string (bs G.name), .slice (some ⟨gp, 0, none⟩) ms.length cp] 53))) := Lib.hid (Fx.new ((Below.refl _ _).alloc (Nat.le_refl _) _))
      go_wp2_with (at_builtin; refine wpList_appk rfl _ _ _ rfl stageKl w.heap.size _ _ _ rfl HOA.out _ 1 1 [.int .i64 G.line, .string (bs G.base), .string (bs G.name), .slice (some ⟨gp, 0, none⟩) ms.length cp] rfl rfl HNW.out (one_of_all rfl) (by omega) (by omega) HBA.out HSA.out ?_; intro v6 w6 ho6 hb6 hg6 hat6; obtain ⟨A6, c6, rfl⟩ := ownk_form ho6)
      have hgr : (w2.alloc (.cells #[.int .i64 G.line, .string (bs G.base), .string (bs G.name), .slice (some ⟨gp, 0, none⟩) ms.length cp] 53)).grownBy w6 (Value.slice AA i ca).ownBlock := hg6
      have hat : (Value.slice A6 (i + 1) c6).ownBlock = (Value.slice AA i ca).ownBlock ∨ (Value.slice A6 (i + 1) c6).ownBlock = some (w2.alloc (.cells #[.int .i64 G.line, .string (bs G.base), .string (bs G.name), .slice (some ⟨gp, 0, none⟩) ms.length cp] 53)).heap.size := hat6
      have kg := Fx.of_grown hgr
      have hsz3 : w2.heap.size ≤ (w2.alloc (.cells #[.int .i64 G.line, .string (bs G.base), .string (bs G.name), .slice (some ⟨gp, 0, none⟩) ms.length cp] 53)).heap.size := K23.out.size
      have hAl : ∀ b, (Value.slice AA i ca).ownBlock = some b → b < wr.heap.size := fun b hb => (HO.out.lt b hb).2
      have hX6 : ∀ b, b < (w2.alloc (.cells #[.int .i64 G.line, .string (bs G.base), .string (bs G.name), .slice (some ⟨gp, 0, none⟩) ms.length cp] 53)).heap.size → (Value.slice A6 (i + 1) c6).ownBlock = some b → (Value.slice AA i ca).ownBlock = some b := fun b hb h => by
        rcases hat with e | e
        · exact e ▸ h
        · rw [e] at h; injection h with h; omega
      have HLT6 : Hid (∀ m ∈ l' ++ [(⟨G.line, G.base, G.name, .slice (some ⟨gp, 0, none⟩) ms.length cp, ms⟩ : GM)], LGt w6 (fun b => b < w.heap.size ∨ (Value.slice A6 (i + 1) c6).ownBlock = some b) m) := Lib.hid (fun m hm => by
        rcases List.mem_append.1 hm with hm | hm
        · have q1 := (((HLT.out m hm).fx (X' := fun b => b < w.heap.size ∨ (Value.slice AA i ca).ownBlock = some b) K01.out (fun b _ h => h.elim False.elim id)).fx (X' := fun b => b < w.heap.size ∨ (Value.slice AA i ca).ownBlock = some b) K12.out (fun b _ h => h.elim False.elim id)).fx (X' := fun b => b < w.heap.size ∨ (Value.slice AA i ca).ownBlock = some b) K23.out (fun b _ h => h.elim False.elim id)
          exact q1.fx kg (fun b hb h => by
            rcases h with h | h | h
            · exact .inr h
            · exact .inl h
            · exact .inr (hX6 b hb h))
        · rw [List.mem_singleton] at hm
          subst hm
          have q1 := (HN.out.fx (X' := fun b => b < wr.heap.size) K12.out (fun b _ h => h.elim False.elim id)).fx (X' := fun b => b < wr.heap.size) K23.out (fun b _ h => h.elim False.elim id)
          exact q1.fx kg (fun b hb h => by
            rcases h with h | h | h
            · exact hAl b h
            · exact Nat.lt_of_lt_of_le h hwr
            · exact hAl b (hX6 b hb h)))
      have HO6 : Hid (w6.ownsRow w.heap.size 53 4 (.slice A6 (i + 1) c6) (i + 1) (gmC (l' ++ [(⟨G.line, G.base, G.name, .slice (some ⟨gp, 0, none⟩) ms.length cp, ms⟩ : GM)]))) := Lib.hid (by rw [gmC_snoc]; exact ho6)
      have HB6 := Lib.hid (HBW2.out.trans hb6)
      have HM6 : Hid ((l' ++ [(⟨G.line, G.base, G.name, .slice (some ⟨gp, 0, none⟩) ms.length cp, ms⟩ : GM)]).map GM.sg = (l.take (i + 1)).map GM.sg) := Lib.hid (by rw [HMS.out, List.map_append, HM.out]; show _ ++ [_] = _; rw [HGG.out])
      clear ho6 hb6 hg6 hat6 hgr hat kg hX6 hAl HLT HO HO1 HO2 HOA HBA HSA HNW K12 K23 K01
      go_roundw
      case rel => exact ⟨i + 1, _, by omega, by go_num, HO6.out, by rw [List.length_append, HLL.out]; rfl, HM6, HLT6, HB6⟩
      case measure => simp [intOf]; omega
    · have i0 : decide ((i : Int) < (l.length : Int)) = false := by rw [decide_eq_false_iff_not]; omega
      obtain rfl : i = l.length := by omega
      have HMM : Hid (l'.map GM.sg = l.map GM.sg) := Lib.hid (by have h := HM.out; rwa [List.take_length] at h)
      clear HM
      have H0 : Hid (wr.ownsRow w.heap.size 53 4 (.slice AA l.length ca) (l.length + 0) (gmC (l' ++ marksG 0))) := Lib.hid (by rw [show marksG 0 = [] from rfl, List.append_nil]; exact HO.out)
      clear HO
      go_wp2_with fail
      go_loopw [3, 6] (fun t3 t6 wv => ∃ j : Nat, j ≤ 16 ∧ t6 = .int .i64 (j : Int) ∧ wv.ownsRow w.heap.size 53 4 t3 (l.length + j) (gmC (l' ++ marksG j)) ∧ Hid (∀ m ∈ l', LGt wv (fun b => b < w.heap.size ∨ t3.ownBlock = some b) m) ∧ Hid (Below w.heap.size w wv)) (fun _ t6 _ => 16 - (intOf t6).toNat)
      case atStart => exact ⟨0, by omega, rfl, H0.out, HLT, HB⟩
      case round =>
        clear H0 HLT HB
        rename World => wv
        obtain ⟨j, hj, rfl, hown, HLT, HB⟩ := hrel
        obtain ⟨A2, c2, rfl⟩ := ownk_form hown
        have HO := Lib.hid hown
        clear hown
        rcases Nat.lt_or_ge j 16 with hjn | hjn
        · have j1 : (j : Int) < 16 := by omega
          have hT : Hid (gmC (l' ++ marksG (j + 1)) = gmC (l' ++ marksG j) ++ #[.int .i64 (-7), .string ⟨#[]⟩, .string ⟨#[]⟩, .slice none 0 0].toList) := Lib.hid (by rw [show marksG (j + 1) = marksG j ++ [mkG] from List.replicate_succ', ← List.append_assoc, gmC_snoc]; rfl)
          have HNW := Lib.hid (news_at wv wv.heap.size rfl #[.int .i64 (-7), .string ⟨#[]⟩, .string ⟨#[]⟩, .slice none 0 0].toList 53)
          have HOA := Lib.hid (HO.out.alloc (.cells #[.int .i64 (-7), .string ⟨#[]⟩, .string ⟨#[]⟩, .slice none 0 0] 53))
          have HBA := Lib.hid ((Below.refl w.heap.size wv).alloc HB.out.size (.cells #[.int .i64 (-7), .string ⟨#[]⟩, .string ⟨#[]⟩, .slice none 0 0] 53))
          have HSA : Hid (w.heap.size ≤ (wv.alloc (.cells #[.int .i64 (-7), .string ⟨#[]⟩, .string ⟨#[]⟩, .slice none 0 0] 53)).heap.size) := Lib.hid (Nat.le_trans HB.out.size (by rw [World.size_alloc]; omega))
          have K23 : Hid (Fx (fun _ => False) wv (wv.alloc (.cells #[.int .i64 (-7), .string ⟨#[]⟩, .string ⟨#[]⟩, .slice none 0 0] 53))) := Lib.hid (Fx.new ((Below.refl _ _).alloc (Nat.le_refl _) _))
          go_wp2_with (at_builtin; refine wpList_appk rfl _ _ _ rfl stageKl w.heap.size _ _ _ rfl HOA.out _ 1 1 #[.int .i64 (-7), .string ⟨#[]⟩, .string ⟨#[]⟩, .slice none 0 0].toList rfl rfl HNW.out (one_of_all rfl) (by omega) (by omega) HBA.out HSA.out ?_; intro v6 w6 ho6 hb6 hg6 hat6; obtain ⟨A6, c6, rfl⟩ := ownk_form ho6)
          have hgr : (wv.alloc (.cells #[.int .i64 (-7), .string ⟨#[]⟩, .string ⟨#[]⟩, .slice none 0 0] 53)).grownBy w6 (Value.slice A2 (l.length + j) c2).ownBlock := hg6
          have hat : (Value.slice A6 (l.length + j + 1) c6).ownBlock = (Value.slice A2 (l.length + j) c2).ownBlock ∨ (Value.slice A6 (l.length + j + 1) c6).ownBlock = some (wv.alloc (.cells #[.int .i64 (-7), .string ⟨#[]⟩, .string ⟨#[]⟩, .slice none 0 0] 53)).heap.size := hat6
          have kg := Fx.of_grown hgr
          have HLT6 : Hid (∀ m ∈ l', LGt w6 (fun b => b < w.heap.size ∨ (Value.slice A6 (l.length + j + 1) c6).ownBlock = some b) m) := Lib.hid (fun m hm => by
            have q1 := (HLT.out m hm).fx (X' := fun b => b < w.heap.size ∨ (Value.slice A2 (l.length + j) c2).ownBlock = some b) K23.out (fun b _ h => h.elim False.elim id)
            exact q1.fx kg (fun b hb h => by
              rcases h with h | h | h
              · exact .inr h
              · exact .inl h
              · rcases hat with e | e
                · exact .inr (e ▸ h)
                · rw [e] at h; injection h with h; omega))
          have HO6 : Hid (w6.ownsRow w.heap.size 53 4 (.slice A6 (l.length + j + 1) c6) (l.length + (j + 1)) (gmC (l' ++ marksG (j + 1)))) := Lib.hid (by rw [hT.out]; exact ho6)
          have HB6 := Lib.hid (HB.out.trans hb6)
          clear ho6 hb6 hg6 hat6 hgr hat kg HLT HO HOA HBA HSA HNW K23
          go_roundw
          case rel => exact ⟨j + 1, by omega, by go_num, HO6.out, HLT6, HB6⟩
          case measure => simp [intOf]; omega
        · obtain rfl : j = 16 := by omega
          obtain ⟨g, cap, hv, _⟩ := HO.out.form (by omega)
          injection hv with hA _ hc
          subst hA hc
          have hc2 : l.length + 16 ≤ c2 := by
            rcases own_two18 HO.out with ⟨h, _⟩ | ⟨b, c', h, hc⟩
            · cases h
            · injection h with _ _ h; omega
          have HLN : Hid (l'.length = l.length) := Lib.hid HLL.out
          have i1 : (0 : Int) ≤ (l.length : Int) := by omega
          have i2 : (l.length : Int) ≤ (c2 : Int) := by omega
          have i3 : l.length ≤ c2 := by omega
          go_wp2_with fail
          go_ret
          refine ⟨⟨_, rfl, l', ⟨?_, fun m hm => (HLT.out m hm).fx (S := fun _ => False) Fx.refl (fun b _ h => h.elim False.elim .inl)⟩, HMM.out⟩, HB.out⟩
          have q := LtV.own (n := l.length) (X := fun b => b < w.heap.size) HO.out (fun b h1 h2 => by have h3 : b < w.heap.size := h2; omega) hc2
          rw [HLN.out, ← gmC_app]
          exact q
theorem le_sum18 {x : Nat} : ∀ {l : List Nat}, x ∈ l → x ≤ l.sum
  | [], h => by cases h
  | y :: r, h => by
    rw [List.sum_cons]
    rcases List.mem_cons.1 h with rfl | h
    · omega
    · have := le_sum18 h; omega
set_option maxRecDepth 100000 in
set_option maxHeartbeats 2000000 in
theorem lentFile_any (f : FM) (w : World) (hok : f.Ok w) (hsm : f.fl.Small) : Calls Tryz.prog 12 #[.agg #[.int .u8 (f.escape.toNat : Int), f.va, f.vg]] w fun r w' => (∃ va vg args stages, r = .returned (.agg #[.int .u8 (f.escape.toNat : Int), va, vg]) ∧ LSs w' (fun b => b < w.heap.size) va args ∧ LGs w' (fun b => b < w.heap.size) vg stages ∧ args.map SM.s = f.args.map SM.s ∧ stages.map GM.sg = f.stages.map GM.sg) ∧ Below w.heap.size w w' := by
  have hcount := count_fl f
  obtain ⟨e, va, args, vg, stages⟩ := f
  have hca : StsA w va args := hok.a
  have hcg : GsA w vg stages := hok.g
  dsimp only at hsm hcount ⊢
  obtain ⟨hsa, hsg, hsn⟩ := hsm
  clear hok
  obtain ⟨Aa, ka, rfl⟩ := hca.1.form
  obtain ⟨Ag, kg, rfl⟩ := hcg.1.form
  have heb : e.toNat < 256 := UInt8.toNat_lt _
  have HA := Lib.hid hca
  have HG := Lib.hid hcg
  have hsn2 : stages.length + (args.length + (stages.map fun g => g.ms.length).sum) ≤ 1050000 := by rw [← hcount]; have h : (stages.map GM.sg).length + _ ≤ 1050000 := hsn; rwa [List.length_map] at h
  have HSA : Hid (∀ m ∈ args, m.s.words.length + m.s.exec.length + m.s.pairs.length + m.s.docs.length ≤ 1050000) := Lib.hid fun m hm => (hsa _ (List.mem_map.2 ⟨_, hm, rfl⟩)).1
  have HSG : Hid (∀ G ∈ stages, G.ms.length ≤ 1050000 ∧ ∀ m ∈ G.ms, m.s.words.length + m.s.exec.length + m.s.pairs.length + m.s.docs.length ≤ 1050000) := Lib.hid fun G hG => ⟨by
    have h2 : G.ms.length ≤ (stages.map fun g => g.ms.length).sum := le_sum18 (List.mem_map.2 ⟨G, hG, rfl⟩)
    omega, fun m hm => ((hsg _ (List.mem_map.2 ⟨_, hG, rfl⟩)).2.2 _ (List.mem_map.2 ⟨_, hm, rfl⟩)).1⟩
  have ha1 : args.length ≤ 1050000 := by omega
  have hg1 : stages.length ≤ 1050000 := by omega
  clear hca hcg hsa hsg hsn hsn2 hcount
  obtain ⟨w1, hw1⟩ : ∃ y, ((w.alloc (.cells #[.int .u8 (e.toNat : Int), .slice Aa args.length ka, .slice Ag stages.length kg] 25)).alloc (.cells #[.int .u8 0, .slice none 0 0, .slice none 0 0] 25)).alloc (.cells #[.int .u8 (e.toNat : Int), .slice Aa args.length ka, .slice Ag stages.length kg] 25) = y := ⟨_, rfl⟩
  have HB1 : Hid (Below w.heap.size w w1) := Lib.hid (by rw [← hw1]; exact (((Below.refl _ _).alloc (Nat.le_refl _) _).alloc (by rw [World.size_alloc]; omega) _).alloc (by rw [World.size_alloc, World.size_alloc]; omega) _)
  have K0 : Hid (Blk w1 w.heap.size 25 #[.int .u8 (e.toNat : Int), .slice Aa args.length ka, .slice Ag stages.length kg]) := Lib.hid (by rw [← hw1]; exact ((Blk.new w _ _).alloc _).alloc _)
  have K1 : Hid (Blk w1 (w.heap.size + 1) 25 #[.int .u8 0, .slice none 0 0, .slice none 0 0]) := Lib.hid (by have q := Blk.new (w.alloc (.cells #[.int .u8 (e.toNat : Int), .slice Aa args.length ka, .slice Ag stages.length kg] 25)) 25 #[.int .u8 0, .slice none 0 0, .slice none 0 0]; rw [World.size_alloc] at q; rw [← hw1]; exact q.alloc _)
  have K2 : Hid (Blk w1 (w.heap.size + 1 + 1) 25 #[.int .u8 (e.toNat : Int), .slice Aa args.length ka, .slice Ag stages.length kg]) := Lib.hid (by have q := Blk.new ((w.alloc (.cells #[.int .u8 (e.toNat : Int), .slice Aa args.length ka, .slice Ag stages.length kg] 25)).alloc (.cells #[.int .u8 0, .slice none 0 0, .slice none 0 0] 25)) 25 #[.int .u8 (e.toNat : Int), .slice Aa args.length ka, .slice Ag stages.length kg]; rw [World.size_alloc, World.size_alloc] at q; rw [← hw1]; exact q)
  have HW1 := Lib.hid hw1
  clear hw1
  have a0 : ((w.alloc (.cells #[.int .u8 (e.toNat : Int), .slice Aa args.length ka, .slice Ag stages.length kg] 25)).alloc (.cells #[.int .u8 0, .slice none 0 0, .slice none 0 0] 25)).cell? ⟨w.heap.size, 0, none⟩ = some (.int .u8 (e.toNat : Int)) := (((Blk.new w 25 #[.int .u8 (e.toNat : Int), .slice Aa args.length ka, .slice Ag stages.length kg]).alloc _)).cell 0
  have a1 : ((w.alloc (.cells #[.int .u8 (e.toNat : Int), .slice Aa args.length ka, .slice Ag stages.length kg] 25)).alloc (.cells #[.int .u8 0, .slice none 0 0, .slice none 0 0] 25)).cell? ⟨w.heap.size, 1, none⟩ = some (.slice Aa args.length ka) := (((Blk.new w 25 #[.int .u8 (e.toNat : Int), .slice Aa args.length ka, .slice Ag stages.length kg]).alloc _)).cell 1
  have a2 : ((w.alloc (.cells #[.int .u8 (e.toNat : Int), .slice Aa args.length ka, .slice Ag stages.length kg] 25)).alloc (.cells #[.int .u8 0, .slice none 0 0, .slice none 0 0] 25)).cell? ⟨w.heap.size, 2, none⟩ = some (.slice Ag stages.length kg) := (((Blk.new w 25 #[.int .u8 (e.toNat : Int), .slice Aa args.length ka, .slice Ag stages.length kg]).alloc _)).cell 2
  go_enter Tryz.func12, Tryz.ntmps12
  go_upto_region 2 with fail
  rw [HW1.out]
  clear HW1 a0 a1 a2
  have b1 : w1.cell? ⟨w.heap.size, 1, none⟩ = some (.slice Aa args.length ka) := K0.out.cell 1
  have hlx := K2.out.lt
  have HC := Lib.hid (lentSteps_any args (.slice Aa args.length ka) w1 (HA.out.new HB1.out) HSA.out ha1)
  go_wp2_with fail
  refine HC.out.mono ?_
  rintro a wb0 ⟨⟨v', l', rfl, hls, hlm⟩, hb⟩
  have HLM := Lib.hid hlm
  obtain ⟨gs, cs, es, _⟩ := hls.r
  subst es
  clear hlm
  have Ls := Lib.hid ((hls).fx (S := fun _ => False) (X' := fun b => b < w.heap.size + 3) Fx.refl (fun b _ h => h.elim False.elim (fun h => Nat.lt_of_lt_of_le h (by show w.heap.size + 1 + 1 + 1 ≤ _; omega))))
  have J0 := Lib.hid (K0.out.below hb K0.out.lt)
  have J1 := Lib.hid (K1.out.below hb K1.out.lt)
  have J2 := Lib.hid (K2.out.below hb K2.out.lt)
  have JB := Lib.hid (below_of_below HB1.out hb HB1.out.size)
  clear hb HC b1 K0 K1 K2 HB1 hlx hls
  have y1 : wb0.cell? ⟨w.heap.size + 1 + 1, 1, none⟩ = some (.slice Aa args.length ka) := J2.out.cell 1
  have yf := J2.out.frozen 1
  have kx := fx_set18 wb0 (w.heap.size + 1 + 1) 1 (.slice (some ⟨gs, 0, none⟩) l'.length cs)
  have K0 := Lib.hid (kx.blk J0.out (by show ¬ w.heap.size = w.heap.size + 1 + 1; omega))
  have K1 := Lib.hid (kx.blk J1.out (by show ¬ w.heap.size + 1 = w.heap.size + 1 + 1; omega))
  have K2 := Lib.hid (J2.out.set_ 1 (.slice (some ⟨gs, 0, none⟩) l'.length cs))
  have HB1 := Lib.hid (JB.out.setCell (p := ⟨w.heap.size + 1 + 1, 1, none⟩) (by show w.heap.size ≤ w.heap.size + 1 + 1; omega) (.slice (some ⟨gs, 0, none⟩) l'.length cs))
  have Ms := Lib.hid (Ls.out.fx kx (X' := fun b => b < w.heap.size + 3) (fun b _ hh => hh.elim (fun h => by have h2 : b = w.heap.size + 1 + 1 := h; show b < _; omega) id))
  clear Ls
  have Ls := Ms
  clear Ms
  clear kx J0 J1 J2 JB
  go_upto_region 3 with fail
  obtain ⟨wa0, hwa⟩ : ∃ y, wb0.setCell ⟨w.heap.size + 1 + 1, 1, none⟩ (.slice (some ⟨gs, 0, none⟩) l'.length cs) = y := ⟨_, rfl⟩
  rw [hwa] at K0 K1 K2 HB1 Ls
  rw [hwa]
  clear hwa y1 yf
  have b2 : wa0.cell? ⟨w.heap.size, 2, none⟩ = some (.slice Ag stages.length kg) := K0.out.cell 2
  have hlx := K2.out.lt
  have HC := Lib.hid (lentStages_any stages (.slice Ag stages.length kg) wa0 (HG.out.new HB1.out) HSG.out hg1)
  go_wp2_with fail
  refine HC.out.mono ?_
  rintro a wb1 ⟨⟨v2, l2, rfl, hlg, hlm⟩, hb⟩
  have HLN := Lib.hid hlm
  obtain ⟨gg, cg, eg, _⟩ := hlg.r
  subst eg
  clear hlm
  have Lg := Lib.hid ((hlg).fx (S := fun _ => False) (X' := fun b => b < w.heap.size + 3) Fx.refl (fun b _ h => h.elim False.elim (fun h => Nat.lt_of_lt_of_le h (by show w.heap.size + 1 + 1 + 1 ≤ _; omega))))
  have J0 := Lib.hid (K0.out.below hb K0.out.lt)
  have J1 := Lib.hid (K1.out.below hb K1.out.lt)
  have J2 := Lib.hid (K2.out.below hb K2.out.lt)
  have JB := Lib.hid (below_of_below HB1.out hb HB1.out.size)
  have Ms := Lib.hid (Ls.out.new hb)
  clear Ls
  have Ls := Ms
  clear Ms
  clear hb HC b2 K0 K1 K2 HB1 hlx hlg
  have y2 : wb1.cell? ⟨w.heap.size + 1 + 1, 2, none⟩ = some (.slice Ag stages.length kg) := J2.out.cell 2
  have yf := J2.out.frozen 2
  have kx := fx_set18 wb1 (w.heap.size + 1 + 1) 2 (.slice (some ⟨gg, 0, none⟩) l2.length cg)
  have K0 := Lib.hid (kx.blk J0.out (by show ¬ w.heap.size = w.heap.size + 1 + 1; omega))
  have K1 := Lib.hid (kx.blk J1.out (by show ¬ w.heap.size + 1 = w.heap.size + 1 + 1; omega))
  have K2 := Lib.hid (J2.out.set_ 2 (.slice (some ⟨gg, 0, none⟩) l2.length cg))
  have HB1 := Lib.hid (JB.out.setCell (p := ⟨w.heap.size + 1 + 1, 2, none⟩) (by show w.heap.size ≤ w.heap.size + 1 + 1; omega) (.slice (some ⟨gg, 0, none⟩) l2.length cg))
  have Ms := Lib.hid (Ls.out.fx kx (X' := fun b => b < w.heap.size + 3) (fun b _ hh => hh.elim (fun h => by have h2 : b = w.heap.size + 1 + 1 := h; show b < _; omega) id))
  clear Ls
  have Ls := Ms
  clear Ms
  have Mg := Lib.hid (Lg.out.fx kx (X' := fun b => b < w.heap.size + 3) (fun b _ hh => hh.elim (fun h => by have h2 : b = w.heap.size + 1 + 1 := h; show b < _; omega) id))
  clear Lg
  have Lg := Mg
  clear Mg
  clear kx J0 J1 J2 JB
  go_upto_region 4 with fail
  obtain ⟨wa1, hwa⟩ : ∃ y, wb1.setCell ⟨w.heap.size + 1 + 1, 2, none⟩ (.slice (some ⟨gg, 0, none⟩) l2.length cg) = y := ⟨_, rfl⟩
  rw [hwa] at K0 K1 K2 HB1 Ls Lg
  rw [hwa]
  clear hwa y2 yf
  have K3 : Hid (Blk wa1 (w.heap.size + 1 + 1) 25 #[.int .u8 (e.toNat : Int), .slice (some ⟨gs, 0, none⟩) l'.length cs, .slice (some ⟨gg, 0, none⟩) l2.length cg]) := Lib.hid K2.out
  clear K2 K0
  have y0 : wa1.cell? ⟨w.heap.size + 1 + 1, 0, none⟩ = some (.int .u8 (e.toNat : Int)) := K3.out.cell 0
  have y1 : wa1.cell? ⟨w.heap.size + 1 + 1, 1, none⟩ = some (.slice (some ⟨gs, 0, none⟩) l'.length cs) := K3.out.cell 1
  have y2 : wa1.cell? ⟨w.heap.size + 1 + 1, 2, none⟩ = some (.slice (some ⟨gg, 0, none⟩) l2.length cg) := K3.out.cell 2
  go_wp2_with (refine wpList_store_st rfl _ _ _ rfl fileTl (w.heap.size + 1) #[.int .u8 (e.toNat : Int), .slice (some ⟨gs, 0, none⟩) l'.length cs, .slice (some ⟨gg, 0, none⟩) l2.length cg] #[.int .u8 0, .slice none 0 0, .slice none 0 0] rfl rfl K1.out rfl rfl rfl ?_; intro wz hKz hGz _)
  have kz := (Fx.of_grown hGz).mono (S' := fun b => b = w.heap.size + 1) (fun b _ h => by injection h with h; exact h.symm)
  have hX : ∀ b, b < wa1.heap.size → b = w.heap.size + 1 ∨ b < w.heap.size → b < w.heap.size + 3 := fun b _ h => by omega
  refine bodyPost_ret (results_c0 rfl fileTl rfl hKz rfl) rfl ⟨⟨_, _, l', l2, rfl, Ls.out.fx kz hX, Lg.out.fx kz hX, HLM.out, HLN.out⟩, ?_⟩
  exact HB1.out.trans (kz.to_below HB1.out.size (fun b h => by have h2 : b = w.heap.size + 1 := h; omega))
end Go.Proofs.YtdaejggcjjdhkaaGreatDoor
