/- stratalaw18.with, walked. (Printed by wip/genwith.py.) -/
import Derived.Test.YtdaejggcjjdhkaaGreatDoorCkOne
import Derived.Test.YtdaejggcjjdhkaaGreatDoorRelyC
namespace Go.Proofs.YtdaejggcjjdhkaaGreatDoor
open Go Go.RowKit
theorem stepTw : StK Tryz.prog 41 10 := ⟨⟨_, Tryz.underlying41⟩, by kernel_rfl⟩
theorem stgKe : ElemK Tryz.prog 23 53 (.agg #[.int .i64 0, .string ⟨#[]⟩, .string ⟨#[]⟩, .slice none 0 0]) 4 64 := ⟨Tryz.underlying23, by kernel_rfl, rfl, by decide⟩
theorem stpKe : ElemK Tryz.prog 22 41 (.agg #[.int .i64 0, .int .i64 0, .string ⟨#[]⟩, .string ⟨#[]⟩, .bool false, .slice none 0 0, .bool false, .slice none 0 0, .slice none 0 0, .slice none 0 0]) 10 160 := ⟨Tryz.underlying22, by kernel_rfl, rfl, by decide⟩
theorem sl_one {w : World} {v : Value} {n : Nat} {xs : List Value} (h : SlA w v n xs) : v.oneCell' = true := by
  obtain ⟨A, c, rfl⟩ := h.form
  rfl
theorem smL_one {w : World} {m : SM} (h : m.Ok w) : ∀ u ∈ smL m, u.oneCell' = true := fun u hu => by
  simp only [smL, List.mem_cons, List.not_mem_nil, or_false] at hu
  rcases hu with rfl | rfl | rfl | rfl | rfl | rfl | rfl | rfl | rfl | rfl
  all_goals first | rfl | exact sl_one h.cp | exact sl_one h.cw | exact sl_one h.cd | exact sl_one h.ce
theorem smC_one {w : World} {v : Value} {l : List SM} (h : StsA w v l) : ∀ u ∈ smC l, u.oneCell' = true := fun u hu => by
  obtain ⟨m, hm, hu⟩ := List.mem_flatMap.1 hu
  exact smL_one (h.2 m hm) u hu
theorem gmC_one {w : World} {v : Value} {l : List GM} (h : GsA w v l) : ∀ u ∈ gmC l, u.oneCell' = true := fun u hu => by
  obtain ⟨g, hg, hu⟩ := List.mem_flatMap.1 hu
  simp only [gmL, List.mem_cons, List.not_mem_nil, or_false] at hu
  rcases hu with rfl | rfl | rfl | rfl
  all_goals first | rfl | exact sl_one (h.2 g hg).1
theorem smC_len (l : List SM) : (smC l).length = l.length * 10 := flat_len (f := smL) (fun _ => rfl) l
theorem gmC_len (l : List GM) : (gmC l).length = l.length * 4 := flat_len (f := gmL) (fun _ => rfl) l
theorem setCell_grown_ (w : World) (a : Addr) (v : Value) : w.grownBy (w.setCell a v) (some a.block) := ⟨rfl, rfl, rfl, by simp [World.setCell], fun k _ hk => by
  have : a.block ≠ k := fun e => hk (by rw [e])
  simp [World.setCell, Array.getElem?_modify, this]⟩
theorem below_set' {w w' : World} {B0 B : Nat} (h : Below B0 w w') (a : Addr) (v : Value) (hB : B ≤ B0) (ha : B ≤ a.block) : Below B w (w'.setCell a v) := (h.mono hB).setCell (p := a) ha v
/-- an empty row of the call's own. -/
theorem own0 (w : World) (base k : Nat) (e : TypeId) (hb : base ≤ w.heap.size) : (w.alloc (.cells #[] e)).ownsRow base e k (.slice (some ⟨w.heap.size, 0, none⟩) 0 0) 0 [] :=
  ⟨by simp, .inr ⟨w.heap.size, 0, #[], rfl, hb, heap_alloc_new w _, Nat.le_refl _, by unfold maxLen; omega, by simp, by simp⟩⟩
/-- which operation uses a value up. -/
def cW : Nat → Option Nat
  | 1 => some 6
  | 6 => some 9
  | 8 => some 9
  | _ => none
/-- the values of the region. -/
def VW (N : Nat) (P P3 vl : Value) (T : Array Value) (nl : Nat) (xs ys : List Value) : Nat → Value → World → Prop
  | 0, u, _ | 2, u, _ | 3, u, _ | 10, u, _ => u = P
  | 4, u, _ | 11, u, _ => u = P3
  | 5, u, _ => u = vl
  | 7, u, _ => u = .agg T
  | 1, u, w => ∃ b, u = .slice (some ⟨b, 0, none⟩) 0 0 ∧ N ≤ b ∧ Blk w b 41 #[]
  | 6, u, w => w.ownsRow N 41 10 u nl xs
  | 8, u, w => ∃ b, u = .slice (some ⟨b, 0, none⟩) 1 1 ∧ N ≤ b ∧ Blk w b 41 T
  | 9, u, w => w.ownsRow N 41 10 u (nl + 1) (xs ++ ys)
  | _, _, _ => True
section
variable {N nl : Nat} {P P3 vl : Value} {T : Array Value} {xs ys : List Value} {w w' : World}
theorem VW.new (k : Below w.heap.size w w') (j : Nat) (u : Value) (H : VW N P P3 vl T nl xs ys j u w) : VW N P P3 vl T nl xs ys j u w' := by
  unfold VW at H ⊢
  split at H <;> first | exact H | (obtain ⟨b, e, hb, hk⟩ := H; exact ⟨b, e, hb, hk.below k hk.lt⟩) | exact own_below H k | trivial
theorem own_empty {b : Nat} (hk : Blk w b 41 #[]) (hb : N ≤ b) : w.ownsRow N 41 10 (.slice (some ⟨b, 0, none⟩) 0 0) 0 [] := ⟨by simp, .inr ⟨b, 0, #[], rfl, hb, hk, Nat.le_refl _, by unfold maxLen; omega, by simp, by simp⟩⟩
theorem VW.app {b : Nat} (hk : Blk w b 41 #[]) (hT : T.size = 10) (hg : w.grownBy w' (some b)) (j : Nat) (u : Value) (hj : ([6, 9, 1] : List Nat).contains j = false) (H : VW N P P3 vl T nl xs ys j u w) : VW N P P3 vl T nl xs ys j u w' := by
  unfold VW at H ⊢
  split at H
  all_goals first
    | exact H
    | (exact absurd hj (by decide))
    | trivial
    | (obtain ⟨b', e, hb', hk'⟩ := H
       refine ⟨b', e, hb', (hg.block b' hk'.lt (fun q => ?_)).trans hk'⟩
       injection q with q
       subst q
       have h1 := Option.some.inj (hk.symm.trans hk')
       injection h1 with h1 _ _
       rw [← h1] at hT
       cases hT)
theorem VW.app2 (j : Nat) (u : Value) (hj : ([9, 6, 1, 8] : List Nat).contains j = false) (H : VW N P P3 vl T nl xs ys j u w) : VW N P P3 vl T nl xs ys j u w' := by
  unfold VW at H ⊢
  split at H
  all_goals first
    | exact H
    | (exact absurd hj (by decide))
    | trivial
end
set_option maxRecDepth 100000 in
set_option maxHeartbeats 2000000 in
theorem with_any (e : UInt8) (va vg : Value) (args : List SM) (A : List GM) (L : GM) (m : SM) (w : World) (ha : StsA w va args) (hg : GsA w vg (A ++ [L])) (hm : m.Ok w) (hn : A.length + 1 + L.ms.length ≤ 1050000) :
    Calls Tryz.prog 22 #[.agg #[.int .u8 (e.toNat : Int), va, vg], .agg #[.int .i64 m.s.op, .int .i64 m.s.line, .string (bs m.s.from_), .string (bs m.s.mode), .bool m.s.force, m.vp, .bool m.s.bare, m.vw, m.vd, m.ve]] w (FileP ⟨e, args.map SM.s, A.map GM.sg ++ [Ck.more (GM.sg L) m.s]⟩ w) := by
  obtain ⟨s, vp, vw, vd, ve⟩ := m
  have HOK := Lib.hid hm
  have hcp : SlA w vp s.pairs.length (prC s.pairs) := hm.cp
  have hcw : SlA w vw s.words.length (sc s.words) := hm.cw
  have hcd : SlA w vd s.docs.length (doC s.docs) := hm.cd
  have hce : SlA w ve s.exec.length (sc s.exec) := hm.ce
  dsimp only
  clear hm
  obtain ⟨Ap, kp, rfl⟩ := hcp.form
  obtain ⟨Aw, kw, rfl⟩ := hcw.form
  obtain ⟨Ad, kd, rfl⟩ := hcd.form
  obtain ⟨Ae, ke, rfl⟩ := hce.form
  clear hcp hcw hcd hce
  obtain ⟨Aa, ka, rfl⟩ := ha.1.form
  obtain ⟨Ag, kg, rfl⟩ := hg.1.form
  have hlen : (A ++ [L]).length = A.length + 1 := by simp
  rw [hlen] at hg ⊢
  have HA := Lib.hid ha
  have HG := Lib.hid hg
  obtain ⟨na, hna⟩ : ∃ n, args.length = n := ⟨_, rfl⟩
  obtain ⟨ng, hng⟩ : ∃ n, A.length = n := ⟨_, rfl⟩
  rw [hna] at HA
  rw [hng] at HG hn
  have HNA := Lib.hid hna
  have HNG := Lib.hid hng
  rw [hna, hng]
  obtain ⟨nl, hnl⟩ : ∃ n, L.ms.length = n := ⟨_, rfl⟩
  rw [hnl] at hn
  have HNL := Lib.hid hnl
  clear ha hg hlen hna hng hnl
  obtain ⟨nG, hnG⟩ : ∃ n, ng + 1 = n := ⟨_, rfl⟩
  rw [hnG] at HG ⊢
  have HNX := Lib.hid hnG
  have hn1 : 1 ≤ nG := by omega
  have hn2 : nG ≤ 1050000 := by omega
  clear hnG
  go_enter Tryz.func22, Tryz.ntmps22
  go_upto_region 2 with fail
  obtain ⟨w1, hw1⟩ : ∃ y, ((((w.alloc (.cells #[.int .u8 (e.toNat : Int), .slice Aa na ka, .slice Ag nG kg] 25)).alloc (.cells #[.int .i64 s.op, .int .i64 s.line, .string (bs s.from_), .string (bs s.mode), .bool s.force, .slice Ap s.pairs.length kp, .bool s.bare, .slice Aw s.words.length kw, .slice Ad s.docs.length kd, .slice Ae s.exec.length ke] 41)).alloc (.cells #[.int .u8 0, .slice none 0 0, .slice none 0 0] 25)).alloc (.cells #[.int .u8 (e.toNat : Int), .slice Aa na ka, .slice none 0 0] 25)) = y := ⟨_, rfl⟩
  have hz1 : w1.heap.size = w.heap.size + 1 + 1 + 1 + 1 := by rw [← hw1]; simp only [World.size_alloc]
  have HB1 : Hid (Below w.heap.size w w1) := Lib.hid (by
    rw [← hw1]
    exact ((((Below.refl w.heap.size w).alloc (Nat.le_refl _) _).alloc (by simp only [World.size_alloc]; omega) _).alloc (by simp only [World.size_alloc]; omega) _).alloc (by simp only [World.size_alloc]; omega) _)
  have KI : Hid (Blk w1 (w.heap.size) 25 #[.int .u8 (e.toNat : Int), .slice Aa na ka, .slice Ag nG kg]) := Lib.hid (by
    have q := Blk.new w 25 #[.int .u8 (e.toNat : Int), .slice Aa na ka, .slice Ag nG kg]
    try simp only [World.size_alloc] at q
    rw [← hw1]
    exact (((q.alloc _).alloc _).alloc _))
  have KS : Hid (Blk w1 (w.heap.size + 1) 41 #[.int .i64 s.op, .int .i64 s.line, .string (bs s.from_), .string (bs s.mode), .bool s.force, .slice Ap s.pairs.length kp, .bool s.bare, .slice Aw s.words.length kw, .slice Ad s.docs.length kd, .slice Ae s.exec.length ke]) := Lib.hid (by
    have q := Blk.new (w.alloc (.cells #[.int .u8 (e.toNat : Int), .slice Aa na ka, .slice Ag nG kg] 25)) 41 #[.int .i64 s.op, .int .i64 s.line, .string (bs s.from_), .string (bs s.mode), .bool s.force, .slice Ap s.pairs.length kp, .bool s.bare, .slice Aw s.words.length kw, .slice Ad s.docs.length kd, .slice Ae s.exec.length ke]
    try simp only [World.size_alloc] at q
    rw [← hw1]
    exact ((q.alloc _).alloc _))
  have KZ : Hid (Blk w1 (w.heap.size + 1 + 1) 25 #[.int .u8 0, .slice none 0 0, .slice none 0 0]) := Lib.hid (by
    have q := Blk.new ((w.alloc (.cells #[.int .u8 (e.toNat : Int), .slice Aa na ka, .slice Ag nG kg] 25)).alloc (.cells #[.int .i64 s.op, .int .i64 s.line, .string (bs s.from_), .string (bs s.mode), .bool s.force, .slice Ap s.pairs.length kp, .bool s.bare, .slice Aw s.words.length kw, .slice Ad s.docs.length kd, .slice Ae s.exec.length ke] 41)) 25 #[.int .u8 0, .slice none 0 0, .slice none 0 0]
    try simp only [World.size_alloc] at q
    rw [← hw1]
    exact (q.alloc _))
  have KF : Hid (Blk w1 (w.heap.size + 1 + 1 + 1) 25 #[.int .u8 (e.toNat : Int), .slice Aa na ka, .slice none 0 0]) := Lib.hid (by
    have q := Blk.new (((w.alloc (.cells #[.int .u8 (e.toNat : Int), .slice Aa na ka, .slice Ag nG kg] 25)).alloc (.cells #[.int .i64 s.op, .int .i64 s.line, .string (bs s.from_), .string (bs s.mode), .bool s.force, .slice Ap s.pairs.length kp, .bool s.bare, .slice Aw s.words.length kw, .slice Ad s.docs.length kd, .slice Ae s.exec.length ke] 41)).alloc (.cells #[.int .u8 0, .slice none 0 0, .slice none 0 0] 25)) 25 #[.int .u8 (e.toNat : Int), .slice Aa na ka, .slice none 0 0]
    try simp only [World.size_alloc] at q
    rw [← hw1]
    exact q)
  rw [hw1]
  have HZ1 := Lib.hid hz1
  clear hw1
  have b2 : w1.cell? ⟨w.heap.size, 2, none⟩ = some (.slice Ag nG kg) := KI.out.cell 2
  have b2' : (w1.alloc (.cells #[] 53)).cell? ⟨w.heap.size, 2, none⟩ = some (.slice Ag nG kg) := (KI.out.alloc _).cell 2
  have HO := Lib.hid (own0 w1 (w.heap.size + 1 + 1 + 1 + 1) 4 53 (by omega))
  rw [hz1] at HO
  have HBA := Lib.hid ((Below.refl (w.heap.size + 1 + 1 + 1 + 1) w1).alloc (by omega) (.cells #[] 53))
  have HSA : Hid (w.heap.size + 1 + 1 + 1 + 1 ≤ (w1.alloc (.cells #[] 53)).heap.size) := Lib.hid (by rw [World.size_alloc]; omega)
  have HSG : Hid (SlA (w1.alloc (.cells #[] 53)) (.slice Ag nG kg) nG (gmC (A ++ [L]))) := Lib.hid (by
    have q := (HG.out.new HB1.out).1.new ((Below.refl w1.heap.size w1).alloc (Nat.le_refl _) (.cells #[] 53))
    rwa [show (A ++ [L]).length = nG by rw [List.length_append, HNG.out]; exact HNX.out] at q)
  have HGL : Hid ((gmC (A ++ [L])).length = nG * 4) := Lib.hid (by rw [gmC_len, List.length_append, HNG.out]; exact congrArg (· * 4) HNX.out)
  have HG1 := Lib.hid (gmC_one HG.out)
  
  obtain ⟨Al, kl, hLv⟩ := (HG.out.2 L (by simp)).1.form
  have HLV := Lib.hid hLv
  clear hLv
  go_upto_region 3 with (at_builtin; refine wpList_appS rfl _ _ _ rfl stgKe (w.heap.size + 1 + 1 + 1 + 1) _ 0 [] rfl HO.out _ nG (gmC (A ++ [L])) rfl HSG.out HGL.out HG1.out (by omega) (by omega) HBA.out HSA.out ?_; intro v1 w2 ho1 hb1 hg1 hat1; simp only [Nat.zero_add, List.nil_append] at ho1; obtain ⟨B1, q1, rfl⟩ := ownk_form ho1; have hF2 := KF.out.below hb1 (by omega); have k2 : w2.cell? ⟨w.heap.size + 1 + 1 + 1, 2, none⟩ = some (.slice none 0 0) := hF2.cell 2; have f2 := hF2.frozen 2; have HF2 := Lib.hid hF2; have HO1 := Lib.hid ho1; have HBX := Lib.hid hb1; clear hF2 ho1 hb1 hg1 hat1)
  clear k2 f2 b2 b2' HO HBA HSA HSG HGL
  obtain ⟨g1, hB, hg1⟩ : ∃ g1, B1 = some ⟨g1, 0, none⟩ ∧ w.heap.size + 1 + 1 + 1 + 1 ≤ g1 := by
    rcases HO1.out.2 with ⟨_, h0⟩ | ⟨g1, cap, cur, hv, hbg, _⟩
    · omega
    · injection hv with h1 _ _
      exact ⟨g1, h1, hbg⟩
  subst hB
  have HR3 := Lib.hid (HO1.out.kept (w' := w2.setCell ⟨w.heap.size + 1 + 1 + 1, 2, none⟩ (.slice (some ⟨g1, 0, none⟩) nG q1)) (setCell_grown_ w2 ⟨w.heap.size + 1 + 1 + 1, 2, none⟩ _) (.inr (fun q => by injection q with q; have q' : g1 = w.heap.size + 1 + 1 + 1 := q; omega)))
  have HF3 : Hid (Blk (w2.setCell ⟨w.heap.size + 1 + 1 + 1, 2, none⟩ (.slice (some ⟨g1, 0, none⟩) nG q1)) (w.heap.size + 1 + 1 + 1) 25 #[.int .u8 (e.toNat : Int), .slice Aa na ka, .slice (some ⟨g1, 0, none⟩) nG q1]) := Lib.hid (by have q := HF2.out.set_ 2 (.slice (some ⟨g1, 0, none⟩) nG q1); simpa using q)
  have HB3 := Lib.hid (below_set' HBX.out ⟨w.heap.size + 1 + 1 + 1, 2, none⟩ (.slice (some ⟨g1, 0, none⟩) nG q1) (B := w.heap.size + 1 + 1 + 1) (by omega) (Nat.le_refl _))
  obtain ⟨w3, hw3⟩ : ∃ y, w2.setCell ⟨w.heap.size + 1 + 1 + 1, 2, none⟩ (.slice (some ⟨g1, 0, none⟩) nG q1) = y := ⟨_, rfl⟩
  rw [hw3] at HR3 HF3 HB3
  rw [hw3]
  clear hw3 HO1 HBX HF2
  have b2 : w3.cell? ⟨w.heap.size + 1 + 1 + 1, 2, none⟩ = some (.slice (some ⟨g1, 0, none⟩) nG q1) := HF3.out.cell 2
  have i0 : (0 : Int) ≤ (nG : Int) - 1 := by omega
  have i1 : (1 : Int) ≤ (nG : Int) := by omega
  have i2 : (nG : Int) - 1 < (nG : Int) := by omega
  go_upto_region 4 with fail
  clear i0 i1 i2 b2
  have c3 : w3.cell? ⟨g1, (nG - 1) * 4 + 3, none⟩ = some (.slice Al nl kl) := by
    rw [HR3.out.cellAt ((nG - 1) * 4 + 3) (by omega), show nG - 1 = A.length by have := HNG.out; have := HNX.out; omega]
    have q := flat_at (f := gmL) (k := 4) (fun _ => rfl) (A ++ [L]) A.length 3 (by simp) (by omega)
    rw [show (gmC (A ++ [L])) = (A ++ [L]).flatMap gmL from rfl, q]
    simp only [List.getElem_append_right (Nat.le_refl _), Nat.sub_self, List.getElem_cons_zero]
    show some L.vs = _
    rw [HLV.out, HNL.out]
  have KS3 := Lib.hid (KS.out.below (HB3.out) (by omega))
  have C3 := Lib.hid c3
  have HSL : Hid (StsA w (.slice Al nl kl) L.ms) := Lib.hid (by have q := HG.out.2 L (by simp); rwa [HLV.out, HNL.out] at q)
  have hw3 : w.heap.size + 1 + 1 + 1 + 1 ≤ w3.heap.size := Nat.le_trans (by omega) HB3.out.size
  have HBW := Lib.hid (HB1.out.trans (HB3.out.mono (by omega)))
  obtain ⟨N, hN⟩ : ∃ N, w3.heap.size = N := ⟨_, rfl⟩
  have HN := Lib.hid hN
  clear c3
  refine' wp_region_rely_c 12 cW (fun wx => Below w3.heap.size w3 wx) (VW N (.pointer (some ⟨g1, (nG - 1) * 4, none⟩)) (.pointer (some ⟨g1, (nG - 1) * 4 + 3, none⟩)) (.slice Al nl kl) #[.int .i64 s.op, .int .i64 s.line, .string (bs s.from_), .string (bs s.mode), .bool s.force, .slice Ap s.pairs.length kp, .bool s.bare, .slice Aw s.words.length kw, .slice Ad s.docs.length kd, .slice Ae s.exec.length ke] nl (smC L.ms) (smL (⟨s, .slice Ap s.pairs.length kp, .slice Aw s.words.length kw, .slice Ad s.docs.length kd, .slice Ae s.exec.length ke⟩ : SM))) ?F ?hF (by kernel_rfl) (by kernel_rfl) (by kernel_rfl) (by decide) (by kernel_rfl) (by kernel_rfl) (by kernel_rfl) (Below.refl _ _).drew ?hsteps ?hT
  case hF =>
    intro xs
    refine (frameX_eq _ _ _).trans ?_
    simp only [frameL, Act.put, List.setIfInBounds_toArray, List.set_cons_zero, List.set_cons_succ, Nat.reduceAdd, Nat.zero_add]
    exact rfl
  case hsteps =>
    simp only [List.take_succ_cons, List.take_zero]
    refine StepsC.cons (n := []) (dd := []) (k := 1) rfl (by kernel_rfl) (by kernel_rfl) (fun xs wx hS hV K hK => ?_) ?_
    · clear hV
      go_simp
      exact hK.out _ _ hS rfl (fun j u _ H => H)
    refine StepsC.cons (n := []) (dd := []) (k := 2) rfl (by kernel_rfl) (by kernel_rfl) (fun xs wx hS hV K hK => ?_) ?_
    · clear hV
      go_simp
      exact hK.out _ _ (hS.alloc hS.size _) ⟨_, rfl, by rw [← HN.out]; exact hS.size, Blk.new _ _ _⟩ (fun j u _ H => VW.new ((Below.refl _ _).alloc (Nat.le_refl _) _) j u H)
    refine StepsC.cons (n := []) (dd := []) (k := 3) rfl (by kernel_rfl) (by kernel_rfl) (fun xs wx hS hV K hK => ?_) ?_
    · clear hV
      go_simp
      exact hK.out _ _ hS rfl (fun j u _ H => H)
    refine StepsC.cons (n := [2]) (dd := []) (k := 4) rfl (by kernel_rfl) (by kernel_rfl) (fun xs wx hS hV K hK => ?_) ?_
    · obtain ⟨d2, -⟩ := hV
      replace d2 : xs 2 = .pointer (some ⟨g1, (nG - 1) * 4, none⟩) := d2
      rw [d2] at hK ⊢
      go_simp
      exact hK.out _ _ hS rfl (fun j u _ H => H)
    refine StepsC.cons (n := [3]) (dd := []) (k := 5) rfl (by kernel_rfl) (by kernel_rfl) (fun xs wx hS hV K hK => ?_) ?_
    · obtain ⟨d3, -⟩ := hV
      replace d3 : xs 3 = .pointer (some ⟨g1, (nG - 1) * 4, none⟩) := d3
      rw [d3] at hK ⊢
      go_simp
      exact hK.out _ _ hS rfl (fun j u _ H => H)
    refine StepsC.cons (n := [4]) (dd := []) (k := 6) rfl (by kernel_rfl) (by kernel_rfl) (fun xs wx hS hV K hK => ?_) ?_
    · obtain ⟨d4, -⟩ := hV
      replace d4 : xs 4 = .pointer (some ⟨g1, (nG - 1) * 4 + 3, none⟩) := d4
      rw [d4] at hK ⊢
      have c : wx.cell? ⟨g1, (nG - 1) * 4 + 3, none⟩ = some (.slice Al nl kl) := (hS.cell (p := ⟨g1, (nG - 1) * 4 + 3, none⟩) (World.block_lt_of_cell? w3 _ C3.out)).trans C3.out
      go_simp
      exact hK.out _ _ hS rfl (fun j u _ H => H)
    refine StepsC.cons (n := [1, 5]) (dd := [6, 9, 1]) (k := 7) rfl (by kernel_rfl) (by kernel_rfl) (fun xs wx hS hV K hK => ?_) ?_
    · obtain ⟨⟨bk, d1, hbk, hkb⟩, d5, -⟩ := hV
      replace d5 : xs 5 = .slice Al nl kl := d5
      rw [d1, d5] at hK ⊢
      have hbw := HBW.out.trans (hS.mono (by omega))
      have hsl := (HSL.out.new hbw).1
      have hown : wx.ownsRow N 41 10 (.slice (some ⟨bk, 0, none⟩) 0 0) 0 [] := own_empty hkb hbk
      refine step_appS rfl _ _ _ rfl stpKe N _ 0 [] rfl hown _ nl (smC L.ms) rfl (by rw [HNL.out] at hsl; exact hsl) (by rw [smC_len, HNL.out]) (smC_one HSL.out) (by omega) (by omega) (by rw [← HN.out]; exact hS) (by rw [← HN.out]; exact hS.size) ?_
      intro v6 w6 ho6 hb6 hg6 hat6
      simp only [Nat.zero_add, List.nil_append] at ho6
      refine hK.out _ _ (by rw [← HN.out] at hb6; exact hb6) ho6 (fun j u hj H => ?_)
      exact VW.app hkb rfl hg6 j u hj H
    refine StepsC.cons (n := []) (dd := []) (k := 8) rfl (by kernel_rfl) (by kernel_rfl) (fun xs wx hS hV K hK => ?_) ?_
    · clear hV
      have c0 : wx.cell? ⟨w.heap.size + 1, 0, none⟩ = some (.int .i64 s.op) := (KS3.out.below hS KS3.out.lt).cell 0
      have c1 : wx.cell? ⟨w.heap.size + 1, 1, none⟩ = some (.int .i64 s.line) := (KS3.out.below hS KS3.out.lt).cell 1
      have c2 : wx.cell? ⟨w.heap.size + 1, 2, none⟩ = some (.string (bs s.from_)) := (KS3.out.below hS KS3.out.lt).cell 2
      have c3 : wx.cell? ⟨w.heap.size + 1, 3, none⟩ = some (.string (bs s.mode)) := (KS3.out.below hS KS3.out.lt).cell 3
      have c4 : wx.cell? ⟨w.heap.size + 1, 4, none⟩ = some (.bool s.force) := (KS3.out.below hS KS3.out.lt).cell 4
      have c5 : wx.cell? ⟨w.heap.size + 1, 5, none⟩ = some (.slice Ap s.pairs.length kp) := (KS3.out.below hS KS3.out.lt).cell 5
      have c6 : wx.cell? ⟨w.heap.size + 1, 6, none⟩ = some (.bool s.bare) := (KS3.out.below hS KS3.out.lt).cell 6
      have c7 : wx.cell? ⟨w.heap.size + 1, 7, none⟩ = some (.slice Aw s.words.length kw) := (KS3.out.below hS KS3.out.lt).cell 7
      have c8 : wx.cell? ⟨w.heap.size + 1, 8, none⟩ = some (.slice Ad s.docs.length kd) := (KS3.out.below hS KS3.out.lt).cell 8
      have c9 : wx.cell? ⟨w.heap.size + 1, 9, none⟩ = some (.slice Ae s.exec.length ke) := (KS3.out.below hS KS3.out.lt).cell 9
      go_simp
      exact hK.out _ _ hS rfl (fun j u _ H => H)
    refine StepsC.cons (n := [7]) (dd := []) (k := 9) rfl (by kernel_rfl) (by kernel_rfl) (fun xs wx hS hV K hK => ?_) ?_
    · obtain ⟨d7, -⟩ := hV
      replace d7 : xs 7 = .agg #[.int .i64 s.op, .int .i64 s.line, .string (bs s.from_), .string (bs s.mode), .bool s.force, .slice Ap s.pairs.length kp, .bool s.bare, .slice Aw s.words.length kw, .slice Ad s.docs.length kd, .slice Ae s.exec.length ke] := d7
      rw [d7] at hK ⊢
      go_simp
      exact hK.out _ _ (hS.alloc hS.size _) ⟨_, rfl, by rw [← HN.out]; exact hS.size, Blk.new _ _ _⟩ (fun j u _ H => VW.new ((Below.refl _ _).alloc (Nat.le_refl _) _) j u H)
    refine StepsC.cons (n := [6, 8]) (dd := [9, 6, 1, 8]) (k := 10) rfl (by kernel_rfl) (by kernel_rfl) (fun xs wx hS hV K hK => ?_) ?_
    · obtain ⟨hown, ⟨bk, d8, hbk, hkb⟩, -⟩ := hV
      obtain ⟨u6, hu6⟩ : ∃ u, xs 6 = u := ⟨_, rfl⟩
      rw [hu6] at hown
      rw [hu6, d8] at hK ⊢
      replace hown : wx.ownsRow N 41 10 u6 nl (smC L.ms) := hown
      refine step_appS rfl _ _ _ rfl stpKe N _ nl (smC L.ms) rfl hown _ 1 (smL (⟨s, .slice Ap s.pairs.length kp, .slice Aw s.words.length kw, .slice Ad s.docs.length kd, .slice Ae s.exec.length ke⟩ : SM)) rfl (SlA.blk (cs := smL (⟨s, .slice Ap s.pairs.length kp, .slice Aw s.words.length kw, .slice Ad s.docs.length kd, .slice Ae s.exec.length ke⟩ : SM)) hkb) rfl (smL_one HOK.out) (by omega) (by omega) (by rw [← HN.out]; exact hS) (by rw [← HN.out]; exact hS.size) ?_
      intro v9 w9 ho9 hb9 hg9 hat9
      refine hK.out _ _ (by rw [← HN.out] at hb9; exact hb9) ho9 (fun j u hj H => ?_)
      exact VW.app2 j u hj H
    refine StepsC.cons (n := [0]) (dd := []) (k := 11) rfl (by kernel_rfl) (by kernel_rfl) (fun xs wx hS hV K hK => ?_) ?_
    · obtain ⟨d0, -⟩ := hV
      replace d0 : xs 0 = .pointer (some ⟨g1, (nG - 1) * 4, none⟩) := d0
      rw [d0] at hK ⊢
      go_simp
      exact hK.out _ _ hS rfl (fun j u _ H => H)
    refine StepsC.cons (n := [10]) (dd := []) (k := 12) rfl (by kernel_rfl) (by kernel_rfl) (fun xs wx hS hV K hK => ?_) ?_
    · obtain ⟨d10, -⟩ := hV
      replace d10 : xs 10 = .pointer (some ⟨g1, (nG - 1) * 4, none⟩) := d10
      rw [d10] at hK ⊢
      go_simp
      exact hK.out _ _ hS rfl (fun j u _ H => H)
    exact StepsC.nil
  case hT =>
    intro xs w5 hS hV
    have d11 : xs 11 = .pointer (some ⟨g1, (nG - 1) * 4 + 3, none⟩) := hV 11 (by decide) (fun k hk => by cases hk)
    have hown : w5.ownsRow N 41 10 (xs 9) (nl + 1) (smC L.ms ++ smL (⟨s, .slice Ap s.pairs.length kp, .slice Aw s.words.length kw, .slice Ad s.docs.length kd, .slice Ae s.exec.length ke⟩ : SM)) := hV 9 (by decide) (fun k hk => by cases hk)
    obtain ⟨B9, q9, e9⟩ := ownk_form hown
    rw [e9] at hown
    simp only [List.drop_succ_cons, List.drop_zero]
    rw [d11, e9]
  
    have c3 : w5.cell? ⟨g1, (nG - 1) * 4 + 3, none⟩ = some (.slice Al nl kl) := (hS.cell (p := ⟨g1, (nG - 1) * 4 + 3, none⟩) (World.block_lt_of_cell? w3 _ C3.out)).trans C3.out
    have hR5 := own_below HR3.out hS
    have f3 : w5.frozen? ⟨g1, (nG - 1) * 4 + 3, none⟩ = false := hR5.frozenAt _
    have HR5 := Lib.hid hR5
    have HO5 := Lib.hid hown
    have hb9 : ∀ k, (Value.slice B9 (nl + 1) q9).ownBlock = some k → g1 < k := fun k hk => by
      have h1 := (hown.lt k hk).1
      have h2 := (HR3.out.lt g1 rfl).2
      have h3 := HN.out
      omega
    have HB9 := Lib.hid hb9
    have HBS := Lib.hid hS
    clear hV d11 e9 hown hR5 hS hb9
    go_upto_region 5 with fail
    clear c3 f3
    have HF5 := Lib.hid (HF3.out.below HBS.out HF3.out.lt)
    have HZ5 := Lib.hid ((KZ.out.below HB3.out (by omega)).below HBS.out (KZ.out.below HB3.out (by omega)).lt)
    have hg1' : w.heap.size + 1 + 1 + 1 + 1 ≤ g1 := hg1
    have HF6 : Hid (Blk (w5.setCell ⟨g1, (nG - 1) * 4 + 3, none⟩ (.slice B9 (nl + 1) q9)) (w.heap.size + 1 + 1 + 1) 25 #[.int .u8 (e.toNat : Int), .slice Aa na ka, .slice (some ⟨g1, 0, none⟩) nG q1]) := Lib.hid ((RowKit.Below.heap_setCell _ _ _ _ (by show w.heap.size + 1 + 1 + 1 ≠ g1; omega)).trans HF5.out)
    have HZ6 : Hid (Blk (w5.setCell ⟨g1, (nG - 1) * 4 + 3, none⟩ (.slice B9 (nl + 1) q9)) (w.heap.size + 1 + 1) 25 #[.int .u8 0, .slice none 0 0, .slice none 0 0]) := Lib.hid ((RowKit.Below.heap_setCell _ _ _ _ (by show w.heap.size + 1 + 1 ≠ g1; omega)).trans HZ5.out)
    have HR6 := Lib.hid (HR5.out.stored ((nG - 1) * 4 + 3) (.slice B9 (nl + 1) q9)).1
    have HO6 := Lib.hid (HO5.out.kept (setCell_grown_ w5 ⟨g1, (nG - 1) * 4 + 3, none⟩ (.slice B9 (nl + 1) q9)) (by
      rcases hx : (Value.slice B9 (nl + 1) q9).ownBlock with _ | k
      · exact .inl rfl
      · refine .inr (fun q => ?_)
        injection q with q
        have q' : k = g1 := q
        have := HB9.out k hx
        omega))
    have HB6 : Hid (Below w.heap.size w (w5.setCell ⟨g1, (nG - 1) * 4 + 3, none⟩ (.slice B9 (nl + 1) q9))) := Lib.hid ((HBW.out.trans (HBS.out.mono (by omega))).setCell (p := ⟨g1, (nG - 1) * 4 + 3, none⟩) (by show w.heap.size ≤ g1; omega) _)
    obtain ⟨w6, hw6⟩ : ∃ y, w5.setCell ⟨g1, (nG - 1) * 4 + 3, none⟩ (.slice B9 (nl + 1) q9) = y := ⟨_, rfl⟩
    rw [hw6] at HF6 HZ6 HR6 HO6 HB6
    rw [hw6]
    clear hw6 HF5 HZ5 HR5 HO5 HBS
    have b0 : w6.cell? ⟨w.heap.size + 1 + 1 + 1, 0, none⟩ = some (.int .u8 (e.toNat : Int)) := HF6.out.cell 0
    have b1 : w6.cell? ⟨w.heap.size + 1 + 1 + 1, 1, none⟩ = some (.slice Aa na ka) := HF6.out.cell 1
    have b2 : w6.cell? ⟨w.heap.size + 1 + 1 + 1, 2, none⟩ = some (.slice (some ⟨g1, 0, none⟩) nG q1) := HF6.out.cell 2
    go_wp2_with (refine wpList_store_st rfl _ _ _ rfl fileT (w.heap.size + 1 + 1) #[.int .u8 (e.toNat : Int), .slice Aa na ka, .slice (some ⟨g1, 0, none⟩) nG q1] _ rfl rfl HZ6.out rfl rfl rfl ?_; intro w7 hK7 hg7 hz7)
    have hG7 : w6.grownBy w7 (some (w.heap.size + 1 + 1)) := hg7
    have hB7 : Below w.heap.size w w7 := HB6.out.trans ((Fx.of_grown hG7).to_below HB6.out.size (fun b q => by injection q with q; omega))
    have hR7 := HR6.out.kept hG7 (.inr (fun q => by injection q with q; have q' : g1 = w.heap.size + 1 + 1 := q; omega))
    have hO7 := HO6.out.kept hG7 (by
      rcases hx : (Value.slice B9 (nl + 1) q9).ownBlock with _ | k
      · exact .inl rfl
      · refine .inr (fun q => ?_)
        injection q with q
        have q' : k = w.heap.size + 1 + 1 := q
        have := HB9.out k hx
        omega)
    refine bodyPost_ret (results_c0 rfl fileT rfl hK7 rfl) rfl ?_
    have hset : (gmC (A ++ [L])).set ((nG - 1) * 4 + 3) (.slice B9 (nl + 1) q9) = gmC (A ++ [⟨L.line, L.base, L.name, (.slice B9 (nl + 1) q9), L.ms ++ [(⟨s, .slice Ap s.pairs.length kp, .slice Aw s.words.length kw, .slice Ad s.docs.length kd, .slice Ae s.exec.length ke⟩ : SM)]⟩]) := by
      have e1 : ∀ x : GM, gmC (A ++ [x]) = gmC A ++ gmL x := fun x => by simp [gmC]
      have e2 : (gmC A).length = (nG - 1) * 4 := by rw [gmC_len, HNG.out]; have := HNX.out; congr 1; omega
      rw [e1, e1, List.set_append_right _ _ (by omega), e2, Nat.add_sub_cancel_left]
      rfl
    rw [hset] at hR7
    exact ⟨⟨e, .slice Aa na ka, args, .slice (some ⟨g1, 0, none⟩) nG q1, A ++ [⟨L.line, L.base, L.name, (.slice B9 (nl + 1) q9), L.ms ++ [(⟨s, .slice Ap s.pairs.length kp, .slice Aw s.words.length kw, .slice Ad s.docs.length kd, .slice Ae s.exec.length ke⟩ : SM)]⟩]⟩, rfl, ⟨HA.out.new hB7, ⟨by
        rw [show (A ++ [(⟨L.line, L.base, L.name, (.slice B9 (nl + 1) q9), L.ms ++ [(⟨s, .slice Ap s.pairs.length kp, .slice Aw s.words.length kw, .slice Ad s.docs.length kd, .slice Ae s.exec.length ke⟩ : SM)]⟩ : GM)]).length = nG by rw [List.length_append, HNG.out]; exact HNX.out]
        exact SlA.own hR7, fun g hg => by
        rcases List.mem_append.1 hg with hg | hg
        · exact (HG.out.2 g (List.mem_append.2 (.inl hg))).new hB7
        · rw [List.mem_singleton] at hg
          subst hg
          refine ⟨?_, fun m' hm' => ?_⟩
          · show SlA w7 (.slice B9 (nl + 1) q9) (L.ms ++ [(⟨s, .slice Ap s.pairs.length kp, .slice Aw s.words.length kw, .slice Ad s.docs.length kd, .slice Ae s.exec.length ke⟩ : SM)]).length (smC (L.ms ++ [(⟨s, .slice Ap s.pairs.length kp, .slice Aw s.words.length kw, .slice Ad s.docs.length kd, .slice Ae s.exec.length ke⟩ : SM)]))
            rw [show smC (L.ms ++ [(⟨s, .slice Ap s.pairs.length kp, .slice Aw s.words.length kw, .slice Ad s.docs.length kd, .slice Ae s.exec.length ke⟩ : SM)]) = smC L.ms ++ smL (⟨s, .slice Ap s.pairs.length kp, .slice Aw s.words.length kw, .slice Ad s.docs.length kd, .slice Ae s.exec.length ke⟩ : SM) by simp [smC], List.length_append, HNL.out]
            exact SlA.own hO7
          · rcases List.mem_append.1 hm' with hm' | hm'
            · exact (HSL.out.2 m' hm').new hB7
            · rw [List.mem_singleton] at hm'
              subst hm'
              exact HOK.out.new hB7⟩⟩, by simp [FM.fl, GM.sg, Ck.more], hB7⟩
end Go.Proofs.YtdaejggcjjdhkaaGreatDoor
