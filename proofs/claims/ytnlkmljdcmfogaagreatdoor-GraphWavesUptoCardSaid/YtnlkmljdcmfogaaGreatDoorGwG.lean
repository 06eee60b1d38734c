/- graph.Make, where nothing is wrong with the file: walked. -/
import Derived.Test.YtnlkmljdcmfogaaGreatDoorGwV0
import Derived.Test.YtnlkmljdcmfogaaGreatDoorGwC0
import Derived.Test.YtnlkmljdcmfogaaGreatDoorCkFile
namespace Go.Proofs.YtnlkmljdcmfogaaGreatDoor
open Go Go.RowKit
def refsAny (nds : List Gw.Nd) (i j : Nat) : Bool := match nds[i]? with
  | some n => (n.base :: n.froms).any (hit j)
  | none => false
/-- which stages are needed, so many looked at, from the last one on. -/
def ndN (nds : List Gw.Nd) : Nat → Nat → Bool
  | 0, j => j == nds.length - 1
  | t + 1, j => ndN nds t j || (ndN nds t (nds.length - 1 - t) && refsAny nds (nds.length - 1 - t) j)
def needL (nds : List Gw.Nd) : List Nat := (List.range nds.length).filter (ndN nds nds.length)
def refsFold (key : Gw.Rf → List UInt8) (nds : List Gw.Nd) (st : List (List UInt8) × List (List UInt8)) (i : Nat) : List (List UInt8) × List (List UInt8) := match nds[i]? with
  | some n => (n.base :: n.froms).foldl (seeR key) st
  | none => st
def seenL (key : Gw.Rf → List UInt8) (nds : List Gw.Nd) (l : List Nat) : List (List UInt8) × List (List UInt8) := l.foldl (refsFold key nds) ([key ⟨0, 0, []⟩], [])
/-- the file is one of which a plan is made: these nodes. -/
structure MkOk (f : FM) (nds : List Gw.Nd) (key : Gw.Rf → List UInt8) : Prop where
  len : nds.length = f.stages.length
  pos : 0 < nds.length
  few : nds.length ≤ 100
  ms : ∀ G ∈ f.stages, G.ms.length ≤ 100 ∧ G.base.length ≤ 60000
  b : ∀ i (h : i < f.stages.length) (h' : i < nds.length), BaseOk f.escape f.stages i f.stages[i].base nds[i].base
  fl : ∀ i (h : i < f.stages.length) (h' : i < nds.length), nds[i].froms.length = f.stages[i].ms.length
  f : ∀ i (h : i < f.stages.length) (h' : i < nds.length) k (hk : k < f.stages[i].ms.length) (hk' : k < nds[i].froms.length), FromOk f.stages i f.stages[i].ms[k].s.from_ nds[i].froms[k]
  hkey : ∀ n ∈ nds, ∀ r ∈ n.base :: n.froms, r.kind = 2 → keyOf Tryz.prog 77 (rfV r) = some (.string (key r))
  hkey0 : keyOf Tryz.prog 77 (rfV ⟨0, 0, []⟩) = some (.string (key ⟨0, 0, []⟩))
theorem RefOk.low {l : List GM} {i : Nat} {s : List UInt8} {r : Gw.Rf} (h : RefOk l i s r) (hk : r.kind = 1) : 0 ≤ r.stage ∧ r.stage < (i : Int) := by
  rcases h with ⟨n, _, h2, h3, rfl⟩ | ⟨_, _, rfl⟩
  · exact ⟨h2, h3⟩
  · cases hk
theorem MkOk.low {f : FM} {nds : List Gw.Nd} {key : Gw.Rf → List UInt8} (h : MkOk f nds key) (i : Nat) (hi : i < nds.length) (r : Gw.Rf) (hr : r ∈ nds[i].base :: nds[i].froms) (hk : r.kind = 1) : 0 ≤ r.stage ∧ r.stage < (nds.length : Int) := by
  have hs : i < f.stages.length := by rw [← h.len]; exact hi
  rcases List.mem_cons.1 hr with rfl | hr
  · obtain ⟨s, t, _, _, _, h2⟩ := h.b i hs hi
    rcases h2 with ⟨_, h2⟩ | ⟨_, h2⟩
    · rw [h2] at hk; cases hk
    · have := h2.low hk; omega
  · obtain ⟨k, hk2, rfl⟩ := List.getElem_of_mem hr
    obtain ⟨_, _, h2⟩ := h.f i hs hi k (by rw [← h.fl i hs hi]; exact hk2) hk2
    rcases h2 with ⟨_, h2, h3⟩ | ⟨_, h2⟩
    · rw [h3]; exact ⟨by show (0 : Int) ≤ 0; omega, by show (0 : Int) < _; omega⟩
    · have := h2.low hk; omega
/-- what is said of the target: none, or one that is no stage. -/
def TgOk (f : FM) (tg : List UInt8) (b : Bool) : Prop := (b = false ∧ tg = []) ∨ (b = true ∧ tg.isEmpty = false ∧ tg.length ≤ 60000 ∧ namedL tg f.stages = -1 ∧ (Lib.trimS tg [48, 49, 50, 51, 52, 53, 54, 55, 56, 57]).isEmpty = false)
/-- what Make answers then. -/
def MkAns (nds : List Gw.Nd) (key : Gw.Rf → List UInt8) (b : Bool) (w : World) (r : Ending) (w' : World) : Prop :=
  if b then r = .returned (.tuple #[.agg #[.slice none 0 0, .int .i64 0, .slice none 0 0, .slice none 0 0], .iface 114 (.int .i64 21)]) ∧ Below w.heap.size w w'
  else (∃ p : PM, r = .returned (.tuple #[.agg #[p.vn, .int .i64 p.target, p.vd, p.vi], .nilIface]) ∧ p.Ok w' ∧ p.nodes.map NdM.nd = nds ∧ p.target = (nds.length : Int) - 1 ∧ p.need = toI (needL nds) ∧ p.images = (seenL key nds (needL nds)).2) ∧ Below w.heap.size w w'
theorem mkAns_err {nds : List Gw.Nd} {key : Gw.Rf → List UInt8} {w w' : World} {r : Ending} (h : r = .returned (.tuple #[.agg #[.slice none 0 0, .int .i64 0, .slice none 0 0, .slice none 0 0], .iface 114 (.int .i64 21)])) (hb : Below w.heap.size w w') : MkAns nds key true w r w' := by
  unfold MkAns
  rw [if_pos rfl]
  exact ⟨h, hb⟩
theorem mkAns_ok {nds : List Gw.Nd} {key : Gw.Rf → List UInt8} {w w' : World} {r : Ending} (p : PM) (h : r = .returned (.tuple #[.agg #[p.vn, .int .i64 p.target, p.vd, p.vi], .nilIface])) (ho : p.Ok w') (h1 : p.nodes.map NdM.nd = nds) (h2 : p.target = (nds.length : Int) - 1) (h3 : p.need = toI (needL nds)) (h4 : p.images = (seenL key nds (needL nds)).2) (hb : Below w.heap.size w w') : MkAns nds key false w r w' := by
  unfold MkAns
  rw [if_neg (by simp)]
  exact ⟨⟨p, h, ho, h1, h2, h3, h4⟩, hb⟩
theorem own_keep {w w' : World} {base k n : Nat} {e : TypeId} {v : Value} {xs : List Value} (h : w.ownsRow base e k v n xs) (hk : ∀ g cs, Blk w g e cs → Blk w' g e cs) : w'.ownsRow base e k v n xs := by
  refine ⟨h.1, ?_⟩
  rcases h.2 with h2 | ⟨g, cap, cur, e1, e2, e3, e4⟩
  · exact .inl h2
  · exact .inr ⟨g, cap, cur, e1, e2, hk g cur e3, e4⟩
theorem seeR_len (key : Gw.Rf → List UInt8) (l : List Gw.Rf) (s0 : List (List UInt8) × List (List UInt8)) : (l.foldl (seeR key) s0).1.length ≤ s0.1.length + l.length ∧ (l.foldl (seeR key) s0).2.length ≤ s0.2.length + l.length := by
  induction l generalizing s0 with
  | nil => exact ⟨by simp, by simp⟩
  | cons r l ih =>
    have h := ih (seeR key s0 r)
    have h2 : (seeR key s0 r).1.length ≤ s0.1.length + 1 ∧ (seeR key s0 r).2.length ≤ s0.2.length + 1 := by
      unfold seeR
      split
      · simp
      · omega
    simp only [List.foldl_cons, List.length_cons]
    omega
theorem seen_len (key : Gw.Rf → List UInt8) (nds : List Gw.Nd) (hf : ∀ n ∈ nds, n.froms.length ≤ 100) (l : List Nat) (s0 : List (List UInt8) × List (List UInt8)) : (l.foldl (refsFold key nds) s0).1.length ≤ s0.1.length + 101 * l.length ∧ (l.foldl (refsFold key nds) s0).2.length ≤ s0.2.length + 101 * l.length := by
  induction l generalizing s0 with
  | nil => exact ⟨by simp, by simp⟩
  | cons r l ih =>
    have h := ih (refsFold key nds s0 r)
    have h2 : (refsFold key nds s0 r).1.length ≤ s0.1.length + 101 ∧ (refsFold key nds s0 r).2.length ≤ s0.2.length + 101 := by
      unfold refsFold
      split
      · rename_i n hn
        have h3 := hf n (List.mem_of_getElem? hn)
        have h4 := seeR_len key (n.base :: n.froms) s0
        simp only [List.length_cons] at h4
        omega
      · omega
    simp only [List.foldl_cons, List.length_cons]
    omega
theorem planTg : StK Tryz.prog 32 4 := ⟨⟨_, Tryz.underlying32⟩, by kernel_rfl⟩
set_option maxRecDepth 100000 in
set_option maxHeartbeats 8000000 in
theorem make_any (f : FM) (nds : List Gw.Nd) (key : Gw.Rf → List UInt8) (tg : List UInt8) (b : Bool) (w : World) (hm : MkOk f nds key) (ht : TgOk f tg b) (hck : Ck.fileL f.fl = none) (hsm : f.fl.Small) (ha : f.va = .slice none 0 0) (g0 c0 : Nat) (hvg : f.vg = .slice (some ⟨g0, 0, none⟩) f.stages.length c0) (hok : f.Ok w) (hT : Tabs w) (hM : Maxl w) (hV : ErrVar w) :
    Calls Tryz.prog 9 #[.agg #[.int .u8 (f.escape.toNat : Int), f.va, f.vg], .slice none 0 0, .string (bs tg)] w (MkAns nds key b w) := by
  have HCF := fun w1 (h : Below w.heap.size w w1) => file_any f w1 (hok.new h) hsm (hT.new h) (hM.grow h) (hV.below h hV.lt) (Lib.hid hck)
  have hcg := hok.g
  have hmb := hm.ms
  rw [ha, hvg] at HCF ⊢
  rw [hvg] at hcg
  have HF := Lib.hid HCF
  have HG := Lib.hid hcg
  have HMO := Lib.hid hm
  have HTG := Lib.hid ht
  have HMX := Lib.hid hM
  have hNl := hm.len
  have hpos := hm.pos
  have hfew := hm.few
  have HMS := Lib.hid hmb
  obtain ⟨e, va, args, vg, l⟩ := f
  dsimp only at HF HG HMS hNl ⊢
  have hbt : e.toNat < 256 := UInt8.toNat_lt _
  clear HCF hcg hm ht hck hsm ha hvg hok hT hM hV hmb
  have k0 := (Blk.new w 25 #[.int .u8 (e.toNat : Int), .slice none 0 0, .slice (some ⟨g0, 0, none⟩) l.length c0]).alloc (.cells #[.slice none 0 0, .int .i64 0, .slice none 0 0, .slice none 0 0] 32)
  have b0 := (Below.refl w.heap.size w).alloc (Nat.le_refl _) (.cells #[.int .u8 (e.toNat : Int), .slice none 0 0, .slice (some ⟨g0, 0, none⟩) l.length c0] 25)
  have b1 := b0.alloc b0.size (.cells #[.slice none 0 0, .int .i64 0, .slice none 0 0, .slice none 0 0] 32)
  have k1 := Blk.new (w.alloc (.cells #[.int .u8 (e.toNat : Int), .slice none 0 0, .slice (some ⟨g0, 0, none⟩) l.length c0] 25)) 32 #[.slice none 0 0, .int .i64 0, .slice none 0 0, .slice none 0 0]
  rw [World.size_alloc] at k1
  obtain ⟨w1, h1⟩ : ∃ y, (w.alloc (.cells #[.int .u8 (e.toNat : Int), .slice none 0 0, .slice (some ⟨g0, 0, none⟩) l.length c0] 25)).alloc (.cells #[.slice none 0 0, .int .i64 0, .slice none 0 0, .slice none 0 0] 32) = y := ⟨_, rfl⟩
  rw [h1] at k0 b1 k1
  have HW1 := Lib.hid h1
  have HB1 := Lib.hid b1
  have HK0 := Lib.hid k0
  have HK1 := Lib.hid k1
  obtain ⟨F, hF⟩ : ∃ F, w.heap.size = F := ⟨_, rfl⟩
  have HFE := Lib.hid hF
  rw [hF] at HK0 HK1
  clear h1 k0 b0 b1 k1
  go_enter Tryz.func9, Tryz.ntmps9
  go_upto_region 1 with fail
  rw [HW1.out]
  clear HW1 hF
  have a0 : w1.cell? ⟨F, 0, none⟩ = some (.int .u8 (e.toNat : Int)) := HK0.out.cell 0
  have a1 : w1.cell? ⟨F, 1, none⟩ = some (.slice none 0 0) := HK0.out.cell 1
  have a2 : w1.cell? ⟨F, 2, none⟩ = some (.slice (some ⟨g0, 0, none⟩) l.length c0) := HK0.out.cell 2
  have HC := Lib.hid (HF.out w1 HB1.out)
  go_wp2_with fail
  refine HC.out.mono ?_
  rintro q w2 ⟨hq, p2⟩
  obtain rfl : q = .returned .nilIface := hq
  have HB2 := Lib.hid (below_of_below HB1.out p2 HB1.out.size)
  have HK02 := Lib.hid (HK0.out.below p2 HK0.out.lt)
  have HK12 := Lib.hid (HK1.out.below p2 HK1.out.lt)
  clear HC a0 a1 a2 p2 HK0 HK1 HF
  have a0 : w2.cell? ⟨F, 0, none⟩ = some (.int .u8 (e.toNat : Int)) := HK02.out.cell 0
  have a1 : w2.cell? ⟨F, 1, none⟩ = some (.slice none 0 0) := HK02.out.cell 1
  have a2 : w2.cell? ⟨F, 2, none⟩ = some (.slice (some ⟨g0, 0, none⟩) l.length c0) := HK02.out.cell 2
  have HC := Lib.hid (vars_nil e (.slice (some ⟨g0, 0, none⟩) l.length c0) w2)
  go_wp2_with fail
  refine HC.out.mono ?_
  rintro q w3 ⟨rfl, p3⟩
  have HB3 := Lib.hid (below_of_below HB2.out p3 HB2.out.size)
  have HK03 := Lib.hid (HK02.out.below p3 HK02.out.lt)
  have HK13 := Lib.hid (HK12.out.below p3 HK12.out.lt)
  clear HC a0 a1 a2 p3 HK02 HK12
  go_upto_region 8 with fail
  have kp := Blk.new w3 32 #[.slice none 0 0, .int .i64 0, .slice none 0 0, .slice none 0 0]
  have bp := (Below.refl w3.heap.size w3).alloc (Nat.le_refl _) (.cells #[.slice none 0 0, .int .i64 0, .slice none 0 0, .slice none 0 0] 32)
  have z4 : w3.heap.size + 1 = (w3.alloc (.cells #[.slice none 0 0, .int .i64 0, .slice none 0 0, .slice none 0 0] 32)).heap.size := (World.size_alloc _ _).symm
  obtain ⟨PB, hPB⟩ : ∃ PB, w3.heap.size = PB := ⟨_, rfl⟩
  obtain ⟨w4, h4⟩ : ∃ y, w3.alloc (.cells #[.slice none 0 0, .int .i64 0, .slice none 0 0, .slice none 0 0] 32) = y := ⟨_, rfl⟩
  rw [h4] at kp bp z4 ⊢
  have HB4 := Lib.hid (below_of_below HB3.out bp HB3.out.size)
  have HK04 := Lib.hid (HK03.out.below bp HK03.out.lt)
  have HK14 := Lib.hid (HK13.out.below bp HK13.out.lt)
  have HFP : Hid (F + 1 < PB) := Lib.hid (by rw [← hPB]; exact HK13.out.lt)
  rw [hPB] at kp z4 ⊢
  have HP4 := Lib.hid kp
  have HZ4 := Lib.hid z4
  have HWP : Hid (w.heap.size ≤ PB) := Lib.hid (by rw [← hPB]; exact HB3.out.size)
  have HGL : Hid (g0 < w.heap.size) := Lib.hid (by
    obtain ⟨g, o, c, G, A, k, hv, _, _, _, d0, _⟩ := gm_full HG.out (i := 0) (by omega)
    injection hv with hv _ _
    injection hv with hv
    injection hv with q1 _ _
    subst q1
    exact World.block_lt_of_cell? w _ d0)
  clear kp bp z4 h4 HK03 HK13 HB3 hPB
  have a2 : w4.cell? ⟨F, 2, none⟩ = some (.slice (some ⟨g0, 0, none⟩) l.length c0) := HK04.out.cell 2
  go_wp2_with fail
  go_loopw [43] (fun t43 wr => ∃ (i : Nat) (vN : Value) (L : List NdM), i ≤ l.length ∧ t43 = .int .i64 (i : Int) ∧ Hid (Blk wr PB 32 #[vN, .int .i64 0, .slice none 0 0, .slice none 0 0]) ∧ Hid (wr.ownsRow (PB + 1) 80 4 vN L.length (ndC L)) ∧ Hid (L.map NdM.nd = nds.take i) ∧ Hid (∀ n ∈ L, SlY wr (fun b => b ≤ PB ∨ vN.ownBlock = some b) n.vf n.froms.length (rfC n.froms)) ∧ Hid (Below PB w4 wr)) (fun t43 _ => l.length - (intOf t43).toNat)
  case atStart => exact ⟨0, .slice none 0 0, [], by omega, rfl, HP4, Lib.hid (World.ownsRow_nil _ _ _ _), Lib.hid rfl, Lib.hid (fun n h => by cases h), Lib.hid (Below.refl _ _)⟩
  case round =>
    rename World => wr
    clear HP4
    obtain ⟨i, vN, L, hi, rfl, HPB, HON, HLN, HFR, HBP⟩ := hrel
    have HLl : Hid (L.length = i) := Lib.hid (by have h := congrArg List.length HLN.out; rw [List.length_map, List.length_take] at h; omega)
    have HB5 : Hid (Below w.heap.size w wr) := Lib.hid (HB4.out.trans (HBP.out.mono HWP.out))
    have HK0r := Lib.hid (HK04.out.below HBP.out (by have := HFP.out; omega))
    have j0 : (0 : Int) ≤ (i : Int) := by omega
    rcases Nat.lt_or_ge i l.length with hin | hin
    · have i0 : decide ((i : Int) < (l.length : Int)) = true := by rw [decide_eq_true_eq]; omega
      have i1 : (i : Int) < (l.length : Int) := by omega
      have hin' : i < nds.length := by omega
      have HGr := Lib.hid (GsA.new HG.out HB5.out)
      obtain ⟨g, o, c, X, A, k, hv, hX, hXv, hXs, d0, d1, d2, d3⟩ := gm_full HGr.out hin
      injection hv with hv _ hcc
      injection hv with hv
      injection hv with q1 q2 _
      subst q1 q2 hcc
      simp only [Nat.zero_add] at d0 d1 d2 d3
      have hmsX := HMS.out _ (List.getElem_mem hin)
      rw [hX] at hmsX
      have hbo : BaseOk e l i l[i].base nds[i].base := HMO.out.b i hin hin'
      have hbl : l[i].base.length ≤ 60000 := by rw [hX]; exact hmsX.2
      have HBC := Lib.hid (fun wx (h : Below wr.heap.size wr wx) => base_any e (.slice none 0 0) g0 c0 l i wx hin nds[i].base hbo hbl (by omega) (GsA.new HGr.out h) (HMX.out.grow (below_of_below HB5.out h HB5.out.size)))
      obtain ⟨B, hB⟩ : ∃ B, nds[i].base = B := ⟨_, rfl⟩
      obtain ⟨fs, hfs⟩ : ∃ fs, nds[i].froms = fs := ⟨_, rfl⟩
      rw [hB] at HBC
      have hfl : fs.length = X.ms.length := by rw [← hfs, ← hX]; exact HMO.out.fl i hin hin'
      have hfo : ∀ k (hk : k < X.ms.length) (hk' : k < fs.length), FromOk l i X.ms[k].s.from_ fs[k] := by subst hX hfs; exact HMO.out.f i hin hin'
      have HND : Hid (nds.take (i + 1) = nds.take i ++ [⟨B, fs⟩]) := Lib.hid (by rw [List.take_succ_eq_append_getElem hin', ← hB, ← hfs])
      have HFO := Lib.hid hfo
      obtain ⟨line, base, nm, vs, ms⟩ := X
      dsimp only at hXv hXs hmsX d0 d1 d2 d3 hfl HFO
      subst hXv
      have HFL := Lib.hid hfl
      have hml := hmsX.1
      have ks := (Blk.new wr 88 #[.int .i64 line, .string (bs base), .string (bs nm), .slice A ms.length k]).alloc (.cells #[.int .i64 0, .int .i64 0, .string ⟨#[]⟩, .slice none 0 0] 80)
      have kn := Blk.new (wr.alloc (.cells #[.int .i64 line, .string (bs base), .string (bs nm), .slice A ms.length k] 88)) 80 #[.int .i64 0, .int .i64 0, .string ⟨#[]⟩, .slice none 0 0]
      have bn := ((Below.refl wr.heap.size wr).alloc (Nat.le_refl _) (.cells #[.int .i64 line, .string (bs base), .string (bs nm), .slice A ms.length k] 88)).alloc (by rw [World.size_alloc]; omega) (.cells #[.int .i64 0, .int .i64 0, .string ⟨#[]⟩, .slice none 0 0] 80)
      rw [World.size_alloc] at kn
      have HX5 := Lib.hid hXs
      clear hbo hfo hbl hB hfs hX hfl
      go_upto_region 12 with fail
      obtain ⟨w5, h5⟩ : ∃ y, (wr.alloc (.cells #[.int .i64 line, .string (bs base), .string (bs nm), .slice A ms.length k] 88)).alloc (.cells #[.int .i64 0, .int .i64 0, .string ⟨#[]⟩, .slice none 0 0] 80) = y := ⟨_, rfl⟩
      rw [h5] at ks kn bn ⊢
      obtain ⟨XB, hXB⟩ : ∃ XB, wr.heap.size = XB := ⟨_, rfl⟩
      have HXE := Lib.hid hXB
      have HKS := Lib.hid ks
      have HKN := Lib.hid kn
      have HB55 := Lib.hid bn
      rw [hXB] at HKS HKN ⊢
      have HK05 := Lib.hid (HK0r.out.below bn HK0r.out.lt)
      clear ks kn bn h5 d0 d1 d2 d3 hXB
      have a0 : w5.cell? ⟨F, 0, none⟩ = some (.int .u8 (e.toNat : Int)) := HK05.out.cell 0
      have a1 : w5.cell? ⟨F, 1, none⟩ = some (.slice none 0 0) := HK05.out.cell 1
      have a2 : w5.cell? ⟨F, 2, none⟩ = some (.slice (some ⟨g0, 0, none⟩) l.length c0) := HK05.out.cell 2
      have HC := Lib.hid (HBC.out w5 HB55.out)
      go_upto_region 13 with (go_at_call 38; refine HC.out.mono ?_; rintro q w6 ⟨rfl, p6⟩; have HKN6 := Lib.hid (HKN.out.below p6 HKN.out.lt); have n0 : w6.cell? ⟨XB + 1, 0, none⟩ = some (.int .i64 0) := HKN6.out.cell 0; have n1 : w6.cell? ⟨XB + 1, 1, none⟩ = some (.int .i64 0) := HKN6.out.cell 1; have n2 : w6.cell? ⟨XB + 1, 2, none⟩ = some (.string ⟨#[]⟩) := HKN6.out.cell 2; have f0 := HKN6.out.frozen 0; have f1 := HKN6.out.frozen 1; have f2 := HKN6.out.frozen 2)
      have HKS6 := Lib.hid (HKS.out.below p6 HKS.out.lt)
      have HK06 := Lib.hid (HK05.out.below p6 HK05.out.lt)
      have HB66 := Lib.hid (below_of_below HB55.out p6 HB55.out.size)
      clear HC a0 a1 a2 p6 n0 n1 n2 f0 f1 f2 HKN HKS HK05 HB55 HBC
      have kq : Hid (Blk (((w6.setCell ⟨XB + 1, 0, none⟩ (.int .i64 B.kind)).setCell ⟨XB + 1, 1, none⟩ (.int .i64 B.stage)).setCell ⟨XB + 1, 2, none⟩ (.string (bs B.name))) (XB + 1) 80 #[.int .i64 B.kind, .int .i64 B.stage, .string (bs B.name), .slice none 0 0]) := Lib.hid (((HKN6.out.set_ 0 (.int .i64 B.kind)).set_ 1 (.int .i64 B.stage)).set_ 2 (.string (bs B.name)))
      have fq : Hid (Fx (fun b => b = XB + 1) w6 (((w6.setCell ⟨XB + 1, 0, none⟩ (.int .i64 B.kind)).setCell ⟨XB + 1, 1, none⟩ (.int .i64 B.stage)).setCell ⟨XB + 1, 2, none⟩ (.string (bs B.name)))) := Lib.hid (((fx_set18 w6 (XB + 1) 0 _).trans (fx_set18 _ (XB + 1) 1 _)).trans (fx_set18 _ (XB + 1) 2 _))
      obtain ⟨w7, h7⟩ : ∃ y, ((w6.setCell ⟨XB + 1, 0, none⟩ (.int .i64 B.kind)).setCell ⟨XB + 1, 1, none⟩ (.int .i64 B.stage)).setCell ⟨XB + 1, 2, none⟩ (.string (bs B.name)) = y := ⟨_, rfl⟩
      rw [h7] at kq fq ⊢
      have HKN7 := kq
      have HKS7 := Lib.hid (fq.out.blk HKS6.out (by show ¬ XB = XB + 1; omega))
      have HK07 := Lib.hid (fq.out.blk HK06.out (by have := HXE.out; have := HFP.out; have := HWP.out; have := HBP.out.size; have := HZ4.out; show ¬ F = XB + 1; omega))
      have HB77 : Hid (Below wr.heap.size wr w7) := Lib.hid (HB66.out.trans (fq.out.to_below HB66.out.size (fun b h => by have h2 : b = XB + 1 := h; have := HXE.out; omega)))
      clear h7 kq fq HKN6 HKS6 HK06 HB66
      have s3 : w7.cell? ⟨XB, 3, none⟩ = some (.slice A ms.length k) := HKS7.out.cell 3
      go_wp2_with fail
      go_loopw [63] (fun t63 wx => ∃ (q : Nat) (vF : Value), q ≤ ms.length ∧ t63 = .int .i64 (q : Int) ∧ Hid (Blk wx (XB + 1) 80 #[.int .i64 B.kind, .int .i64 B.stage, .string (bs B.name), vF]) ∧ Hid (wx.ownsRow (XB + 2) 77 3 vF q (rfC (fs.take q))) ∧ Hid (Below (XB + 1) w7 wx)) (fun t63 _ => ms.length - (intOf t63).toNat)
      case atStart => exact ⟨0, .slice none 0 0, by omega, rfl, HKN7, Lib.hid (World.ownsRow_nil _ _ _ _), Lib.hid (Below.refl _ _)⟩
      case round =>
        rename World => wx
        clear s3 HKN7
        obtain ⟨q, vF, hq, rfl, HKN7, HOF, HB7x⟩ := hrel
        have HBx : Hid (Below wr.heap.size wr wx) := Lib.hid (HB77.out.trans (HB7x.out.mono (by have := HXE.out; omega)))
        have HK0x := Lib.hid (HK07.out.below HB7x.out (by have := HXE.out; have := HFP.out; have := HWP.out; have := HBP.out.size; have := HZ4.out; omega))
        have HKSx := Lib.hid (HKS7.out.below HB7x.out (by omega))
        have l0 : (0 : Int) ≤ (q : Int) := by omega
        rcases Nat.lt_or_ge q ms.length with hqn | hqn
        · have k0 : decide ((q : Int) < (ms.length : Int)) = true := by rw [decide_eq_true_eq]; omega
          have k1 : (q : Int) < (ms.length : Int) := by omega
          have hqf : q < fs.length := by have := HFL.out; omega
          obtain ⟨g, o, c, s, Ap, Aw, Ad, Ae, kp, kw, kd, ke, hv, hse, y0, y1, y2, y3, y4, y5, y6, y7, y8, y9⟩ := sm_full (StsA.new HX5.out HBx.out) hqn
          injection hv with hA _ hcc
          subst hA hcc
          have hfo := HFO.out q hqn hqf
          have hfs : ms[q].s.from_ = s.from_ := by rw [hse]
          rw [hfs] at hfo
          obtain ⟨R, hR⟩ : ∃ R, fs[q] = R := ⟨_, rfl⟩
          rw [hR] at hfo
          have HTK : Hid (rfC (fs.take (q + 1)) = rfC (fs.take q) ++ rfL R) := Lib.hid (by rw [List.take_succ_eq_append_getElem hqf, rfC_snoc, hR])
          have HFC := Lib.hid (fun wy (h : Below wr.heap.size wr wy) => from_any e (.slice none 0 0) g0 c0 l i s.op s.line s.from_ s.mode s.force s.bare (.slice Ap s.pairs.length kp) (.slice Aw s.words.length kw) (.slice Ad s.docs.length kd) (.slice Ae s.exec.length ke) wy hin R hfo (by omega) (GsA.new HGr.out h) (HMX.out.grow (below_of_below HB5.out h HB5.out.size)))
          clear hse hfo hfs hR
          go_upto_region 18 with (refine wpList_store_st rfl _ _ _ rfl stepTg wx.heap.size #[.int .i64 s.op, .int .i64 s.line, .string (bs s.from_), .string (bs s.mode), .bool s.force, .slice Ap s.pairs.length kp, .bool s.bare, .slice Aw s.words.length kw, .slice Ad s.docs.length kd, .slice Ae s.exec.length ke] #[.int .i64 0, .int .i64 0, .string ⟨#[]⟩, .string ⟨#[]⟩, .bool false, .slice none 0 0, .bool false, .slice none 0 0, .slice none 0 0, .slice none 0 0] rfl rfl (Blk.new _ _ _) rfl rfl rfl ?_; intro w8 hB8 hg8 hz8)
          have fx8 : Fx (fun b => b = wx.heap.size) wx w8 := (Fx.refl.alloc (.cells #[.int .i64 0, .int .i64 0, .string ⟨#[]⟩, .string ⟨#[]⟩, .bool false, .slice none 0 0, .bool false, .slice none 0 0, .slice none 0 0, .slice none 0 0] 100)).trans ((Fx.of_grown hg8).mono (fun b _ h => (Option.some.inj h).symm))
          have bx8 : Below wx.heap.size wx w8 := fx8.to_below (Nat.le_refl _) (fun b h => by have h2 : b = wx.heap.size := h; omega)
          have HB8 := Lib.hid (below_of_below HBx.out bx8 HBx.out.size)
          have HKT8 := Lib.hid hB8
          have HK08 := Lib.hid (HK0x.out.below bx8 HK0x.out.lt)
          have HKN8 := Lib.hid (HKN7.out.below bx8 HKN7.out.lt)
          have HOF8 := Lib.hid (own_below HOF.out bx8)
          have HB78 := Lib.hid (HB7x.out.trans (bx8.mono (Nat.le_of_lt HKN7.out.lt)))
          obtain ⟨T, hT⟩ : ∃ T, wx.heap.size = T := ⟨_, rfl⟩
          rw [hT] at HKT8 ⊢
          clear y0 y1 y2 y3 y4 y5 y6 y7 y8 y9 fx8 bx8 hB8 hg8 hz8 hT
          have a0 : w8.cell? ⟨F, 0, none⟩ = some (.int .u8 (e.toNat : Int)) := HK08.out.cell 0
          have a1 : w8.cell? ⟨F, 1, none⟩ = some (.slice none 0 0) := HK08.out.cell 1
          have a2 : w8.cell? ⟨F, 2, none⟩ = some (.slice (some ⟨g0, 0, none⟩) l.length c0) := HK08.out.cell 2
          have y0 : w8.cell? ⟨T, 0, none⟩ = some (.int .i64 s.op) := HKT8.out.cell 0
          have y1 : w8.cell? ⟨T, 1, none⟩ = some (.int .i64 s.line) := HKT8.out.cell 1
          have y2 : w8.cell? ⟨T, 2, none⟩ = some (.string (bs s.from_)) := HKT8.out.cell 2
          have y3 : w8.cell? ⟨T, 3, none⟩ = some (.string (bs s.mode)) := HKT8.out.cell 3
          have y4 : w8.cell? ⟨T, 4, none⟩ = some (.bool s.force) := HKT8.out.cell 4
          have y5 : w8.cell? ⟨T, 5, none⟩ = some (.slice Ap s.pairs.length kp) := HKT8.out.cell 5
          have y6 : w8.cell? ⟨T, 6, none⟩ = some (.bool s.bare) := HKT8.out.cell 6
          have y7 : w8.cell? ⟨T, 7, none⟩ = some (.slice Aw s.words.length kw) := HKT8.out.cell 7
          have y8 : w8.cell? ⟨T, 8, none⟩ = some (.slice Ad s.docs.length kd) := HKT8.out.cell 8
          have y9 : w8.cell? ⟨T, 9, none⟩ = some (.slice Ae s.exec.length ke) := HKT8.out.cell 9
          have HC := Lib.hid (HFC.out w8 HB8.out)
          go_wp2_with fail
          refine HC.out.mono ?_
          rintro q9 w9 ⟨rfl, p9⟩
          have HB9 := Lib.hid (below_of_below HB8.out p9 HB8.out.size)
          have HKN9 := Lib.hid (HKN8.out.below p9 HKN8.out.lt)
          have HOF9 := Lib.hid (own_below HOF8.out p9)
          have HB79 := Lib.hid (HB78.out.trans (p9.mono (Nat.le_of_lt HKN8.out.lt)))
          clear HC a0 a1 a2 y0 y1 y2 y3 y4 y5 y6 y7 y8 y9 p9 HKT8 HK08 HKN8 HOF8 HB78 HB8 HFC
          have kr := Blk.new w9 77 #[.int .i64 R.kind, .int .i64 R.stage, .string (bs R.name)]
          have br := (Below.refl w9.heap.size w9).alloc (Nat.le_refl _) (.cells #[.int .i64 R.kind, .int .i64 R.stage, .string (bs R.name)] 77)
          go_upto_region 21 with fail
          obtain ⟨wA, hA⟩ : ∃ y, w9.alloc (.cells #[.int .i64 R.kind, .int .i64 R.stage, .string (bs R.name)] 77) = y := ⟨_, rfl⟩
          rw [hA] at kr br ⊢
          have HKNA := Lib.hid (HKN9.out.below br HKN9.out.lt)
          have HOFA := Lib.hid (own_below HOF9.out br)
          have HB7A := Lib.hid (HB79.out.trans (br.mono (Nat.le_of_lt HKN9.out.lt)))
          have HKR := Lib.hid kr
          obtain ⟨RB, hRB⟩ : ∃ RB, w9.heap.size = RB := ⟨_, rfl⟩
          rw [hRB] at HKR ⊢
          clear kr br hA hRB HKN9 HOF9 HB79 HB9
          obtain ⟨Af, cf, rfl⟩ := ownk_form HOFA.out
          have y0 : wA.cell? ⟨RB, 0, none⟩ = some (.int .i64 R.kind) := HKR.out.cell 0
          have y1 : wA.cell? ⟨RB, 1, none⟩ = some (.int .i64 R.stage) := HKR.out.cell 1
          have y2 : wA.cell? ⟨RB, 2, none⟩ = some (.string (bs R.name)) := HKR.out.cell 2
          have n3 : wA.cell? ⟨XB + 1, 3, none⟩ = some (.slice Af q cf) := HKNA.out.cell 3
          have kC := (Below.refl wA.heap.size wA).alloc (Nat.le_refl _) (.cells #[.int .i64 R.kind, .int .i64 R.stage, .string (bs R.name)] 77)
          have HKNC := Lib.hid (HKNA.out.below kC HKNA.out.lt)
          have hzA := HKNA.out.lt
          go_upto_region 22 with (at_builtin; refine wpList_appk rfl _ _ _ rfl refKl (XB + 2) _ _ _ rfl (HOFA.out.alloc _) _ _ _ (rfL R) rfl rfl (news_at _ _ rfl _ _) (by simp [Value.oneCell', rfL]) (by omega) (by omega) (Below.refl _ _) (by rw [World.size_alloc]; omega) ?_; intro v1 wB ho1 hb1 hg1 hat1; have kf := Fx.of_grown hg1; have hNB := kf.blk HKNC.out (fun h => by have := (HOFA.out.lt _ h).1; omega); have m3 : wB.cell? ⟨XB + 1, 3, none⟩ = some (.slice Af q cf) := hNB.cell 3; have mf := hNB.frozen 3; obtain ⟨A1, c1, rfl⟩ := ownk_form ho1)
          have HKNF : Hid (Blk (wB.setCell ⟨XB + 1, 3, none⟩ (.slice A1 (q + 1) c1)) (XB + 1) 80 #[.int .i64 B.kind, .int .i64 B.stage, .string (bs B.name), .slice A1 (q + 1) c1]) := Lib.hid (hNB.set_ 3 _)
          have HOFF : Hid ((wB.setCell ⟨XB + 1, 3, none⟩ (.slice A1 (q + 1) c1)).ownsRow (XB + 2) 77 3 (.slice A1 (q + 1) c1) (q + 1) (rfC (fs.take (q + 1)))) := Lib.hid ((fx_set18 wB (XB + 1) 3 _).own (by rw [HTK.out]; exact ho1) (fun g h1 h2 => by have h3 : g = XB + 1 := h2; have := (ho1.lt g h1).1; omega))
          have HB7F : Hid (Below (XB + 1) w7 (wB.setCell ⟨XB + 1, 3, none⟩ (.slice A1 (q + 1) c1))) := Lib.hid ((HB7A.out.trans ((kC.mono (Nat.le_of_lt hzA)).trans (hb1.mono (by omega)))).setCell (p := ⟨XB + 1, 3, none⟩) (Nat.le_refl _) _)
          clear y0 y1 y2 n3 kC ho1 hb1 hg1 hat1 kf hNB m3 mf HKNA HOFA HB7A HKNC HKR
          go_wp2_with fail
          go_roundw
          case rel => exact ⟨q + 1, _, by omega, by go_num, HKNF, HOFF, HB7F⟩
          case measure => simp [intOf]; omega
        · obtain rfl : q = ms.length := by omega
          have k0 : decide ((ms.length : Int) < (ms.length : Int)) = false := by simp
          have hfe : fs.take ms.length = fs := by rw [← HFL.out, List.take_length]
          rw [hfe] at HOF
          have hml2 : ms.length = fs.length := HFL.out.symm
          rw [hml2] at HOF
          clear hml2 hfe
          obtain ⟨Af, cf, rfl⟩ := ownk_form HOF.out
          obtain ⟨An, cn, rfl⟩ := ownk_form HON.out
          have HPBx := Lib.hid (HPB.out.below HBx.out HPB.out.lt)
          have HONx := Lib.hid (own_below HON.out HBx.out)
          have n0 : wx.cell? ⟨XB + 1, 0, none⟩ = some (.int .i64 B.kind) := HKN7.out.cell 0
          have n1 : wx.cell? ⟨XB + 1, 1, none⟩ = some (.int .i64 B.stage) := HKN7.out.cell 1
          have n2 : wx.cell? ⟨XB + 1, 2, none⟩ = some (.string (bs B.name)) := HKN7.out.cell 2
          have n3 : wx.cell? ⟨XB + 1, 3, none⟩ = some (.slice Af fs.length cf) := HKN7.out.cell 3
          have p0 : wx.cell? ⟨PB, 0, none⟩ = some (.slice An L.length cn) := HPBx.out.cell 0
          have hPr := HPB.out.lt
          have hxr := HBx.out.size
          have hXE1 : wr.heap.size ≤ XB := by have := HXE.out; omega
          have hXE2 : XB ≤ wr.heap.size := by have := HXE.out; omega
          have hNr : ∀ b, (Value.slice An L.length cn).ownBlock = some b → PB < b ∧ b < wr.heap.size := fun b hb => by have := HON.out.lt b hb; omega
          have HNR := Lib.hid hNr
          have kC := (Below.refl wx.heap.size wx).alloc (Nat.le_refl _) (.cells #[.int .i64 B.kind, .int .i64 B.stage, .string (bs B.name), .slice Af fs.length cf] 80)
          have HPBC := Lib.hid (HPBx.out.below kC HPBx.out.lt)
          have HLL : L.length ≤ i := by have := HLl.out; omega
          clear hNr
          go_upto_region 24 with (at_builtin; refine wpList_appk rfl _ _ _ rfl nodeKl (PB + 1) _ _ _ rfl (HONx.out.alloc _) _ _ _ [.int .i64 B.kind, .int .i64 B.stage, .string (bs B.name), .slice Af fs.length cf] rfl rfl (news_at _ _ rfl _ _) (by simp [Value.oneCell']) (by omega) (by omega) (Below.refl _ _) (by rw [World.size_alloc]; omega) ?_; intro v1 wB ho1 hb1 hg1 hat1; have kf := Fx.of_grown hg1; have hPBB := kf.blk HPBC.out (fun h => by have := (HNR.out _ h).1; omega); have m0 : wB.cell? ⟨PB, 0, none⟩ = some (.slice An L.length cn) := hPBB.cell 0; have mf := hPBB.frozen 0; obtain ⟨A1, c1, rfl⟩ := ownk_form ho1)
          have kx : Fx (fun _ => False) wr wx := Fx.new HBx.out
          have ka : Fx (fun _ => False) wx (wx.alloc (.cells #[.int .i64 B.kind, .int .i64 B.stage, .string (bs B.name), .slice Af fs.length cf] 80)) := Fx.new kC
          have ks := fx_set18 wB PB 0 (.slice A1 (L.length + 1) c1)
          have hXn : ∀ b, b < (wx.alloc (.cells #[.int .i64 B.kind, .int .i64 B.stage, .string (bs B.name), .slice Af fs.length cf] 80)).heap.size → (Value.slice A1 (L.length + 1) c1).ownBlock = some b → (Value.slice An L.length cn).ownBlock = some b := fun b hb h => by
            rcases hat1 with e | e
            · exact e ▸ h
            · rw [e] at h; injection h with h; omega
          have mv : ∀ (v : Value) (n : Nat) (cs : List Value), SlY wx (fun b => b ≤ PB ∨ (Value.slice An L.length cn).ownBlock = some b) v n cs → SlY (wB.setCell ⟨PB, 0, none⟩ (.slice A1 (L.length + 1) c1)) (fun b => b ≤ PB ∨ (Value.slice A1 (L.length + 1) c1).ownBlock = some b) v n cs := fun v n cs h => by
            have q1 := h.fx (X' := fun b => b ≤ PB ∨ (Value.slice An L.length cn).ownBlock = some b) ka (fun b _ h => h.elim False.elim id)
            have q2 := q1.fx (X' := fun b => b ≤ PB ∨ (Value.slice A1 (L.length + 1) c1).ownBlock = some b) kf (fun b hb h => by
              rcases h with h | h | h
              · exact .inr h
              · exact .inl h
              · exact .inr (hXn b hb h))
            exact q2.fx (X' := fun b => b ≤ PB ∨ (Value.slice A1 (L.length + 1) c1).ownBlock = some b) ks (fun b _ h => by
              rcases h with h | h
              · exact .inl (Nat.le_of_eq h)
              · exact h)
          have HFRF : Hid (∀ n ∈ L ++ [(⟨B, .slice Af fs.length cf, fs⟩ : NdM)], SlY (wB.setCell ⟨PB, 0, none⟩ (.slice A1 (L.length + 1) c1)) (fun b => b ≤ PB ∨ (Value.slice A1 (L.length + 1) c1).ownBlock = some b) n.vf n.froms.length (rfC n.froms)) := Lib.hid (fun n hn => by
            rcases List.mem_append.1 hn with h | h
            · exact mv _ _ _ ((HFR.out n h).fx kx (fun b _ h => h.elim False.elim id))
            · rw [List.mem_singleton] at h
              subst h
              exact mv _ _ _ (SlY.own HOF.out (fun b h1 _ h => by
                rcases h with h | h
                · omega
                · have := (HNR.out b h).2; omega)))
          have HPBF : Hid (Blk (wB.setCell ⟨PB, 0, none⟩ (.slice A1 (L.length + 1) c1)) PB 32 #[.slice A1 (L.length + 1) c1, .int .i64 0, .slice none 0 0, .slice none 0 0]) := Lib.hid (hPBB.set_ 0 _)
          have HONF : Hid ((wB.setCell ⟨PB, 0, none⟩ (.slice A1 (L.length + 1) c1)).ownsRow (PB + 1) 80 4 (.slice A1 (L.length + 1) c1) (L ++ [(⟨B, .slice Af fs.length cf, fs⟩ : NdM)]).length (ndC (L ++ [(⟨B, .slice Af fs.length cf, fs⟩ : NdM)]))) := Lib.hid (ks.own (by rw [List.length_append, ndC_snoc]; exact ho1) (fun g h1 h2 => by have h3 : g = PB := h2; have := (ho1.lt g h1).1; omega))
          have HLNF : Hid ((L ++ [(⟨B, .slice Af fs.length cf, fs⟩ : NdM)]).map NdM.nd = nds.take (i + 1)) := Lib.hid (by rw [List.map_append, HLN.out, HND.out]; rfl)
          have HBPF : Hid (Below PB w4 (wB.setCell ⟨PB, 0, none⟩ (.slice A1 (L.length + 1) c1))) := Lib.hid ((HBP.out.trans ((HBx.out.mono (by omega)).trans ((kC.mono (by omega)).trans (hb1.mono (by omega))))).setCell (p := ⟨PB, 0, none⟩) (Nat.le_refl _) _)
          clear n0 n1 n2 n3 p0 kC HPBC kf hPBB m0 mf kx ka ks hXn mv ho1 hb1 hg1 hat1 HPBx HONx HKN7 HOF HB7x HLL
          go_wp2_with fail
          go_roundw
          case rel => exact ⟨i + 1, _, _, by omega, by go_num, HPBF, HONF, HLNF, HFRF, HBPF⟩
          case measure => simp [intOf]; omega
    · obtain rfl : i = l.length := by omega
      have k0 : decide ((l.length : Int) < (l.length : Int)) = false := by simp
      have hLL : L.length = l.length := HLl.out
      have hNL : nds.take l.length = nds := by rw [← hNl, List.take_length]
      rw [hLL] at HON
      rw [hNL] at HLN
      have HLL := Lib.hid hLL
      clear hLL hNL
      obtain ⟨An, cn, rfl⟩ := ownk_form HON.out
      have a2 : wr.cell? ⟨F, 2, none⟩ = some (.slice (some ⟨g0, 0, none⟩) l.length c0) := HK0r.out.cell 2
      have p1 : wr.cell? ⟨PB, 1, none⟩ = some (.int .i64 0) := HPB.out.cell 1
      have pf := HPB.out.frozen 1
      obtain ⟨m, hm⟩ : ∃ m, l.length = m + 1 := ⟨l.length - 1, by omega⟩
      have HM1 := Lib.hid hm
      clear hm
      go_upto_region 26 with fail
      have HPB5 : Hid (Blk (wr.setCell ⟨PB, 1, none⟩ (.int .i64 ((l.length : Int) - 1))) PB 32 #[.slice An l.length cn, .int .i64 ((l.length : Int) - 1), .slice none 0 0, .slice none 0 0]) := Lib.hid (HPB.out.set_ 1 _)
      have fw : Fx (fun b => b = PB) wr (wr.setCell ⟨PB, 1, none⟩ (.int .i64 ((l.length : Int) - 1))) := fx_set18 wr PB 1 _
      obtain ⟨w5, h5⟩ : ∃ y, wr.setCell ⟨PB, 1, none⟩ (.int .i64 ((l.length : Int) - 1)) = y := ⟨_, rfl⟩
      rw [h5] at HPB5 fw ⊢
      have hPr := HPB.out.lt
      have bw : Below PB wr w5 := fw.to_below (Nat.le_of_lt hPr) (fun b h => by have h2 : b = PB := h; omega)
      have HBw : Hid (Below w.heap.size w w5) := Lib.hid (HB5.out.trans (bw.mono HWP.out))
      have HK05 := Lib.hid (HK0r.out.below bw (by have := HFP.out; omega))
      have HK15 := Lib.hid ((HK14.out.below HBP.out (by have := HFP.out; omega)).below bw (by have := HFP.out; omega))
      have HWF : Hid (w.heap.size ≤ F) := Lib.hid (by have := HFE.out; omega)
      clear h5 a2 p1 pf HPB HK14 HK0r HK04
      rcases HTG.out with ⟨hb, htg⟩ | ⟨hb, htg, htl, htn, htr⟩
      case inr =>
        have e1 : (bs tg).toList.isEmpty = false := by rw [bs_list]; exact htg
        have HCN := Lib.hid (fun wx (h : Below w.heap.size w wx) => named_any e (.slice none 0 0) g0 l.length c0 l tg wx (Lib.hid htn) rfl (by omega) (GsA.new HG.out h).1 (Nat.lt_of_lt_of_le HGL.out h.size))
        have HCM := Lib.hid (fun wx => number_not tg (l.length : Int) (by omega) _ (Lib.hid rfl) htr wx)
        subst hb
        clear htg htn htr
        have a0 : w5.cell? ⟨F, 0, none⟩ = some (.int .u8 (e.toNat : Int)) := HK05.out.cell 0
        have a1 : w5.cell? ⟨F, 1, none⟩ = some (.slice none 0 0) := HK05.out.cell 1
        have a2 : w5.cell? ⟨F, 2, none⟩ = some (.slice (some ⟨g0, 0, none⟩) l.length c0) := HK05.out.cell 2
        have HC := Lib.hid (HCN.out w5 HBw.out)
        go_upto_region 28 with (go_at_call 40; refine HC.out.mono ?_; rintro q w6 ⟨rfl, p6⟩; have HPB6 := Lib.hid (HPB5.out.below p6 HPB5.out.lt); have n1 : w6.cell? ⟨PB, 1, none⟩ = some (.int .i64 ((l.length : Int) - 1)) := HPB6.out.cell 1; have f1 := HPB6.out.frozen 1)
        have HPB7 : Hid (Blk (w6.setCell ⟨PB, 1, none⟩ (.int .i64 (-1))) PB 32 #[.slice An l.length cn, .int .i64 (-1), .slice none 0 0, .slice none 0 0]) := Lib.hid (HPB6.out.set_ 1 _)
        have fq : Fx (fun b => b = PB) w6 (w6.setCell ⟨PB, 1, none⟩ (.int .i64 (-1))) := fx_set18 w6 PB 1 _
        obtain ⟨w7, h7⟩ : ∃ y, w6.setCell ⟨PB, 1, none⟩ (.int .i64 (-1)) = y := ⟨_, rfl⟩
        rw [h7] at HPB7 fq ⊢
        have bq : Below PB w5 w7 := (p6.mono (Nat.le_of_lt HPB5.out.lt)).trans (fq.to_below (Nat.le_of_lt HPB6.out.lt) (fun b h => by have h2 : b = PB := h; omega))
        have HBq : Hid (Below w.heap.size w w7) := Lib.hid (HBw.out.trans (bq.mono HWP.out))
        have HK07 := Lib.hid (HK05.out.below bq (by have := HFP.out; omega))
        have HK17 := Lib.hid (HK15.out.below bq (by have := HFP.out; omega))
        clear HC a0 a1 a2 p6 n1 f1 fq h7 bq HPB6
        have a2 : w7.cell? ⟨F, 2, none⟩ = some (.slice (some ⟨g0, 0, none⟩) l.length c0) := HK07.out.cell 2
        have n1 : w7.cell? ⟨PB, 1, none⟩ = some (.int .i64 (-1)) := HPB7.out.cell 1
        have HC := Lib.hid (HCM.out w7)
        go_upto_region 30 with (go_at_call 41; refine HC.out.mono ?_; rintro q w8 ⟨rfl, p8⟩; have HPB8 := Lib.hid (HPB7.out.below p8 HPB7.out.lt); have m1 : w8.cell? ⟨PB, 1, none⟩ = some (.int .i64 (-1)) := HPB8.out.cell 1; have f1 := HPB8.out.frozen 1)
        have HPB9 : Hid (Blk (w8.setCell ⟨PB, 1, none⟩ (.int .i64 (-1))) PB 32 #[.slice An l.length cn, .int .i64 (-1), .slice none 0 0, .slice none 0 0]) := Lib.hid (HPB8.out.set_ 1 _)
        have fq : Fx (fun b => b = PB) w8 (w8.setCell ⟨PB, 1, none⟩ (.int .i64 (-1))) := fx_set18 w8 PB 1 _
        obtain ⟨w9, h9⟩ : ∃ y, w8.setCell ⟨PB, 1, none⟩ (.int .i64 (-1)) = y := ⟨_, rfl⟩
        rw [h9] at HPB9 fq ⊢
        have bq : Below PB w7 w9 := (p8.mono (Nat.le_of_lt HPB7.out.lt)).trans (fq.to_below (Nat.le_of_lt HPB8.out.lt) (fun b h => by have h2 : b = PB := h; omega))
        have HB9 : Hid (Below w.heap.size w w9) := Lib.hid (HBq.out.trans (bq.mono HWP.out))
        have HK19 := Lib.hid (HK17.out.below bq (by have := HFP.out; omega))
        clear HC a2 n1 p8 m1 f1 fq h9 bq HPB8
        have n1 : w9.cell? ⟨PB, 1, none⟩ = some (.int .i64 (-1)) := HPB9.out.cell 1
        go_wp2_with (refine wpList_store_st rfl _ _ _ rfl planTg (F + 1) #[.slice none 0 0, .int .i64 0, .slice none 0 0, .slice none 0 0] _ rfl rfl HK19.out rfl rfl rfl ?_; intro wA hKA hGA _)
        have kf := (Fx.of_grown hGA).mono (S' := fun b => b = F + 1) (fun b _ h => by injection h with h; exact h.symm)
        refine bodyPost_ret (results_c1 rfl planTg rfl rfl hKA rfl) rfl (mkAns_err rfl ?_)
        exact HB9.out.trans (kf.to_below HB9.out.size (fun b h => by have h2 : b = F + 1 := h; have := HWF.out; omega))
      case inl =>
        have e1 : (bs tg).toList.isEmpty = true := by rw [bs_list, htg]; rfl
        subst hb
        clear htg
        have hI : (l.length : Int) - 1 = (m : Int) := by have := HM1.out; omega
        rw [hI] at HPB5
        have n0 : w5.cell? ⟨PB, 0, none⟩ = some (.slice An l.length cn) := HPB5.out.cell 0
        have hmk := make_bf l.length (by omega)
        have HLM : Hid (∀ n ∈ L, ∃ (j : Nat) (h : j < nds.length), nds[j] = n.nd) := Lib.hid fun n hn => by
          have h2 : n.nd ∈ nds := by rw [← HLN.out]; exact List.mem_map_of_mem hn
          obtain ⟨j, hj, h3⟩ := List.getElem_of_mem h2
          exact ⟨j, hj, h3⟩
        have HFL4 : Hid (∀ n ∈ nds, n.froms.length ≤ 100) := Lib.hid fun n hn => by
          obtain ⟨j, hj, rfl⟩ := List.getElem_of_mem hn
          rw [HMO.out.fl j (by rw [← hNl]; exact hj) hj]
          exact (HMS.out _ (List.getElem_mem _)).1
        have HLO : Hid (∀ n ∈ L, n.froms.length ≤ 100 ∧ (∀ r ∈ n.base :: n.froms, r.kind = 1 → 0 ≤ r.stage ∧ r.stage < (l.length : Int)) ∧ ∀ r ∈ n.base :: n.froms, r.kind = 2 → keyOf Tryz.prog 77 (rfV r) = some (.string (key r))) := Lib.hid fun n hn => by
          obtain ⟨j, hj, h3⟩ := HLM.out n hn
          have e1 : n.base :: n.froms = nds[j].base :: nds[j].froms := by rw [h3]; rfl
          have e2 : n.froms = nds[j].froms := by rw [h3]; rfl
          refine ⟨?_, ?_, ?_⟩
          · rw [e2]; exact HFL4.out _ (List.getElem_mem hj)
          · rw [e1, ← hNl]; exact fun r hr hk => HMO.out.low j hj r hr hk
          · rw [e1]; exact fun r hr hk => HMO.out.hkey _ (List.getElem_mem hj) r hr hk
        have HNDJ : Hid (∀ j (h : j < L.length), nds[j]? = some (L[j].nd)) := Lib.hid fun j h => by rw [← HLN.out, List.getElem?_map, List.getElem?_eq_getElem h]; rfl
        go_upto_region 33 with fail
        have HG := Lib.hid ((BF.new w5 l.length).below ((Below.refl _ _).alloc (Nat.le_refl _) (.cells #[.slice (some ⟨w5.heap.size, 0, none⟩) l.length l.length] 115)) (BF.new w5 l.length).lt)
        have HDV := Lib.hid (Blk.new (w5.alloc (.cells (madeCells #[.bool false] l.length) 4)) 115 #[.slice (some ⟨w5.heap.size, 0, none⟩) l.length l.length])
        have bn := ((Below.refl w5.heap.size w5).alloc (Nat.le_refl _) (.cells (madeCells #[.bool false] l.length) 4)).alloc (by rw [World.size_alloc]; omega) (.cells #[.slice (some ⟨w5.heap.size, 0, none⟩) l.length l.length] 115)
        have hz6 : (w5.alloc (.cells (madeCells #[.bool false] l.length) 4)).heap.size = w5.heap.size + 1 := World.size_alloc _ _
        rw [hz6] at HDV
        have HPB6 := Lib.hid (HPB5.out.below bn HPB5.out.lt)
        have HPG : Hid (PB < w5.heap.size) := Lib.hid HPB5.out.lt
        have hsz := fw.size
        obtain ⟨G, hG⟩ : ∃ G, w5.heap.size = G := ⟨_, rfl⟩
        obtain ⟨w6, hw6⟩ : ∃ y, (w5.alloc (.cells (madeCells #[.bool false] l.length) 4)).alloc (.cells #[.slice (some ⟨w5.heap.size, 0, none⟩) l.length l.length] 115) = y := ⟨_, rfl⟩
        rw [hw6] at HG HDV HPB6 bn ⊢
        have HBN := Lib.hid bn
        rw [hG] at HG HDV HPG hsz ⊢
        have HGE := Lib.hid hG
        have HSZ := Lib.hid hsz
        have hml : m < l.length := by have := HM1.out; omega
        have d0 : w6.cell? ⟨G + 1, 0, none⟩ = some (.slice (some ⟨G, 0, none⟩) l.length l.length) := HDV.out.cell 0
        have n1 : w6.cell? ⟨PB, 1, none⟩ = some (.int .i64 (m : Int)) := HPB6.out.cell 1
        have hcl : w6.cell? ⟨G, m, none⟩ = some (.bool false) := HG.out.cell hml
        have hfz := HG.out.frozen m
        have m0 : (0 : Int) ≤ (m : Int) := by omega
        have m1 : (m : Int) < (l.length : Int) := by omega
        clear n0 hmk hz6 hw6 hG hI bn hsz
        go_upto_region 34 with fail
        have fg : Fx (fun b => b = G) w6 (w6.setCell ⟨G, m, none⟩ (.bool true)) := fx_set18 w6 G m _
        have hG7 := HG.out.set_ m true
        obtain ⟨w7, hw7⟩ : ∃ y, w6.setCell ⟨G, m, none⟩ (.bool true) = y := ⟨_, rfl⟩
        rw [hw7] at fg hG7 ⊢
        have HG7 : Hid (BF w7 G l.length (ndN nds 0)) := Lib.hid (hG7.congr (fun j _ => by
          have h2 := HM1.out
          rw [ndN, hNl]
          by_cases hj : j = m
          · rw [if_pos hj]; simp; omega
          · rw [if_neg hj]; simp; omega))
        have HD7 := Lib.hid (fg.blk HDV.out (by show ¬ G + 1 = G; omega))
        have HPB7 := Lib.hid (fg.blk HPB6.out (by have := HPG.out; show ¬ PB = G; omega))
        have f7 : Fx (fun b => b = PB) wr w7 := (fw.trans (Fx.new HBN.out)).then fg (fun b hb h => by have h2 : b = G := h; have := HSZ.out; omega)
        have HFR7 : Hid (∀ n ∈ L, SlY w7 (fun b => b ≤ PB ∨ G ≤ b) n.vf n.froms.length (rfC n.froms)) := Lib.hid fun n hn => (HFR.out n hn).fx (X' := fun b => b ≤ PB ∨ G ≤ b) f7 (fun b hb h => by
          rcases h with h | h | h
          · exact .inl (Nat.le_of_eq h)
          · exact .inl h
          · have := HSZ.out; omega)
        have HON7 := Lib.hid (f7.own HON.out (fun g h1 h2 => by have h3 : g = PB := h2; have := (HON.out.lt g h1).1; omega))
        have HK17 := Lib.hid (fg.blk (HK15.out.below HBN.out HK15.out.lt) (by have := HFP.out; have := HPG.out; show ¬ F + 1 = G; omega))
        have HB7 : Hid (Below w.heap.size w w7) := Lib.hid ((below_of_below HBw.out HBN.out HBw.out.size).trans (fg.to_below (by have h1 := HBw.out.size; have h2 := HBN.out.size; omega) (fun b h => by have h2 : b = G := h; have := HGE.out; have := HBw.out.size; omega)))
        clear d0 n1 hcl hfz fg hG7 hw7 f7 fw HG HDV HPB6 HPB5 HON HFR HK15 HBw HBN HK05
        have n1 : w7.cell? ⟨PB, 1, none⟩ = some (.int .i64 (m : Int)) := HPB7.out.cell 1
        go_wp2_with fail
        go_loopw [20] (fun t20 wx => ∃ t : Nat, t ≤ l.length ∧ t20 = .int .i64 ((m : Int) - (t : Int)) ∧ Hid (BF wx G l.length (ndN nds t)) ∧ Hid (Fx (fun b => b = G) w7 wx)) (fun t20 _ => (intOf t20 + 1).toNat)
        case atStart => exact ⟨0, by omega, by simp, HG7, Lib.hid Fx.refl⟩
        case round =>
          rename World => wx
          have HG0 := HG7
          clear HG7 n1
          obtain ⟨t, ht, rfl, HGx, HFX⟩ := hrel
          have HDx := Lib.hid (HFX.out.blk HD7.out (by show ¬ G + 1 = G; omega))
          have HPBx := Lib.hid (HFX.out.blk HPB7.out (by have := HPG.out; show ¬ PB = G; omega))
          have HONx := Lib.hid (HFX.out.own HON7.out (fun g h1 h2 => by have h3 : g = G := h2; subst h3; exact Ak.blk_ne HON7.out HG0.out (by decide) h1.symm))
          rcases Nat.lt_or_ge t l.length with htn | htn
          · obtain ⟨j, hj⟩ : ∃ j, j + t = m := ⟨m - t, by have := HM1.out; omega⟩
            have hjI : (m : Int) - (t : Int) = (j : Int) := by omega
            rw [hjI]
            have hjn : j < l.length := by have := HM1.out; omega
            have j0 : (0 : Int) ≤ (j : Int) := by omega
            have jd : decide ((0 : Int) ≤ (j : Int)) = true := by rw [decide_eq_true_eq]; omega
            have jd2 : decide ((j : Int) ≥ 0) = true := by rw [decide_eq_true_eq]; omega
            have j1 : (j : Int) < (l.length : Int) := by omega
            have hcl := HGx.out.cell hjn
            have d0 : wx.cell? ⟨G + 1, 0, none⟩ = some (.slice (some ⟨G, 0, none⟩) l.length l.length) := HDx.out.cell 0
            have HNT : Hid (∀ q, ndN nds (t + 1) q = (ndN nds t q || (ndN nds t j && refsAny nds j q))) := Lib.hid fun q => by
              have h2 := HM1.out
              rw [ndN, hNl, show l.length - 1 - t = j by omega]
            have HRL : Hid (Value.int .i64 ((j : Int) - 1) = .int .i64 ((m : Int) - ((t + 1 : Nat) : Int))) := Lib.hid (congrArg (Value.int .i64) (by omega))
            obtain ⟨q, hq⟩ : ∃ q, ndN nds t j = q := ⟨_, rfl⟩
            rw [hq] at hcl
            have HQ := Lib.hid hq
            have HJT := Lib.hid hj
            clear hjI hq hj
            cases q with
            | false =>
              have HGn : Hid (BF wx G l.length (ndN nds (t + 1))) := Lib.hid (HGx.out.congr fun q _ => by rw [HNT.out, HQ.out, Bool.false_and, Bool.or_false])
              go_wp2_with fail
              go_roundw
              case rel => exact ⟨t + 1, by omega, HRL.out, HGn, HFX⟩
              case measure => simp [intOf]
            | true =>
              have hjL : j < L.length := by have := HLL.out; omega
              have HNA : Hid (NdsA wx (.slice An l.length cn) L) := Lib.hid ⟨by rw [HLL.out]; exact SlA.own HONx.out, fun n hn => ((HFR7.out n hn).fx (X' := fun b => b ≤ PB ∨ G ≤ b) HFX.out (fun b hb h => h.elim (fun h => .inr (by have h2 : b = G := h; omega)) id)).sl⟩
              have hX : NdX wx G L[j] := (HFR7.out _ (List.getElem_mem hjL)).fx (X' := fun b => b = G) HFX.out (fun b hb h => h.elim (fun h => .inr (by have h2 : b = G := h; omega)) (fun h => .inr (by omega)))
              obtain ⟨hl1, hl2, hl3⟩ := HLO.out _ (List.getElem_mem hjL)
              have HCA := mark_any L[j] l.length (ndN nds t) (G + 1) G wx hX (by omega) hl2 HDx.out (by omega) HGx.out
              have hGc : ∀ q, (ndN nds t q || (L[j].base :: L[j].froms).any (hit q)) = ndN nds (t + 1) q := fun q => by
                rw [HNT.out, HQ.out, Bool.true_and]
                unfold refsAny
                rw [HNDJ.out j hjL]
                rfl
              obtain ⟨g2, o2, cc2, N, A, kk, hv2, hNn, hNv, hNs, n0, n1, n2, n3⟩ := nd_full HNA.out hjL
              injection hv2 with hA2 hl4 hcc2
              subst hA2 hcc2
              rw [hNn] at HCA hGc
              rw [hNv] at HCA
              have HC := Lib.hid HCA
              have HGC := Lib.hid hGc
              have p0 : wx.cell? ⟨PB, 0, none⟩ = some (.slice (some ⟨g2, o2, none⟩) l.length cn) := HPBx.out.cell 0
              clear HCA hGc hNn hNv hNs hX hl1 hl2 hl3 hl4 hjL
              go_wp2_with (go_at_call 42; refine HC.out.mono ?_; rintro ee w8 ⟨rfl, hbf, hfx⟩; have HG8 := Lib.hid (hbf.congr (fun q _ => HGC.out q)); have HF8 := Lib.hid (HFX.out.trans hfx); clear hbf hfx)
              go_roundw
              case rel => exact ⟨t + 1, by omega, HRL.out, HG8, HF8⟩
              case measure => simp [intOf]
          · obtain rfl : t = l.length := by omega
            have hjI : (m : Int) - (l.length : Int) = -1 := by have := HM1.out; omega
            rw [hjI]
            clear hjI
            go_upto_region 39 with fail
            have hmm := @run_makeMap Tryz.prog
            have HK1x := Lib.hid (HFX.out.blk HK17.out (by have := HFP.out; have := HPG.out; show ¬ F + 1 = G; omega))
            have HBx : Hid (Below w.heap.size w wx) := Lib.hid (HB7.out.trans (HFX.out.to_below HB7.out.size (fun b h => by have h2 : b = G := h; have := HWP.out; have := HPG.out; omega)))
            have hGl := HGx.out.lt
            have hDl := HDx.out.lt
            have HFRx : Hid (∀ n ∈ L, SlY wx (fun b => b ≤ PB ∨ wx.heap.size ≤ b) n.vf n.froms.length (rfC n.froms)) := Lib.hid fun n hn => (HFR7.out n hn).fx (X' := fun b => b ≤ PB ∨ wx.heap.size ≤ b) HFX.out (fun b hb h => by
              rcases h with h | h | h
              · have h2 : b = G := h
                exact .inr (by omega)
              · exact .inl h
              · exact .inr (by omega))
            have HHK : Hid (keyOf Tryz.prog 77 (rfV ⟨0, 0, []⟩) = some (.string (key ⟨0, 0, []⟩))) := Lib.hid HMO.out.hkey0
            clear hGl hDl HFR7 HFX HK17 HB7 HON7 HD7 HPB7
            go_upto_region 40 with (refine wpList_rm rfl _ _ _ (.inr rfl) wx.heap.size 0 [] rfl (RM.new wx) (by omega) ⟨0, 0, []⟩ (key ⟨0, 0, []⟩) HHK.out rfl rfl ?_; intro w8 hr8 hg8)
            have f8 : Fx (fun b => b = wx.heap.size) wx w8 := (Fx.refl.alloc (.map #[] 0)).trans ((Fx.of_grown hg8).mono (fun b _ h => (Option.some.inj h).symm))
            have b8 : Below wx.heap.size wx w8 := f8.to_below (Nat.le_refl _) (fun b h => by have h2 : b = wx.heap.size := h; omega)
            have kS := Blk.new w8 118 #[.map (some wx.heap.size)]
            have b9 : Below wx.heap.size wx (w8.alloc (.cells #[.map (some wx.heap.size)] 118)) := b8.alloc b8.size _
            have r9 := hr8.fx (S := fun _ => False) (Fx.refl.alloc (.cells #[.map (some wx.heap.size)] 118)) (fun h => h)
            obtain ⟨w9, h9⟩ : ∃ y, w8.alloc (.cells #[.map (some wx.heap.size)] 118) = y := ⟨_, rfl⟩
            rw [h9] at kS b9 r9 ⊢
            have HHM : Hid (∀ M', wx.heap.size = M' → PB < M' ∧ G < M' ∧ G + 1 < M' ∧ F + 1 < M') := Lib.hid (by
              rintro M' rfl
              exact ⟨HPBx.out.lt, HGx.out.lt, HDx.out.lt, HK1x.out.lt⟩)
            have HHN : Hid (∀ M', wx.heap.size = M' → ∀ g, (Value.slice An l.length cn).ownBlock = some g → PB < g ∧ g < M') := Lib.hid (by
              rintro M' rfl g hg
              have := HONx.out.lt g hg
              omega)
            have HI9 : Hid (Im w9 wx.heap.size PB w8.heap.size wx.heap.size (.slice An l.length cn) (m : Int) (.slice none 0 0) (seenL key nds []) (.slice none 0 0)) := Lib.hid ⟨kS, r9, HPBx.out.below b9 HPBx.out.lt, World.ownsRow_nil _ _ _ _⟩
            have HG9 := Lib.hid (HGx.out.below b9 HGx.out.lt)
            have HD9 := Lib.hid (HDx.out.below b9 HDx.out.lt)
            have HK19 := Lib.hid (HK1x.out.below b9 HK1x.out.lt)
            have HON9 := Lib.hid (own_below HONx.out b9)
            have HB9 := Lib.hid (below_of_below HBx.out b9 HBx.out.size)
            have HWX : Hid (w.heap.size ≤ wx.heap.size) := Lib.hid HBx.out.size
            have HW9 : Hid (wx.heap.size ≤ w9.heap.size) := Lib.hid b9.size
            have HFR9 : Hid (∀ n ∈ L, SlY w9 (fun b => b ≤ PB ∨ wx.heap.size ≤ b) n.vf n.froms.length (rfC n.froms)) := Lib.hid fun n hn => (HFRx.out n hn).fx (S := fun _ => False) (Fx.new b9) (fun b hb h => h.elim False.elim id)
            obtain ⟨M, hM⟩ : ∃ M, wx.heap.size = M := ⟨_, rfl⟩
            obtain ⟨SV, hSV⟩ : ∃ SV, w8.heap.size = SV := ⟨_, rfl⟩
            have HML := Lib.hid (HHM.out M hM)
            have HNM := Lib.hid (HHN.out M hM)
            rw [hM] at HI9 HFR9 HWX HW9 ⊢
            rw [hSV] at HI9 ⊢
            clear f8 b8 kS b9 r9 hr8 hg8 h9 HHM HHN hM hSV hmm HHK HFRx HBx HK1x HONx HPBx HDx HGx
            have d0 : w9.cell? ⟨G + 1, 0, none⟩ = some (.slice (some ⟨G, 0, none⟩) l.length l.length) := HD9.out.cell 0
            go_wp2_with fail
            go_loopw [147] (fun t147 wy => ∃ (q : Nat) (vd vi : Value), q ≤ l.length ∧ t147 = .int .i64 (q : Int) ∧ Hid (Im wy M PB SV M (.slice An l.length cn) (m : Int) vd (seenL key nds ((List.range q).filter (ndN nds l.length))) vi) ∧ Hid (wy.ownsRow M 3 1 vd (toI ((List.range q).filter (ndN nds l.length))).length (icC (toI ((List.range q).filter (ndN nds l.length))))) ∧ Hid (Fx (fun b => b = PB ∨ M ≤ b) w9 wy)) (fun t147 _ => l.length - (intOf t147).toNat)
            case atStart => exact ⟨0, _, _, by omega, rfl, HI9, Lib.hid (World.ownsRow_nil _ _ _ _), Lib.hid Fx.refl⟩
            case round =>
              rename World => wy
              clear HI9 d0
              obtain ⟨q, vd, vi, hq, rfl, HI, HVD, HFY⟩ := hrel
              have q0 : (0 : Int) ≤ (q : Int) := by omega
              have HONy := Lib.hid (HFY.out.own HON9.out (fun g h1 h2 => by
                have h3 := HNM.out g h1
                rcases h2 with h2 | h2
                · have h5 : g = PB := h2; omega
                · omega))
              obtain ⟨sl, hsl⟩ : ∃ sl, (List.range q).filter (ndN nds l.length) = sl := ⟨_, rfl⟩
              have hsn : sl.length ≤ q := by rw [← hsl]; exact Nat.le_trans (List.length_filter_le _ _) (by simp)
              have HSL := Lib.hid hsl
              rw [hsl] at HI HVD
              have HTL := Lib.hid (toI_len sl)
              have hBM : M ≤ wy.heap.size := by have := HW9.out; have := HFY.out.size; omega
              obtain ⟨Av, cv, rfl⟩ := ownk_form HVD.out
              clear hsl
              rcases Nat.lt_or_ge q l.length with hqn | hqn
              · have k0 : decide ((q : Int) < (l.length : Int)) = true := by rw [decide_eq_true_eq]; omega
                have k1 : (q : Int) < (l.length : Int) := by omega
                have HGy := Lib.hid (HFY.out.blk HG9.out (by have := HML.out; show ¬ (G = PB ∨ M ≤ G); have := HPG.out; omega))
                have hcl : wy.cell? ⟨G, q, none⟩ = some (.bool (ndN nds l.length q)) := BF.cell HGy.out hqn
                obtain ⟨b2, hb2⟩ : ∃ b, ndN nds l.length q = b := ⟨_, rfl⟩
                rw [hb2] at hcl
                have HT : Hid ((List.range (q + 1)).filter (ndN nds l.length) = sl ++ (if b2 then [q] else [])) := Lib.hid (by rw [List.range_succ, List.filter_append, HSL.out, List.filter_cons, List.filter_nil, hb2])
                clear hb2
                cases b2 with
                | false =>
                  have HT2 := HT.out
                  rw [if_neg (by simp), List.append_nil] at HT2
                  have HTT := Lib.hid HT2
                  clear HT2 HT
                  go_wp2_with fail
                  go_roundw
                  case rel => exact ⟨q + 1, _, _, by omega, by go_num, by rw [HTT.out]; exact HI, by rw [HTT.out]; exact HVD, HFY⟩
                  case measure => simp [intOf]; omega
                | true =>
                  have HT2 := HT.out
                  rw [if_pos rfl] at HT2
                  have HTT := Lib.hid HT2
                  clear HT2 HT
                  have p2 : wy.cell? ⟨PB, 2, none⟩ = some (.slice Av (toI sl).length cv) := HI.out.p.cell 2
                  have kC := (Below.refl wy.heap.size wy).alloc (Nat.le_refl _) (.cells #[.int .i64 (q : Int)] 3)
                  have HIA := Lib.hid (HI.out.new kC)
                  have hVl : (toI sl).length ≤ 100 := by have := HTL.out; omega
                  go_upto_region 45 with (at_builtin; refine wpList_appk rfl _ _ _ rfl intK M _ _ _ rfl (HVD.out.alloc _) _ _ _ [.int .i64 (q : Int)] rfl rfl (news_at _ _ rfl _ _) (by simp [Value.oneCell']) (by omega) (by omega) (Below.refl _ _) (by rw [World.size_alloc]; omega) ?_; intro v1 wB ho1 hb1 hg1 hat1; have kf := Fx.of_grown hg1; have hPBB := kf.blk HIA.out.p (fun h => Ak.blk_ne (HVD.out.alloc _) HIA.out.p (by decide) h.symm); have m2 : wB.cell? ⟨PB, 2, none⟩ = some (.slice Av (toI sl).length cv) := hPBB.cell 2; have mf := hPBB.frozen 2; obtain ⟨A1, c1, rfl⟩ := ownk_form ho1)
                  have fs := fx_set18 wB PB 2 (.slice A1 ((toI sl).length + 1) c1)
                  have hsub := HIA.out.sub
                  have hsv := kf.blk HIA.out.sv (fun h => Ak.blk_ne (HVD.out.alloc _) HIA.out.sv (by decide) h.symm)
                  have hrm := HIA.out.rm.fx kf (fun h => HIA.out.rm.own (HVD.out.alloc _) h)
                  have hio := kf.own HIA.out.o (fun g h1 h2 => by rcases Ak.own_ne HIA.out.o (HVD.out.alloc (.cells #[.int .i64 (q : Int)] 3)) (by decide) with e | e; rw [h1] at e; cases e; exact e (h1.trans h2.symm))
                  have HIC : Hid (Im (wB.setCell ⟨PB, 2, none⟩ (.slice A1 ((toI sl).length + 1) c1)) M PB SV M (.slice An l.length cn) (m : Int) (.slice A1 ((toI sl).length + 1) c1) (seenL key nds sl) vi) := Lib.hid ⟨fs.blk hsv hsub.1, hrm.fx fs (fun h => hsub.2.2 h.symm), hPBB.set_ 2 _, fs.own hio (fun g h1 h2 => Ak.blk_ne hio hPBB (by decide) (by rw [h1, h2]))⟩
                  have HVC : Hid ((wB.setCell ⟨PB, 2, none⟩ (.slice A1 ((toI sl).length + 1) c1)).ownsRow M 3 1 (.slice A1 ((toI sl).length + 1) c1) (toI (sl ++ [q])).length (icC (toI (sl ++ [q])))) := Lib.hid (fs.own (by rw [toI_app, icC_app, List.length_append]; exact ho1) (fun g h1 h2 => Ak.blk_ne ho1 hPBB (by decide) (by rw [h1, h2])))
                  have HFC : Hid (Fx (fun b => b = PB ∨ M ≤ b) w9 (wB.setCell ⟨PB, 2, none⟩ (.slice A1 ((toI sl).length + 1) c1))) := Lib.hid (((HFY.out.trans (Fx.new kC)).trans (kf.mono (fun b _ h => .inr (HVD.out.lt b h).1))).trans (fs.mono (fun b _ h => .inl h)))
                  obtain ⟨wC, hwC⟩ : ∃ y, wB.setCell ⟨PB, 2, none⟩ (.slice A1 ((toI sl).length + 1) c1) = y := ⟨_, rfl⟩
                  rw [hwC] at HIC HVC HFC ⊢
                  have HVL := Lib.hid hVl
                  clear p2 kC ho1 hb1 hg1 hat1 kf hPBB m2 mf fs hsub hsv hrm hio hwC hVl HONy HGy hcl HI HVD HIA
                  have hjL : q < L.length := by have := HLL.out; omega
                  have HONc := Lib.hid (HFC.out.own HON9.out (fun g h1 h2 => by
                    have h3 := HNM.out g h1
                    rcases h2 with h2 | h2
                    · have h5 : g = PB := h2; omega
                    · omega))
                  have hFRC : ∀ n ∈ L, SlY wC (fun b => b = PB ∨ M ≤ b) n.vf n.froms.length (rfC n.froms) := fun n hn => (HFR9.out n hn).fx (X' := fun b => b = PB ∨ M ≤ b) HFC.out (fun b hb h => (or_self_iff.1 h).imp Nat.le_of_eq id)
                  have HNA : Hid (NdsA wC (.slice An l.length cn) L) := Lib.hid ⟨by rw [HLL.out]; exact SlA.own HONc.out, fun n hn => (hFRC n hn).sl⟩
                  have hX := hFRC _ (List.getElem_mem hjL)
                  obtain ⟨hl1, hl2, hl3⟩ := HLO.out _ (List.getElem_mem hjL)
                  have hsz := seen_len key nds HFL4.out sl ([key ⟨0, 0, []⟩], [])
                  have hsz2 : (seenL key nds sl).1.length ≤ 1 + 101 * sl.length ∧ (seenL key nds sl).2.length ≤ 0 + 101 * sl.length := hsz
                  have hBC : M ≤ wC.heap.size := by have := HW9.out; have := HFC.out.size; omega
                  have HCA := collect_any key L[q] M PB SV M (.slice An l.length cn) (m : Int) _ (seenL key nds sl) vi wC hl3 hX (by omega) HIC.out hBC (Nat.le_refl _) (by omega) (by omega)
                  have hGc : (L[q].base :: L[q].froms).foldl (seeR key) (seenL key nds sl) = seenL key nds (sl ++ [q]) := by
                    have h1 : refsFold key nds (seenL key nds sl) q = (L[q].base :: L[q].froms).foldl (seeR key) (seenL key nds sl) := by
                      unfold refsFold
                      rw [HNDJ.out q hjL]
                      rfl
                    rw [← h1]
                    unfold seenL
                    rw [List.foldl_append]
                    rfl
                  rw [hGc] at HCA
                  obtain ⟨g2, o2, cc2, N, A, kk, hv2, hNn, hNv, hNs, n0, n1, n2, n3⟩ := nd_full HNA.out hjL
                  injection hv2 with hA2 hl4 hcc2
                  subst hA2 hcc2
                  rw [hNn, hNv] at HCA
                  have HC := Lib.hid HCA
                  have p0 : wC.cell? ⟨PB, 0, none⟩ = some (.slice (some ⟨g2, o2, none⟩) l.length cn) := HIC.out.p.cell 0
                  clear HCA hGc hNn hNv hNs hX hl1 hl2 hl3 hl4 hjL hFRC hsz hsz2 hBC
                  go_wp2_with (go_at_call 42; refine HC.out.mono ?_; rintro ee wD ⟨rfl, hIm, hfx, hkp⟩; have HID := Lib.hid hIm; have HVDD := Lib.hid (own_keep HVC.out (fun g cs hg => hkp g _ cs (by decide) (by decide) hg)); have HFD := Lib.hid (HFC.out.trans hfx); clear hIm hfx hkp)
                  obtain ⟨vi2, hvi2⟩ := HID.out
                  have HIE := Lib.hid hvi2
                  clear hvi2 HID
                  go_roundw
                  case rel => exact ⟨q + 1, _, vi2, by omega, by go_num, by rw [HTT.out]; exact HIE, by rw [HTT.out]; exact HVDD, HFD⟩
                  case measure => simp [intOf]; omega
              · obtain rfl : q = l.length := by omega
                have k0 : decide ((l.length : Int) < (l.length : Int)) = false := by simp
                obtain ⟨Ai, ci, rfl⟩ := ownk_form HI.out.o
                have p0 : wy.cell? ⟨PB, 0, none⟩ = some (.slice An l.length cn) := HI.out.p.cell 0
                have p1 : wy.cell? ⟨PB, 1, none⟩ = some (.int .i64 (m : Int)) := HI.out.p.cell 1
                have p2 : wy.cell? ⟨PB, 2, none⟩ = some (.slice Av (toI sl).length cv) := HI.out.p.cell 2
                have p3 : wy.cell? ⟨PB, 3, none⟩ = some (.slice Ai (seenL key nds sl).2.length ci) := HI.out.p.cell 3
                have HK1y := Lib.hid (HFY.out.blk HK19.out (by have := HML.out; have := HFP.out; show ¬ (F + 1 = PB ∨ M ≤ F + 1); omega))
                have HFRy : Hid (∀ n ∈ L, SlY wy (fun b => b ≤ PB) n.vf n.froms.length (rfC n.froms)) := Lib.hid fun n hn => (HFR9.out n hn).fx (X' := fun b => b ≤ PB) HFY.out (fun b hb h => h.elim (fun h => h.imp Nat.le_of_eq id) .inl)
                have HBy : Hid (Below w.heap.size w wy) := Lib.hid (HB9.out.trans (HFY.out.to_below HB9.out.size (fun b h => by
                  rcases h with h | h
                  · have h2 : b = PB := h; have := HWP.out; omega
                  · have := HWX.out; omega)))
                go_wp2_with (refine wpList_store_st rfl _ _ _ rfl planTg (F + 1) #[.slice An l.length cn, .int .i64 (m : Int), .slice Av (toI sl).length cv, .slice Ai (seenL key nds sl).2.length ci] _ rfl rfl HK1y.out rfl rfl rfl ?_; intro wA hKA hGA _)
                have kf := (Fx.of_grown hGA).mono (S' := fun b => b = F + 1) (fun b _ h => by injection h with h; exact h.symm)
                refine bodyPost_ret (results_c1 rfl planTg rfl rfl hKA rfl) rfl (mkAns_ok ⟨.slice An l.length cn, L, (m : Int), .slice Av (toI sl).length cv, toI sl, .slice Ai (seenL key nds sl).2.length ci, (seenL key nds sl).2⟩ rfl ?_ HLN.out ?_ ?_ ?_ ?_)
                · have hF := HFP.out
                  have hmf := HML.out
                  exact ⟨⟨by show SlA wA _ L.length _; rw [HLL.out]; exact SlA.own (kf.own HONy.out (fun g h1 h2 => by have h3 := HNM.out g h1; have h4 : g = F + 1 := h2; omega)), fun n hn => ((HFRy.out n hn).fx (X' := fun _ => False) kf (fun b hb h => h.elim (fun h => by have h2 : b = F + 1 := h; show b ≤ PB; omega) False.elim)).sl⟩, SlA.own (kf.own HVD.out (fun g h1 h2 => by have h3 := HVD.out.lt g h1; have h4 : g = F + 1 := h2; omega)), SlA.own (kf.own HI.out.o (fun g h1 h2 => by have h3 := HI.out.o.lt g h1; have h4 : g = F + 1 := h2; omega))⟩
                · have := HM1.out
                  show (m : Int) = (nds.length : Int) - 1
                  omega
                · show toI sl = toI (needL nds)
                  rw [needL, hNl, HSL.out]
                · show (seenL key nds sl).2 = (seenL key nds (needL nds)).2
                  rw [needL, hNl, HSL.out]
                · exact HBy.out.trans (kf.to_below HBy.out.size (fun b h => by have h2 : b = F + 1 := h; have := HWF.out; omega))
end Go.Proofs.YtnlkmljdcmfogaaGreatDoor
