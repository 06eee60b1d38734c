/- glob.readPiece, walked. -/
import Derived.Test.YtdjfakampjbgeaaGreatDoorGbT
import Derived.Deep.RegionHeld3
import Derived.Deep.RegionWith
namespace Go.Proofs.YtdjfakampjbgeaaGreatDoor
open Go.RowKit
namespace Gl
theorem pieceA_star (n : Nat) (out : List Mk) (r : List UInt8) : pieceA (n + 1) out (42 :: r) = pieceA n (out ++ [⟨true, false, [], []⟩]) r := by rw [pieceA, if_pos rfl]
theorem pieceA_q (n : Nat) (out : List Mk) (r : List UInt8) : pieceA (n + 1) out (63 :: r) = pieceA n (out ++ [⟨false, true, [], []⟩]) r := by rw [pieceA, if_neg (by decide), if_pos rfl]
theorem pieceA_set_none {n : Nat} {out : List Mk} {r : List UInt8} (h : setOpen r = none) : pieceA (n + 1) out (91 :: r) = none := by rw [pieceA, if_neg (by decide), if_neg (by decide), if_pos rfl, h]
theorem pieceA_set {n : Nat} {out : List Mk} {r r' : List UInt8} {m : Mk} (h : setOpen r = some (m, r')) : pieceA (n + 1) out (91 :: r) = pieceA n (out ++ [m]) r' := by rw [pieceA, if_neg (by decide), if_neg (by decide), if_pos rfl, h]
theorem pieceA_esc (n : Nat) (out : List Mk) (d : UInt8) (r : List UInt8) : pieceA (n + 1) out (92 :: d :: r) = pieceA n (out ++ [⟨false, false, [d], [d]⟩]) r := by
  rw [pieceA, if_neg (by decide), if_neg (by decide), if_neg (by decide)]
  simp [oneL]
theorem pieceA_esc_end (n : Nat) (out : List Mk) : pieceA (n + 1) out [92] = none := by
  rw [pieceA, if_neg (by decide), if_neg (by decide), if_neg (by decide)]
  simp [oneL]
theorem pieceA_one {n : Nat} {out : List Mk} {c : UInt8} {r : List UInt8} (h1 : c ≠ 42) (h2 : c ≠ 63) (h3 : c ≠ 91) (h4 : c ≠ 92) : pieceA (n + 1) out (c :: r) = pieceA n (out ++ [⟨false, false, [c], [c]⟩]) r := by
  rw [pieceA, if_neg h1, if_neg h2, if_neg h3]
  simp [oneL, h4]
theorem pieceA_nil (n : Nat) (out : List Mk) : pieceA (n + 1) out [] = some out := by rw [pieceA]
end Gl

theorem markK : ElemK Tryz.prog 89 124 (.agg #[.bool false, .bool false, .slice none 0 0, .slice none 0 0]) 4 56 := ⟨Tryz.underlying89, by kernel_rfl, rfl, by decide⟩
/-- blocks of the call's own, but for a row's. -/
def Sx (w wr : World) (v : Value) : Nat → Prop := fun g => w.heap.size ≤ g ∧ g < wr.heap.size ∧ v.ownBlock ≠ some g
/-- a row of marks in the making. -/
structure PcM (w : World) (out : List Gl.Mk) (vo : Value) (cs : List Value) (wr : World) : Prop where
  own : wr.ownsRow w.heap.size 124 4 vo out.length cs
  mks : MkCells wr (Sx w wr vo) out cs
  bel : Below w.heap.size w wr
theorem ownk_lt {w : World} {base n k : Nat} {e : TypeId} {v : Value} {xs : List Value} (h : w.ownsRow base e k v n xs) : ∀ g, v.ownBlock = some g → g < w.heap.size := fun g hg => (h.lt g hg).2
theorem PcM.grow {w wr wx : World} {out : List Gl.Mk} {vo : Value} {cs : List Value} (h : PcM w out vo cs wr) (hg : wr.grownBy wx none) : PcM w out vo cs wx := by
  refine ⟨h.own.kept hg (by cases vo.ownBlock <;> simp), h.mks.keep (fun g hs hl => ⟨hg.block g hl (by simp), hs.1, Nat.lt_of_lt_of_le hl hg.size, hs.2.2⟩), h.bel.grown hg h.bel.size (fun k e => by cases e)⟩
theorem PcM.push {w wx w1 : World} {out : List Gl.Mk} {vo v1 vf vt : Value} {cs : List Value} {m : Gl.Mk} {o : Obj} (h : PcM w out vo cs wx) (hf : RB wx (Sx w wx vo) vf m.fr) (ht : RB wx (Sx w wx vo) vt m.to) (hl : m.fr.length = m.to.length)
    (h1 : w1.ownsRow w.heap.size 124 4 v1 (out.length + 1) (cs ++ [.bool m.any, .bool m.neg, vf, vt])) (hb : Below w.heap.size w w1) (hg : (wx.alloc o).grownBy w1 vo.ownBlock) (hat : v1.ownBlock = vo.ownBlock ∨ v1.ownBlock = some (wx.alloc o).heap.size) :
    PcM w (out ++ [m]) v1 (cs ++ [.bool m.any, .bool m.neg, vf, vt]) w1 := by
  have hs := hg.size
  rw [World.size_alloc] at hs
  have hk : Lies wx w1 (Sx w wx vo) (Sx w w1 v1) := fun g hs' hlt => by
    refine ⟨(hg.block g (by rw [World.size_alloc]; omega) (fun e => hs'.2.2 e.symm)).trans (Below.heap_alloc wx o g hlt), hs'.1, by omega, fun e => ?_⟩
    rcases hat with a | a
    · exact hs'.2.2 (a.symm.trans e)
    · rw [a, World.size_alloc] at e
      injection e with e
      omega
  refine ⟨by rw [List.length_append]; exact h1, ?_, hb⟩
  exact MkCells.snoc (hf.keep hk) (ht.keep hk) hl (h.mks.keep hk)
section
variable (W : World) (a b c : Obj)
theorem three_size : (((W.alloc a).alloc b).alloc c).drew.heap.size = W.heap.size + 3 := by
  show (((W.alloc a).alloc b).alloc c).heap.size = _
  simp
theorem three_grown : W.grownBy (((W.alloc a).alloc b).alloc c).drew none :=
  ⟨rfl, rfl, rfl, by rw [three_size]; omega, fun k hk _ => by
    show (((W.alloc a).alloc b).alloc c).heap[k]? = _
    rw [Below.heap_alloc _ _ _ (by simp; omega), Below.heap_alloc _ _ _ (by simp; omega), Below.heap_alloc _ _ _ hk]⟩
end
theorem three_a (W : World) (t : TypeId) (cs : Array Value) (b c : Obj) : Blk (((W.alloc (.cells cs t)).alloc b).alloc c).drew W.heap.size t cs := ((Blk.new W t cs).alloc b).alloc c
theorem three_b (W : World) (t : TypeId) (cs : Array Value) (a c : Obj) : Blk (((W.alloc a).alloc (.cells cs t)).alloc c).drew (W.heap.size + 1) t cs := by
  have h := (Blk.new (W.alloc a) t cs).alloc c
  rw [World.size_alloc] at h
  exact h
theorem three_c (W : World) (t : TypeId) (cs : Array Value) (a b : Obj) : Blk (((W.alloc a).alloc b).alloc (.cells cs t)).drew (W.heap.size + 1 + 1) t cs := by
  have h := Blk.new ((W.alloc a).alloc b) t cs
  rw [World.size_alloc, World.size_alloc] at h
  exact h
theorem RB.one {w : World} {g : Nat} {t : TypeId} {c : UInt8} {S : Nat → Prop} (h : Blk w g t #[.int .u8 (c.toNat : Int)]) (hS : S g) : RB w S (.slice (some ⟨g, 0, none⟩) 1 1) [c] := by
  refine ⟨_, _, rfl, fun j hj => ⟨g, 0, rfl, hS, ?_⟩⟩
  obtain rfl : j = 0 := by simpa using hj
  rw [h.cell]; rfl
theorem grown_trans {W X Y : World} (h : W.grownBy X none) (h2 : X.grownBy Y none) : W.grownBy Y none :=
  ⟨h2.os.trans h.os, h2.tape.trans h.tape, h2.output.trans h.output, Nat.le_trans h.size h2.size, fun k hk _ => (h2.block k (Nat.lt_of_lt_of_le hk h.size) (by simp)).trans (h.block k hk (by simp))⟩
/-- a block that lies above is no matter. -/
theorem grown_new {W X Y : World} {g : Nat} (h : W.grownBy X none) (h2 : X.grownBy Y (some g)) (hg : W.heap.size ≤ g) : W.grownBy Y none :=
  ⟨h2.os.trans h.os, h2.tape.trans h.tape, h2.output.trans h.output, Nat.le_trans h.size h2.size, fun k hk _ => (h2.block k (Nat.lt_of_lt_of_le hk h.size) (fun e => by injection e with e; omega)).trans (h.block k hk (by simp))⟩
theorem lies_store {w wr wc w7 wz : World} {v : Value} {g : Nat} (hgz : w7.grownBy wz (some g)) (hg : g < wc.heap.size) (h1 : w.heap.size ≤ wr.heap.size) (h2 : wr.heap.size ≤ wc.heap.size) (hown : ∀ g', v.ownBlock = some g' → g' < wr.heap.size) : Lies w7 wz (fun h => wc.heap.size ≤ h ∧ h < w7.heap.size) (Sx w wz v) := by
  rintro h ⟨a, b⟩ hl
  have hs := hgz.size
  exact ⟨hgz.block h hl (fun e => by injection e with e; omega), by omega, by omega, fun e => by have := hown h e; omega⟩
theorem grown_some {W X Y : World} {g : Nat} {r : Option Nat} (h : W.grownBy X (some g)) (h2 : X.grownBy Y r) (hr : r = some g ∨ r = none) : W.grownBy Y (some g) :=
  ⟨h2.os.trans h.os, h2.tape.trans h.tape, h2.output.trans h.output, Nat.le_trans h.size h2.size, fun k hk hne => (h2.block k (Nat.lt_of_lt_of_le hk h.size) (by rcases hr with rfl | rfl; exact hne; simp)).trans (h.block k hk hne)⟩
theorem esc_fin {W : World} {g p q : Nat} {c : UInt8} {p0 p1 p2 p3 : Value} (hB : Blk W g 124 #[p0, p1, p2, p3]) (hpq : (p = W.heap.size ∧ q = W.heap.size + 1) ∨ (p = W.heap.size + 1 ∧ q = W.heap.size)) :
    ∃ vf vt, Blk ((((((W.setCell ⟨g, 0, none⟩ (.bool false)).setCell ⟨g, 1, none⟩ (.bool false)).setCell ⟨g, 2, none⟩ (.slice (some ⟨p, 0, none⟩) 1 1)).setCell ⟨g, 3, none⟩ (.slice (some ⟨q, 0, none⟩) 1 1)).alloc (.cells #[.int .u8 (c.toNat : Int)] 5)).alloc (.cells #[.int .u8 (c.toNat : Int)] 5)).drew g 124 #[.bool false, .bool false, vf, vt] ∧
      RB ((((((W.setCell ⟨g, 0, none⟩ (.bool false)).setCell ⟨g, 1, none⟩ (.bool false)).setCell ⟨g, 2, none⟩ (.slice (some ⟨p, 0, none⟩) 1 1)).setCell ⟨g, 3, none⟩ (.slice (some ⟨q, 0, none⟩) 1 1)).alloc (.cells #[.int .u8 (c.toNat : Int)] 5)).alloc (.cells #[.int .u8 (c.toNat : Int)] 5)).drew (fun h => W.heap.size ≤ h ∧ h < ((((((W.setCell ⟨g, 0, none⟩ (.bool false)).setCell ⟨g, 1, none⟩ (.bool false)).setCell ⟨g, 2, none⟩ (.slice (some ⟨p, 0, none⟩) 1 1)).setCell ⟨g, 3, none⟩ (.slice (some ⟨q, 0, none⟩) 1 1)).alloc (.cells #[.int .u8 (c.toNat : Int)] 5)).alloc (.cells #[.int .u8 (c.toNat : Int)] 5)).drew.heap.size) vf [c] ∧
      RB ((((((W.setCell ⟨g, 0, none⟩ (.bool false)).setCell ⟨g, 1, none⟩ (.bool false)).setCell ⟨g, 2, none⟩ (.slice (some ⟨p, 0, none⟩) 1 1)).setCell ⟨g, 3, none⟩ (.slice (some ⟨q, 0, none⟩) 1 1)).alloc (.cells #[.int .u8 (c.toNat : Int)] 5)).alloc (.cells #[.int .u8 (c.toNat : Int)] 5)).drew (fun h => W.heap.size ≤ h ∧ h < ((((((W.setCell ⟨g, 0, none⟩ (.bool false)).setCell ⟨g, 1, none⟩ (.bool false)).setCell ⟨g, 2, none⟩ (.slice (some ⟨p, 0, none⟩) 1 1)).setCell ⟨g, 3, none⟩ (.slice (some ⟨q, 0, none⟩) 1 1)).alloc (.cells #[.int .u8 (c.toNat : Int)] 5)).alloc (.cells #[.int .u8 (c.toNat : Int)] 5)).drew.heap.size) vt [c] ∧
      W.grownBy ((((((W.setCell ⟨g, 0, none⟩ (.bool false)).setCell ⟨g, 1, none⟩ (.bool false)).setCell ⟨g, 2, none⟩ (.slice (some ⟨p, 0, none⟩) 1 1)).setCell ⟨g, 3, none⟩ (.slice (some ⟨q, 0, none⟩) 1 1)).alloc (.cells #[.int .u8 (c.toNat : Int)] 5)).alloc (.cells #[.int .u8 (c.toNat : Int)] 5)).drew (some g) := by
  have hb : Blk ((((W.setCell ⟨g, 0, none⟩ (.bool false)).setCell ⟨g, 1, none⟩ (.bool false)).setCell ⟨g, 2, none⟩ (.slice (some ⟨p, 0, none⟩) 1 1)).setCell ⟨g, 3, none⟩ (.slice (some ⟨q, 0, none⟩) 1 1)) g 124 #[.bool false, .bool false, .slice (some ⟨p, 0, none⟩) 1 1, .slice (some ⟨q, 0, none⟩) 1 1] := by
    have e := (((hB.set_ 0 (.bool false)).set_ 1 (.bool false)).set_ 2 (.slice (some ⟨p, 0, none⟩) 1 1)).set_ 3 (.slice (some ⟨q, 0, none⟩) 1 1)
    simpa using e
  have hgr : W.grownBy ((((W.setCell ⟨g, 0, none⟩ (.bool false)).setCell ⟨g, 1, none⟩ (.bool false)).setCell ⟨g, 2, none⟩ (.slice (some ⟨p, 0, none⟩) 1 1)).setCell ⟨g, 3, none⟩ (.slice (some ⟨q, 0, none⟩) 1 1)) (some g) :=
    grown_some (grown_some (grown_some (setCell_grown W ⟨g, 0, none⟩ _) (setCell_grown _ ⟨g, 1, none⟩ _) (.inl rfl)) (setCell_grown _ ⟨g, 2, none⟩ _) (.inl rfl)) (setCell_grown _ ⟨g, 3, none⟩ _) (.inl rfl)
  obtain ⟨Y, hY⟩ : ∃ Y, (((W.setCell ⟨g, 0, none⟩ (.bool false)).setCell ⟨g, 1, none⟩ (.bool false)).setCell ⟨g, 2, none⟩ (.slice (some ⟨p, 0, none⟩) 1 1)).setCell ⟨g, 3, none⟩ (.slice (some ⟨q, 0, none⟩) 1 1) = Y := ⟨_, rfl⟩
  have hs : Y.heap.size = W.heap.size := by rw [← hY]; simp
  rw [hY] at hb hgr ⊢
  clear hY
  have hz : ((Y.alloc (.cells #[.int .u8 (c.toNat : Int)] 5)).alloc (.cells #[.int .u8 (c.toNat : Int)] 5)).drew.heap.size = W.heap.size + 2 := by
    show ((Y.alloc _).alloc _).heap.size = _
    simp [hs]
  have b0 : Blk ((Y.alloc (.cells #[.int .u8 (c.toNat : Int)] 5)).alloc (.cells #[.int .u8 (c.toNat : Int)] 5)).drew W.heap.size 5 #[.int .u8 (c.toNat : Int)] := by rw [← hs]; exact (Blk.new Y _ _).alloc _
  have b1 : Blk ((Y.alloc (.cells #[.int .u8 (c.toNat : Int)] 5)).alloc (.cells #[.int .u8 (c.toNat : Int)] 5)).drew (W.heap.size + 1) 5 #[.int .u8 (c.toNat : Int)] := by
    have h := Blk.new (Y.alloc (.cells #[.int .u8 (c.toNat : Int)] 5)) 5 #[.int .u8 (c.toNat : Int)]
    rw [World.size_alloc, hs] at h
    exact h
  have hgz : W.grownBy ((Y.alloc (.cells #[.int .u8 (c.toNat : Int)] 5)).alloc (.cells #[.int .u8 (c.toNat : Int)] 5)).drew (some g) :=
    grown_some hgr (grown_of_below ((((Below.refl _ Y).alloc (Nat.le_refl _) _).alloc (by simp) _).drew) none) (.inr rfl)
  refine ⟨_, _, (hb.alloc _).alloc _, ?_, ?_, hgz⟩
  · rcases hpq with ⟨rfl, rfl⟩ | ⟨rfl, rfl⟩
    · exact RB.one b0 ⟨by omega, by rw [hz]; omega⟩
    · exact RB.one b1 ⟨by omega, by rw [hz]; omega⟩
  · rcases hpq with ⟨rfl, rfl⟩ | ⟨rfl, rfl⟩
    · exact RB.one b1 ⟨by omega, by rw [hz]; omega⟩
    · exact RB.one b0 ⟨by omega, by rw [hz]; omega⟩
/-- what readPiece answers. -/
def PieceAns (s : ByteArray) (w w' : World) (e : Ending) : Prop :=
  (Gl.pieceL (bl s) = none ∧ e = .returned (.tuple #[.slice none 0 0, eno 24])) ∨
  (∃ ms v, Gl.pieceL (bl s) = some ms ∧ e = .returned (.tuple #[v, .nilIface]) ∧ RM w' (fun g => w.heap.size ≤ g ∧ g < w'.heap.size) v ms)
set_option maxRecDepth 100000 in
set_option maxHeartbeats 4000000 in
theorem readPiece_any (s : ByteArray) (hs : s.size ≤ 2000000) (w : World) : Calls Tryz.prog 51 #[.string s] w fun e w' => PieceAns s w w' e ∧ Below w.heap.size w w' := by
  obtain ⟨RES, hRES⟩ : ∃ RES, Hid (Gl.pieceL (bl s) = RES) := ⟨_, rfl⟩
  have hF0 : Hid (Gl.pieceA (s.size + 1) [] (bl s) = RES) := by
    have := hRES.out
    rw [Gl.pieceL, bl_length] at this
    exact this
  go_enter Tryz.func51, Tryz.ntmps51
  go_wp2_with fail
  go_loopw [0, 4, 5, 6, 7, 20, 23, 26, 37] (fun t0 t4 _ _ _ _ _ _ _ wr => ∃ (x : ByteArray) (fuel : Nat) (out : List Gl.Mk) (vo : Value) (cs : List Value), t0 = .string x ∧ t4 = vo ∧ x.size ≤ 2000000 ∧ out.length + x.size ≤ s.size ∧ x.size < fuel ∧ Hid (Gl.pieceA fuel out (bl x) = RES) ∧ PcM w out vo cs wr) (fun t0 _ _ _ _ _ _ _ _ _ => match t0 with | .string x => x.size | _ => 0)
  case atStart => exact ⟨s, _, [], .slice none 0 0, [], rfl, rfl, hs, by simp, by omega, hF0, World.ownsRow_nil _ _ _ _, rfl, Below.refl _ _⟩
  case round =>
    clear hF0
    obtain ⟨x, fuel, out, vo, cs, rfl, rfl, hx, hox, hfu, HF, hP⟩ := hrel
    obtain ⟨n, rfl⟩ : ∃ n, fuel = n + 1 := ⟨fuel - 1, by omega⟩
    obtain ⟨AA, cc, rfl⟩ := ownk_form hP.own
    rcases Nat.lt_or_ge 0 x.size with hx0 | hx0
    · have i0 : decide ((0 : Int) < (x.size : Int)) = true := by simp; omega
      have i1 : (0 : Int) < (x.size : Int) := by omega
      have hb : (x[0]).toNat < 256 := (x[0]).toNat_lt
      have hd := bl_drop_cons x 0 hx0
      rw [List.drop_zero] at hd
      go_upto_region 3 with fail
      go_cut [5] (fun s5 wx => ∃ g vf vt, s5 = .pointer (some ⟨g, 0, none⟩) ∧ wr.heap.size ≤ g ∧ Blk wx g 124 #[.bool false, .bool false, vf, vt] ∧ RB wx (fun h => wr.heap.size ≤ h ∧ h < wx.heap.size) vf [x[0]] ∧ RB wx (fun h => wr.heap.size ≤ h ∧ h < wx.heap.size) vt [x[0]] ∧ wr.grownBy wx none)
      case first =>
        clear hd HF hP hRES hox hfu
        go_region_with (fail)
        all_goals (go_wp2_with fail; go_meet; refine ⟨_, _, _, rfl, ?_, (by first | exact three_a _ _ _ _ _ | exact three_b _ _ _ _ _ | exact three_c _ _ _ _ _), ?_, ?_, ?_⟩)
        all_goals first | exact three_grown _ _ _ _ | omega | exact RB.one (three_a _ _ _ _ _) ⟨by omega, by rw [three_size]; omega⟩ | exact RB.one (three_b _ _ _ _ _) ⟨by omega, by rw [three_size]; omega⟩ | exact RB.one (three_c _ _ _ _ _) ⟨by omega, by rw [three_size]; omega⟩
      case rest =>
        obtain ⟨r, hr⟩ : ∃ r, (bl x).drop 1 = r := ⟨_, rfl⟩
        have hp : Gl.pieceA (n + 1) out (bl x) = Gl.pieceA (n + 1) out (x[0] :: r) := by rw [hd, ← hr]
        obtain ⟨g, vf, vt, rfl, hg, hBg, hRf, hRt, hgr⟩ := hcut
        obtain ⟨fA, fC, hvf⟩ : ∃ A c, vf = .slice A [x[0]].length c := by obtain ⟨A, c, e, _⟩ := hRf; exact ⟨A, c, e⟩
        obtain ⟨tA, tC, hvt⟩ : ∃ A c, vt = .slice A [x[0]].length c := by obtain ⟨A, c, e, _⟩ := hRt; exact ⟨A, c, e⟩
        subst hvf hvt
        have hPc := hP.grow hgr
        have hown := ownk_lt hP.own
        have hwr := hP.bel.size
        have hwc := hgr.size
        by_cases hc : x[0] = 42
        · have t42 : (((x[0]).toNat : Int) == 42) = true := by rw [hc]; rfl
          have hzn : (x.extract 1 x.size).size = x.size - 1 := by rw [ByteArray.size_extract]; omega
          have hsl := slice_l x 1 1 rfl (by omega)
          have HF2 : Hid (Gl.pieceA n (out ++ [⟨true, false, [], []⟩]) (bl (x.extract 1 x.size)) = RES) := by
            show _ = _
            rw [bl_from, ← HF.out, hp, hc, Gl.pieceA_star, hr]
          clear hd HF hp hPc
          go_wp2_with (first | (refine wpList_store_mk rfl _ _ rfl g _ _ _ _ rfl rfl _ _ _ _ hBg (by simp [Value.oneCell']) ?_; intro wz hBz hgz hsz; clear hsz; have c0 := hBz.cell 0; have c1 := hBz.cell 1; have c2 := hBz.cell 2; have c3 := hBz.cell 3; simp only [List.getElem?_toArray, List.getElem?_cons_succ, List.getElem?_cons_zero] at c0 c1 c2 c3; have hPz := hP.grow (grown_new hgr hgz hg)) | (at_builtin; refine wpList_appk rfl _ _ _ rfl markK _ _ _ _ rfl (hPz.own.alloc _) _ _ _ _ rfl rfl (news_at _ _ (by simp) _ _) (by simp [Value.oneCell']) (by omega) (by omega) (hPz.bel.alloc hPz.bel.size _) (by have := hPz.bel.size; rw [World.size_alloc]; omega) ?_; intro v1 w1 ho1 hb1 hg1 hat1; obtain ⟨B1, q1, rfl⟩ := ownk_form ho1))
          go_roundw
          case rel => exact ⟨x.extract 1 x.size, n, out ++ [⟨true, false, [], []⟩], _, _, rfl, rfl, by rw [hzn]; omega, by rw [hzn]; simp only [List.length_append, List.length_cons, List.length_nil]; omega, by rw [hzn]; omega, HF2, hPz.push (RB.nil _ _ _ _) (RB.nil _ _ _ _) rfl ho1 hb1 hg1 hat1⟩
          case measure => simp [ByteArray.size_extract]; omega
        · have h42 := hc
          clear hc
          have t42 : (((x[0]).toNat : Int) == 42) = false := by simp only [beq_eq_false_iff_ne, ne_eq]; exact fun e => h42 (UInt8.toNat_inj.1 (by rw [show (42 : UInt8).toNat = 42 from rfl]; omega))
          by_cases hc : x[0] = 63
          · have t63 : (((x[0]).toNat : Int) == 63) = true := by rw [hc]; rfl
            have hzn : (x.extract 1 x.size).size = x.size - 1 := by rw [ByteArray.size_extract]; omega
            have hsl := slice_l x 1 1 rfl (by omega)
            have HF2 : Hid (Gl.pieceA n (out ++ [⟨false, true, [], []⟩]) (bl (x.extract 1 x.size)) = RES) := by
              show _ = _
              rw [bl_from, ← HF.out, hp, hc, Gl.pieceA_q, hr]
            clear hd HF hp hPc
            go_wp2_with (first | (refine wpList_store_mk rfl _ _ rfl g _ _ _ _ rfl rfl _ _ _ _ hBg (by simp [Value.oneCell']) ?_; intro wz hBz hgz hsz; clear hsz; have c0 := hBz.cell 0; have c1 := hBz.cell 1; have c2 := hBz.cell 2; have c3 := hBz.cell 3; simp only [List.getElem?_toArray, List.getElem?_cons_succ, List.getElem?_cons_zero] at c0 c1 c2 c3; have hPz := hP.grow (grown_new hgr hgz hg)) | (at_builtin; refine wpList_appk rfl _ _ _ rfl markK _ _ _ _ rfl (hPz.own.alloc _) _ _ _ _ rfl rfl (news_at _ _ (by simp) _ _) (by simp [Value.oneCell']) (by omega) (by omega) (hPz.bel.alloc hPz.bel.size _) (by have := hPz.bel.size; rw [World.size_alloc]; omega) ?_; intro v1 w1 ho1 hb1 hg1 hat1; obtain ⟨B1, q1, rfl⟩ := ownk_form ho1))
            go_roundw
            case rel => exact ⟨x.extract 1 x.size, n, out ++ [⟨false, true, [], []⟩], _, _, rfl, rfl, by rw [hzn]; omega, by rw [hzn]; simp only [List.length_append, List.length_cons, List.length_nil]; omega, by rw [hzn]; omega, HF2, hPz.push (RB.nil _ _ _ _) (RB.nil _ _ _ _) rfl ho1 hb1 hg1 hat1⟩
            case measure => simp [ByteArray.size_extract]; omega
          · have h63 := hc
            clear hc
            have t63 : (((x[0]).toNat : Int) == 63) = false := by simp only [beq_eq_false_iff_ne, ne_eq]; exact fun e => h63 (UInt8.toNat_inj.1 (by rw [show (63 : UInt8).toNat = 63 from rfl]; omega))
            by_cases hc : x[0] = 91
            · have t91 : (((x[0]).toNat : Int) == 91) = true := by rw [hc]; rfl
              go_wp2_with fail
              refine (readSet_any x hx (by omega) _).mono ?_
              rintro e w7 ⟨hS, b7⟩
              unfold SetAns at hS
              rw [hr] at hS
              have hB7 := hBg.below b7 hBg.lt
              have hgr7 := grown_trans hgr (grown_of_below b7 none)
              have hP7 := hP.grow hgr7
              have hgl := hBg.lt
              have h7s := b7.size
              rcases hS with ⟨hno, rfl⟩ | ⟨m, k, uf, ut, hso, hks, hk2, rfl, huf, hut, hul, hum⟩
              · have hR : RES = none := by rw [← HF.out, hp, hc, Gl.pieceA_set_none hno]
                clear hd HF hp hno
                go_wp2_with (refine wpList_store_mk rfl _ _ rfl g _ _ _ _ rfl rfl _ _ _ _ hB7 (by simp [Value.oneCell']) ?_; intro wz hBz hgz hsz; clear hsz; have c0 := hBz.cell 0; have c1 := hBz.cell 1; have c2 := hBz.cell 2; have c3 := hBz.cell 3; simp only [List.getElem?_toArray, List.getElem?_cons_succ, List.getElem?_cons_zero] at c0 c1 c2 c3)
                go_ret2
                exact ⟨.inl ⟨by rw [hRES.out, hR], rfl⟩, hP7.bel.grown hgz hP7.bel.size (fun k e => by cases e; omega)⟩
              · have hzn : (x.extract k x.size).size = x.size - k := by rw [ByteArray.size_extract]; omega
                have hsl := slice_l x k (k : Int) rfl (by omega)
                have HF2 : Hid (Gl.pieceA n (out ++ [m]) (bl (x.extract k x.size)) = RES) := by
                  show _ = _
                  rw [bl_from, ← HF.out, hp, hc, Gl.pieceA_set hso]
                have HUL := Lib.hid hul
                obtain ⟨A7, q7, huf'⟩ : ∃ A c, uf = .slice A m.fr.length c := by obtain ⟨A, c, e, _⟩ := huf; exact ⟨A, c, e⟩
                obtain ⟨A8, q8, hut'⟩ : ∃ A c, ut = .slice A m.to.length c := by obtain ⟨A, c, e, _⟩ := hut; exact ⟨A, c, e⟩
                subst huf' hut'
                clear hd HF hp hul hso
                go_wp2_with (first | (refine wpList_store_mk rfl _ _ rfl g _ _ _ _ rfl rfl _ _ _ _ hB7 (by simp [Value.oneCell']) ?_; intro wz hBz hgz hsz; clear hsz; have c0 := hBz.cell 0; have c1 := hBz.cell 1; have c2 := hBz.cell 2; have c3 := hBz.cell 3; simp only [List.getElem?_toArray, List.getElem?_cons_succ, List.getElem?_cons_zero] at c0 c1 c2 c3; have hPz := hP.grow (grown_new hgr7 hgz hg); have hkz := lies_store hgz hgl hwr hwc hown) | (at_builtin; refine wpList_appk rfl _ _ _ rfl markK _ _ _ _ rfl (hPz.own.alloc _) _ _ _ _ rfl rfl (news_at _ _ (by simp) _ _) (by simp [Value.oneCell']) (by omega) (by omega) (hPz.bel.alloc hPz.bel.size _) (by have := hPz.bel.size; rw [World.size_alloc]; omega) ?_; intro v1 w1 ho1 hb1 hg1 hat1; obtain ⟨B1, q1, rfl⟩ := ownk_form ho1))
                go_roundw
                case rel => exact ⟨x.extract k x.size, n, out ++ [m], _, _, rfl, rfl, by rw [hzn]; omega, by rw [hzn]; simp only [List.length_append, List.length_cons, List.length_nil]; omega, by rw [hzn]; omega, HF2, hPz.push (huf.keep hkz) (hut.keep hkz) HUL.out ho1 hb1 hg1 hat1⟩
                case measure => simp [ByteArray.size_extract]; omega
            · have h91 := hc
              clear hc
              have t91 : (((x[0]).toNat : Int) == 91) = false := by simp only [beq_eq_false_iff_ne, ne_eq]; exact fun e => h91 (UInt8.toNat_inj.1 (by rw [show (91 : UInt8).toNat = 91 from rfl]; omega))
              by_cases hc : x[0] = 92
              · have t92 : (((x[0]).toNat : Int) == 92) = true := by rw [hc]; rfl
                rcases Nat.lt_or_ge 1 x.size with h1 | h1
                · have tl : decide ((x.size : Int) < 2) = false := by simp; omega
                  have i5 : (1 : Int) < (x.size : Int) := by omega
                  have hb1 : (x[1]).toNat < 256 := (x[1]).toNat_lt
                  have hr1 : r = x[1] :: (bl x).drop 2 := by rw [← hr]; exact bl_drop_cons x 1 h1
                  have hzn : (x.extract 2 x.size).size = x.size - 2 := by rw [ByteArray.size_extract]; omega
                  have hsl := slice_l x 2 2 rfl (by omega)
                  have HF2 : Hid (Gl.pieceA n (out ++ [⟨false, false, [x[1]], [x[1]]⟩]) (bl (x.extract 2 x.size)) = RES) := by
                    show _ = _
                    rw [bl_from, ← HF.out, hp, hc, hr1, Gl.pieceA_esc]
                  have hgl := hBg.lt
                  have c0 := hBg.cell 0; have c1 := hBg.cell 1; have c2 := hBg.cell 2; have c3 := hBg.cell 3; simp only [List.getElem?_toArray, List.getElem?_cons_succ, List.getElem?_cons_zero] at c0 c1 c2 c3
                  have f0 := hBg.frozen 0
                  have f1 := hBg.frozen 1
                  have f2 := hBg.frozen 2
                  have f3 := hBg.frozen 3
                  clear hd HF hp hr1
                  obtain ⟨w5, rfl⟩ : ∃ w5, w5 = wc := ⟨_, rfl⟩
                  go_upto_region 18 with fail
                  go_cut [43] (fun _ wx => ∃ vf vt, Blk wx g 124 #[.bool false, .bool false, vf, vt] ∧ RB wx (fun h => w5.heap.size ≤ h ∧ h < wx.heap.size) vf [x[1]] ∧ RB wx (fun h => w5.heap.size ≤ h ∧ h < wx.heap.size) vt [x[1]] ∧ w5.grownBy wx (some g))
                  case first =>
                    clear hP hPc HF2 hRES hox hfu hRf hRt
                    go_region_with (fail)
                    all_goals (go_wp2_with fail; go_meet; first | exact esc_fin hBg (.inl ⟨rfl, rfl⟩) | exact esc_fin hBg (.inr ⟨rfl, rfl⟩))
                  case rest =>
                    clear c0 c1 c2 c3 f0 f1 f2 f3
                    obtain ⟨vf, vt, hBx, hRf1, hRt1, hgx⟩ := hcut
                    obtain ⟨fA1, fC1, hvf⟩ : ∃ A c, vf = .slice A [x[1]].length c := by obtain ⟨A, c, e, _⟩ := hRf1; exact ⟨A, c, e⟩
                    obtain ⟨tA1, tC1, hvt⟩ : ∃ A c, vt = .slice A [x[1]].length c := by obtain ⟨A, c, e, _⟩ := hRt1; exact ⟨A, c, e⟩
                    subst hvf hvt
                    have hPx := hP.grow (grown_new hgr hgx hg)
                    have hsx := hgx.size
                    have hkx : Lies wc wc (fun h => w5.heap.size ≤ h ∧ h < wc.heap.size) (Sx w wc (.slice AA out.length cc)) := fun h hh hl => ⟨rfl, by have := hh.1; omega, hh.2, fun e => by have := hown h e; have := hh.1; omega⟩
                    have c0 := hBx.cell 0; have c1 := hBx.cell 1; have c2 := hBx.cell 2; have c3 := hBx.cell 3; simp only [List.getElem?_toArray, List.getElem?_cons_succ, List.getElem?_cons_zero] at c0 c1 c2 c3
                    clear hsx
                    go_wp2_with (at_builtin; refine wpList_appk rfl _ _ _ rfl markK _ _ _ _ rfl (hPx.own.alloc _) _ _ _ _ rfl rfl (news_at _ _ (by simp) _ _) (by simp [Value.oneCell']) (by omega) (by omega) (hPx.bel.alloc hPx.bel.size _) (by have := hPx.bel.size; rw [World.size_alloc]; omega) ?_; intro v1 w1 ho1 hb1 hg1 hat1; obtain ⟨B1, q1, rfl⟩ := ownk_form ho1)
                    go_roundw
                    case rel => exact ⟨x.extract 2 x.size, n, out ++ [⟨false, false, [x[1]], [x[1]]⟩], _, _, rfl, rfl, by rw [hzn]; omega, by rw [hzn]; simp only [List.length_append, List.length_cons, List.length_nil]; omega, by rw [hzn]; omega, HF2, hPx.push (hRf1.keep hkx) (hRt1.keep hkx) rfl ho1 hb1 hg1 hat1⟩
                    case measure => simp [ByteArray.size_extract]; omega
                · have tl : decide ((x.size : Int) < 2) = true := by simp; omega
                  have hR : RES = none := by rw [← HF.out, hp, hc, show r = [] from by rw [← hr]; exact List.drop_eq_nil_of_le (by rw [bl_length]; omega), Gl.pieceA_esc_end]
                  clear hd HF hp
                  go_wp2_with fail
                  go_ret2
                  exact ⟨.inl ⟨by rw [hRES.out, hR], rfl⟩, hPc.bel⟩
              · have h92 := hc
                clear hc
                have t92 : (((x[0]).toNat : Int) == 92) = false := by simp only [beq_eq_false_iff_ne, ne_eq]; exact fun e => h92 (UInt8.toNat_inj.1 (by rw [show (92 : UInt8).toNat = 92 from rfl]; omega))
                have hzn : (x.extract 1 x.size).size = x.size - 1 := by rw [ByteArray.size_extract]; omega
                have hsl := slice_l x 1 1 rfl (by omega)
                have HF2 : Hid (Gl.pieceA n (out ++ [⟨false, false, [x[0]], [x[0]]⟩]) (bl (x.extract 1 x.size)) = RES) := by
                  show _ = _
                  rw [bl_from, ← HF.out, hp, Gl.pieceA_one h42 h63 h91 h92, hr]
                have hkc : Lies wc wc (fun h => wr.heap.size ≤ h ∧ h < wc.heap.size) (Sx w wc (.slice AA out.length cc)) := fun h hh hl => ⟨rfl, by have := hh.1; omega, hh.2, fun e => by have := hown h e; have := hh.1; omega⟩
                have c0 := hBg.cell 0; have c1 := hBg.cell 1; have c2 := hBg.cell 2; have c3 := hBg.cell 3; simp only [List.getElem?_toArray, List.getElem?_cons_succ, List.getElem?_cons_zero] at c0 c1 c2 c3
                clear hd HF hp
                go_wp2_with (at_builtin; refine wpList_appk rfl _ _ _ rfl markK _ _ _ _ rfl (hPc.own.alloc _) _ _ _ _ rfl rfl (news_at _ _ (by simp) _ _) (by simp [Value.oneCell']) (by omega) (by omega) (hPc.bel.alloc hPc.bel.size _) (by have := hPc.bel.size; rw [World.size_alloc]; omega) ?_; intro v1 w1 ho1 hb1 hg1 hat1; obtain ⟨B1, q1, rfl⟩ := ownk_form ho1)
                go_roundw
                case rel => exact ⟨x.extract 1 x.size, n, out ++ [⟨false, false, [x[0]], [x[0]]⟩], _, _, rfl, rfl, by rw [hzn]; omega, by rw [hzn]; simp only [List.length_append, List.length_cons, List.length_nil]; omega, by rw [hzn]; omega, HF2, hPc.push (hRf.keep hkc) (hRt.keep hkc) rfl ho1 hb1 hg1 hat1⟩
                case measure => simp [ByteArray.size_extract]; omega
    · have i0 : decide ((0 : Int) < (x.size : Int)) = false := by rw [decide_eq_false_iff_not]; omega
      have hR : RES = some out := by rw [← HF.out, show bl x = [] from List.eq_nil_of_length_eq_zero (by rw [bl_length]; omega), Gl.pieceA_nil]
      clear HF
      go_wp2_with fail
      go_ret2
      exact ⟨.inr ⟨out, _, by rw [hRES.out, hR], rfl, cs, RC.own hP.own (fun g e => hP.own.lt g e), hP.mks.keep (fun g hs _ => ⟨rfl, hs.1, hs.2.1⟩)⟩, hP.bel⟩
end Go.Proofs.YtdjfakampjbgeaaGreatDoor
