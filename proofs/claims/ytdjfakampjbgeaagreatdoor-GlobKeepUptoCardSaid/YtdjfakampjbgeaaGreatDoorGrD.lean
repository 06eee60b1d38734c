/- strataref02.Parts, walked (printed by wip/gengrd.py). -/
import Derived.Test.YtdjfakampjbgeaaGreatDoorGrC
import Derived.Test.YtdjfakampjbgeaaGreatDoorGbY
namespace Go.Proofs.YtdjfakampjbgeaaGreatDoor
open Go.RowKit
namespace Gl
theorem pieceA_said {n : Nat} {out : List Mk} {c d : UInt8} {r r' : List UInt8} (h1 : c ≠ 42) (h2 : c ≠ 63) (h3 : c ≠ 91) (h : oneL (c :: r) = some (d, r')) : pieceA (n + 1) out (c :: r) = pieceA n (out ++ [⟨false, false, [d], [d]⟩]) r' := by
  rw [pieceA, if_neg h1, if_neg h2, if_neg h3, h]
theorem pieceA_none {n : Nat} {out : List Mk} {c : UInt8} {r : List UInt8} (h1 : c ≠ 42) (h2 : c ≠ 63) (h3 : c ≠ 91) (h : oneL (c :: r) = none) : pieceA (n + 1) out (c :: r) = none := by
  rw [pieceA, if_neg h1, if_neg h2, if_neg h3, h]
end Gl
theorem partK : ElemK Tryz.prog 78 109 (.agg #[.bool false, .slice none 0 0]) 2 32 := ⟨Tryz.underlying78, by kernel_rfl, rfl, by decide⟩
theorem mf_all {k : Nat} : mf ⟨false, true, [], []⟩ k = true := rfl
theorem mf_one (c : UInt8) {k : Nat} (hk : k < 256) : mf ⟨false, false, [c], [c]⟩ k = (k == c.toNat) := by
  have h := Gl.single_takes c (UInt8.ofNat k)
  have h1 : (UInt8.ofNat k).toNat = k := by simp; omega
  rw [mf, show (⟨false, false, [c], [c]⟩ : Gl.Mk) = Gl.single c from rfl, h, Bool.eq_iff_iff, beq_iff_eq, beq_iff_eq]
  exact ⟨fun e => by rw [e, h1], fun e => UInt8.toNat_inj.1 (by rw [h1, e])⟩
/-- a row of parts in the making. -/
structure PtM (w : World) (out : List Gl.Mk) (vo : Value) (cs : List Value) (wr : World) : Prop where
  own : wr.ownsRow w.heap.size 109 2 vo out.length cs
  pts : PtCells wr (Sx w wr vo) out cs
  bel : Below w.heap.size w wr
theorem PtM.grow {w wr wx : World} {out : List Gl.Mk} {vo : Value} {cs : List Value} (h : PtM w out vo cs wr) (hg : wr.grownBy wx none) : PtM w out vo cs wx := by
  refine ⟨h.own.kept hg (by cases vo.ownBlock <;> simp), h.pts.keep (fun g hs hl => ⟨hg.block g hl (by simp), hs.1, Nat.lt_of_lt_of_le hl hg.size, hs.2.2⟩), h.bel.grown hg h.bel.size (fun k e => by cases e)⟩
theorem PtM.push {w wx w1 : World} {out : List Gl.Mk} {vo v1 vm : Value} {cs : List Value} {m : Gl.Mk} {o : Obj} (h : PtM w out vo cs wx) (hm : m.any = false → ∃ g, vm = .slice (some ⟨g, 0, none⟩) 256 256 ∧ Sx w wx vo g ∧ BF wx g 256 (mf m))
    (h1 : w1.ownsRow w.heap.size 109 2 v1 (out.length + 1) (cs ++ [.bool m.any, vm])) (hb : Below w.heap.size w w1) (hg : (wx.alloc o).grownBy w1 vo.ownBlock) (hat : v1.ownBlock = vo.ownBlock ∨ v1.ownBlock = some (wx.alloc o).heap.size) :
    PtM w (out ++ [m]) v1 (cs ++ [.bool m.any, vm]) w1 := by
  have hs := hg.size
  rw [World.size_alloc] at hs
  have hk : Lies wx w1 (Sx w wx vo) (Sx w w1 v1) := fun g hs' hlt => by
    refine ⟨(hg.block g (by rw [World.size_alloc]; omega) (fun e => hs'.2.2 e.symm)).trans (Below.heap_alloc wx o g hlt), hs'.1, by omega, fun e => ?_⟩
    rcases hat with a | a
    · exact hs'.2.2 (a.symm.trans e)
    · rw [a, World.size_alloc] at e
      injection e with e
      omega
  exact ⟨by rw [List.length_append]; exact h1, PtCells.snoc (fun ha => by
    obtain ⟨g, e, e2, e3⟩ := hm ha
    obtain ⟨k1, k2⟩ := hk g e2 e3.lt
    exact ⟨g, e, k2, k1.trans e3⟩) (h.pts.keep hk), hb⟩
/-- what Parts answers. -/
def PartsAns (s : ByteArray) (w w' : World) (e : Ending) : Prop :=
  (Gl.pieceL (bl s) = none ∧ e = .returned (.tuple #[.slice none 0 0, .bool false])) ∨
  (∃ ms v, Gl.pieceL (bl s) = some ms ∧ e = .returned (.tuple #[v, .bool true]) ∧ RT w' (fun g => w.heap.size ≤ g ∧ g < w'.heap.size) v ms)
set_option maxRecDepth 100000 in
set_option maxHeartbeats 4000000 in
theorem parts_any (s : ByteArray) (hs : s.size ≤ 2000000) (w : World) : Calls Tryz.prog 41 #[.string s] w fun e w' => PartsAns s w w' e ∧ Below w.heap.size w w' := by
  obtain ⟨RES, hRES⟩ : ∃ RES, Hid (Gl.pieceL (bl s) = RES) := ⟨_, rfl⟩
  have hF0 : Hid (Gl.pieceA (s.size + 1) [] (bl s) = RES) := by
    have := hRES.out
    rw [Gl.pieceL, bl_length] at this
    exact this
  go_enter Tryz.func41, Tryz.ntmps41
  go_wp2_with fail
  go_loopw [4, 5, 6, 7, 8, 9, 10, 11, 34, 42, 50] (fun t4 t5 _ _ _ _ _ _ _ _ _ wr => ∃ (k fuel : Nat) (out : List Gl.Mk) (cs : List Value), t5 = .int .i64 (k : Int) ∧ k ≤ s.size ∧ out.length ≤ k ∧ s.size - k < fuel ∧ Hid (Gl.pieceA fuel out ((bl s).drop k) = RES) ∧ PtM w out t4 cs wr) (fun _ t5 _ _ _ _ _ _ _ _ _ _ => s.size - (intOf t5).toNat)
  case atStart => exact ⟨0, s.size + 1, [], [], rfl, by omega, by simp, by omega, by rw [List.drop_zero]; exact hF0, World.ownsRow_nil _ _ _ _, rfl, Below.refl _ _⟩
  case round =>
    clear hF0
    obtain ⟨k, fuel, out, cs, rfl, hk, hok, hfu, HF, hP⟩ := hrel
    obtain ⟨n, rfl⟩ : ∃ n, fuel = n + 1 := ⟨fuel - 1, by omega⟩
    obtain ⟨AA, cc, rfl⟩ := ownk_form hP.own
    have j0 : (0 : Int) ≤ (k : Int) := by omega
    rcases Nat.lt_or_ge k s.size with hkn | hkn
    · have i0 : decide ((k : Int) < (s.size : Int)) = true := by rw [decide_eq_true_eq]; omega
      have i1 : (k : Int) < (s.size : Int) := by omega
      have hb : (s[k]).toNat < 256 := (s[k]).toNat_lt
      have hd := bl_drop_cons s k hkn
      rw [hd] at HF
      have hown := ownk_lt hP.own
      have hwr := hP.bel.size
      by_cases hc : s[k] = 42
      · have t42 : (((s[k]).toNat : Int) == 42) = true := by rw [hc]; rfl
        have HF2 : Hid (Gl.pieceA n (out ++ [⟨true, false, [], []⟩]) ((bl s).drop (k + 1)) = RES) := by show _ = _; rw [← HF.out, hc, Gl.pieceA_star]
        clear hd HF hc
        go_wp2_with (at_builtin; refine wpList_appk rfl _ _ _ rfl partK _ _ _ _ rfl (hP.own.alloc _) _ _ _ _ rfl rfl (news_at _ _ (by simp) _ _) (by simp [Value.oneCell']) (by omega) (by omega) (hP.bel.alloc hP.bel.size _) (by have := hP.bel.size; rw [World.size_alloc]; omega) ?_; intro v1 w1 ho1 hb1 hg1 hat1; obtain ⟨B1, q1, rfl⟩ := ownk_form ho1)
        go_roundw
        case rel => exact ⟨k + 1, n, out ++ [⟨true, false, [], []⟩], _, by go_num, by omega, by simp only [List.length_append, List.length_cons, List.length_nil]; omega, by omega, HF2, hP.push (fun e => by cases e) ho1 hb1 hg1 hat1⟩
        case measure => simp [intOf]; omega
      · have h42 := Lib.hid hc
        have t42 : (((s[k]).toNat : Int) == 42) = false := by simp only [beq_eq_false_iff_ne, ne_eq]; exact fun e => hc (UInt8.toNat_inj.1 (by rw [show (42 : UInt8).toNat = 42 from rfl]; omega))
        clear hc
        by_cases hc : s[k] = 63
        · have t63 : (((s[k]).toNat : Int) == 63) = true := by rw [hc]; rfl
          have HF2 : Hid (Gl.pieceA n (out ++ [⟨false, true, [], []⟩]) ((bl s).drop (k + 1)) = RES) := by show _ = _; rw [← HF.out, hc, Gl.pieceA_q]
          clear hd HF hc
          go_wp2_with fail
          refine (single_any 0 true _).mono ?_
          rintro e w7 ⟨⟨g, rfl, hg, hG⟩, b7⟩
          have hP7 := hP.grow (grown_of_below b7 none)
          have hgl := hG.lt
          have hG2 : BF w7 g 256 (mf ⟨false, true, [], []⟩) := hG.congr fun x _ => by rw [mf_all, Bool.true_or]
          clear hP hG
          go_wp2_with (at_builtin; refine wpList_appk rfl _ _ _ rfl partK _ _ _ _ rfl (hP7.own.alloc _) _ _ _ _ rfl rfl (news_at _ _ (by simp) _ _) (by simp [Value.oneCell']) (by omega) (by omega) (hP7.bel.alloc hP7.bel.size _) (by have := hP7.bel.size; rw [World.size_alloc]; omega) ?_; intro v1 w1 ho1 hb1 hg1 hat1; obtain ⟨B1, q1, rfl⟩ := ownk_form ho1)
          go_roundw
          case rel => exact ⟨k + 1, n, out ++ [⟨false, true, [], []⟩], _, by go_num, by omega, by simp only [List.length_append, List.length_cons, List.length_nil]; omega, by omega, HF2, hP7.push (fun _ => ⟨g, rfl, ⟨by omega, by omega, fun e => by have := hown g e; omega⟩, hG2⟩) ho1 hb1 hg1 hat1⟩
          case measure => simp [intOf]; omega
        · have h63 := Lib.hid hc
          have t63 : (((s[k]).toNat : Int) == 63) = false := by simp only [beq_eq_false_iff_ne, ne_eq]; exact fun e => hc (UInt8.toNat_inj.1 (by rw [show (63 : UInt8).toNat = 63 from rfl]; omega))
          clear hc
          by_cases hc : s[k] = 91
          · have t91 : (((s[k]).toNat : Int) == 91) = true := by rw [hc]; rfl
            have HC := Lib.hid hc
            clear hc
            go_wp2_with fail
            refine (set_any s k hs hkn _).mono ?_
            rintro e w7 ⟨hS, b7⟩
            have hP7 := hP.grow (grown_of_below b7 none)
            clear hP
            rcases hS with ⟨ho, rfl⟩ | ⟨m, n1, g, ho, hn1, hn2, hany, rfl, hg, hG⟩
            · have hR : Hid (RES = none) := by show _ = _; rw [← HF.out, HC.out, Gl.pieceA_set_none ho]
              clear hd HF ho
              go_wp2_with fail
              go_ret2
              exact ⟨.inl ⟨by rw [hRES.out, hR.out], by first | rfl | (simp; done)⟩, hP7.bel⟩
            · have HF2 : Hid (Gl.pieceA n (out ++ [m]) ((bl s).drop n1) = RES) := by show _ = _; rw [← HF.out, HC.out, Gl.pieceA_set ho]
              have hgl := hG.lt
              have HANY := Lib.hid hany
              have hcell : Hid (Value.bool false = .bool m.any) := by show _ = _; rw [hany]
              clear hd HF ho hany
              go_wp2_with (at_builtin; refine wpList_appk rfl _ _ _ rfl partK _ _ _ _ rfl (hP7.own.alloc _) _ _ _ _ rfl rfl (news_at _ _ (by simp) _ _) (by simp [Value.oneCell']) (by omega) (by omega) (hP7.bel.alloc hP7.bel.size _) (by have := hP7.bel.size; rw [World.size_alloc]; omega) ?_; intro v1 w1 ho1 hb1 hg1 hat1; obtain ⟨B1, q1, rfl⟩ := ownk_form ho1)
              rw [show [Value.bool false, .slice (some ⟨g, 0, none⟩) 256 256] = [Value.bool m.any, .slice (some ⟨g, 0, none⟩) 256 256] by rw [hcell.out]] at ho1
              go_roundw
              case rel => exact ⟨n1, n, out ++ [m], _, by go_num, by omega, by simp only [List.length_append, List.length_cons, List.length_nil]; omega, by omega, HF2, hP7.push (fun _ => ⟨g, rfl, ⟨by omega, by omega, fun e => by have := hown g e; omega⟩, hG⟩) ho1 hb1 hg1 hat1⟩
              case measure => simp [intOf]; omega
          · have h91 := Lib.hid hc
            have t91 : (((s[k]).toNat : Int) == 91) = false := by simp only [beq_eq_false_iff_ne, ne_eq]; exact fun e => hc (UInt8.toNat_inj.1 (by rw [show (91 : UInt8).toNat = 91 from rfl]; omega))
            clear hc
            go_wp2_with fail
            refine (byteAt_any s k hs hkn _).mono ?_
            rintro e w6 ⟨hS, rfl⟩
            rcases hS with ⟨ho, rfl⟩ | ⟨c, n1, ho, hn1, hn2, hn3, rfl⟩
            · rw [hd] at ho
              have hR : Hid (RES = none) := by show _ = _; rw [← HF.out, Gl.pieceA_none h42.out h63.out h91.out ho]
              clear hd HF ho
              go_wp2_with fail
              go_ret2
              exact ⟨.inl ⟨by rw [hRES.out, hR.out], by first | rfl | (simp; done)⟩, hP.bel⟩
            · rw [hd] at ho
              have HF2 : Hid (Gl.pieceA n (out ++ [⟨false, false, [c], [c]⟩]) ((bl s).drop n1) = RES) := by show _ = _; rw [← HF.out, Gl.pieceA_said h42.out h63.out h91.out ho]
              clear hd HF ho
              go_wp2_with fail
              refine (single_any c false _).mono ?_
              rintro e w7 ⟨⟨g, rfl, hg, hG⟩, b7⟩
              have hP7 := hP.grow (grown_of_below b7 none)
              have hgl := hG.lt
              have hG2 : BF w7 g 256 (mf ⟨false, false, [c], [c]⟩) := hG.congr fun x hx => by rw [mf_one c hx, Bool.false_or]
              clear hP hG
              go_wp2_with (at_builtin; refine wpList_appk rfl _ _ _ rfl partK _ _ _ _ rfl (hP7.own.alloc _) _ _ _ _ rfl rfl (news_at _ _ (by simp) _ _) (by simp [Value.oneCell']) (by omega) (by omega) (hP7.bel.alloc hP7.bel.size _) (by have := hP7.bel.size; rw [World.size_alloc]; omega) ?_; intro v1 w1 ho1 hb1 hg1 hat1; obtain ⟨B1, q1, rfl⟩ := ownk_form ho1)
              go_roundw
              case rel => exact ⟨n1, n, out ++ [⟨false, false, [c], [c]⟩], _, by go_num, by omega, by simp only [List.length_append, List.length_cons, List.length_nil]; omega, by omega, HF2, hP7.push (fun _ => ⟨g, rfl, ⟨by omega, by omega, fun e => by have := hown g e; omega⟩, hG2⟩) ho1 hb1 hg1 hat1⟩
              case measure => simp [intOf]; omega
    · have i0 : decide ((k : Int) < (s.size : Int)) = false := by rw [decide_eq_false_iff_not]; omega
      have hR : Hid (RES = some out) := by show _ = _; rw [← HF.out, show (bl s).drop k = [] from List.drop_eq_nil_of_le (by rw [bl_length]; omega), Gl.pieceA_nil]
      clear HF
      go_wp2_with fail
      go_ret2
      exact ⟨.inr ⟨out, _, by rw [hRES.out, hR.out], by first | rfl | (simp; done), cs, RC.own hP.own (fun g e => hP.own.lt g e), hP.pts.keep (fun g hs _ => ⟨rfl, hs.1, hs.2.1⟩)⟩, hP.bel⟩
end Go.Proofs.YtdjfakampjbgeaaGreatDoor
