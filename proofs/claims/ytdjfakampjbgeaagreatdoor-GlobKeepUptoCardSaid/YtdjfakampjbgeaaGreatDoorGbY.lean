/- glob.read, walked (printed by wip/gengby.py). -/
import Derived.Test.YtdjfakampjbgeaaGreatDoorGbU
import Derived.Test.YtdjfakampjbgeaaGreatDoorGbX
import Derived.Test.YtdjfakampjbgeaaGreatDoorMC
import Derived.Test.YtdjfakampjbgeaaGreatDoorGbL
namespace Go.Proofs.YtdjfakampjbgeaaGreatDoor
open Go.RowKit

theorem pieceK : ElemK Tryz.prog 53 91 (.agg #[.bool false, .slice none 0 0]) 2 32 := ⟨Tryz.underlying53, by kernel_rfl, rfl, by decide⟩
/-- a row of pieces in the making. -/
structure PsM (w : World) (out : List Gl.Pc) (vo : Value) (cs : List Value) (wr : World) : Prop where
  own : wr.ownsRow w.heap.size 91 2 vo out.length cs
  pcs : PcCells wr (Sx w wr vo) out cs
  bel : Below w.heap.size w wr
theorem PsM.grow {w wr wx : World} {out : List Gl.Pc} {vo : Value} {cs : List Value} (h : PsM w out vo cs wr) (hg : wr.grownBy wx none) : PsM w out vo cs wx := by
  refine ⟨h.own.kept hg (by cases vo.ownBlock <;> simp), h.pcs.keep (fun g hs hl => ⟨hg.block g hl (by simp), hs.1, Nat.lt_of_lt_of_le hl hg.size, hs.2.2⟩), h.bel.grown hg h.bel.size (fun k e => by cases e)⟩
theorem PsM.push {w wx w1 : World} {out : List Gl.Pc} {vo v1 vm : Value} {cs : List Value} {p : Gl.Pc} {o : Obj} (h : PsM w out vo cs wx) (hm : RM wx (Sx w wx vo) vm p.marks)
    (h1 : w1.ownsRow w.heap.size 91 2 v1 (out.length + 1) (cs ++ [.bool p.deep, vm])) (hb : Below w.heap.size w w1) (hg : (wx.alloc o).grownBy w1 vo.ownBlock) (hat : v1.ownBlock = vo.ownBlock ∨ v1.ownBlock = some (wx.alloc o).heap.size) :
    PsM w (out ++ [p]) v1 (cs ++ [.bool p.deep, vm]) w1 := by
  have hs := hg.size
  rw [World.size_alloc] at hs
  have hk : Lies wx w1 (Sx w wx vo) (Sx w w1 v1) := fun g hs' hlt => by
    refine ⟨(hg.block g (by rw [World.size_alloc]; omega) (fun e => hs'.2.2 e.symm)).trans (Below.heap_alloc wx o g hlt), hs'.1, by omega, fun e => ?_⟩
    rcases hat with a | a
    · exact hs'.2.2 (a.symm.trans e)
    · rw [a, World.size_alloc] at e
      injection e with e
      omega
  exact ⟨by rw [List.length_append]; exact h1, PcCells.snoc (hm.keep hk) (h.pcs.keep hk), hb⟩
theorem RM.nil (w : World) (S : Nat → Prop) : RM w S (.slice none 0 0) [] := ⟨[], ⟨none, 0, rfl, fun j u hu => by simp at hu⟩, rfl⟩
theorem toList_bs (l : List UInt8) : (bs l).toList = l := by rw [ByteArray.toList_eq]; rfl
/-- what read answers. -/
def ReadAns (p : List UInt8) (w w' : World) (e : Ending) : Prop :=
  (Gl.readL p = none ∧ e = .returned (.tuple #[.slice none 0 0, eno 24])) ∨
  (∃ ps v, Gl.readL p = some ps ∧ e = .returned (.tuple #[v, .nilIface]) ∧ RP w' (fun g => w.heap.size ≤ g ∧ g < w'.heap.size) v ps)
theorem readPiece_at (s : List UInt8) (hs : s.length ≤ 2000000) (w : World) : Calls Tryz.prog 51 #[.string (bs s)] w fun e w' => PieceAns (bs s) w w' e ∧ Below w.heap.size w w' :=
  readPiece_any (bs s) (by rw [bs_size]; exact hs) w
set_option maxRecDepth 100000 in
set_option maxHeartbeats 4000000 in
theorem read_pat (p : ByteArray) (hp : p.size ≤ 2000000) (w : World) (hmx : Maxl w) : Calls Tryz.prog 24 #[.string p] w fun e w' => ReadAns (bl p) w w' e ∧ Below w.heap.size w w' := by
  obtain ⟨l, hl⟩ : ∃ l, Gl.namesL (bl p) = l := ⟨_, rfl⟩
  have hll : l.length ≤ 2000001 := by have := Gl.namesL_length (bl p); rw [hl, bl_length] at this; omega
  have hx : Hid (∀ x ∈ l, x.length ≤ 2000000) := fun x hx => by
    rw [← hl] at hx
    have := Gl.namesL_piece hx
    rw [bl_length] at this
    omega
  have HL := Lib.hid hl
  go_enter Tryz.func24, Tryz.ntmps24
  go_wp2_with fail
  refine (names_any p _ (by omega) hmx).mono ?_
  rintro e w1 ⟨v, rfl, hv, hb1⟩
  rw [hl] at hv
  clear hl
  obtain ⟨An, cn, rfl⟩ := own_form hv
  have hQ1 : RC w1 (· < w1.heap.size) (.slice An l.length cn) l.length (sc l) := RC.own hv (fun g e => own_lt hv g e)
  clear hv
  by_cases hbig : 1020 < p.size
  · have t0 : decide ((1020 : Int) < (p.size : Int)) = true := by rw [decide_eq_true_eq]; omega
    have hR : Gl.readL (bl p) = none := by rw [Gl.readL, if_pos (.inl (by rw [bl_length]; exact hbig))]
    go_wp2_with fail
    go_ret2
    exact ⟨.inl ⟨hR, rfl⟩, hb1⟩
  · have t0 : decide ((1020 : Int) < (p.size : Int)) = false := by rw [decide_eq_false_iff_not]; omega
    by_cases hnil : l = []
    · have hR : Gl.readL (bl p) = none := by rw [Gl.readL, if_pos (.inr (by rw [HL.out]; exact hnil))]
      have t1 : ((l.length : Int) == 0) = true := by rw [hnil]; rfl
      clear hQ1 hnil
      go_wp2_with fail
      go_ret2
      exact ⟨.inl ⟨hR, rfl⟩, hb1⟩
    · have t1 : ((l.length : Int) == 0) = false := by simpa using hnil
      obtain ⟨RES, hRES⟩ : ∃ RES, Hid (Gl.readL (bl p) = RES) := ⟨_, rfl⟩
      have hF0 : Hid (Gl.readA l [] = RES) := by
        show _ = _
        rw [← hRES.out, Gl.readL, if_neg (by
          rintro (a | a)
          · rw [bl_length] at a; exact hbig a
          · rw [HL.out] at a; exact hnil a), HL.out]
      clear hnil
      have HQ1 := Lib.hid hQ1
      clear hQ1
      go_wp2_with fail
      go_loopw [5, 7, 8, 9, 23] (fun t5 _ _ _ t23 wr => ∃ (k : Nat) (out : List Gl.Pc) (cs : List Value), t23 = .int .i64 (k : Int) ∧ k ≤ l.length ∧ out.length = k ∧ Hid (Gl.readA (l.drop k) out = RES) ∧ PsM w1 out t5 cs wr) (fun _ _ _ _ t23 _ => l.length - (intOf t23).toNat)
      case atStart => exact ⟨0, [], [], rfl, by omega, rfl, by rw [List.drop_zero]; exact hF0, World.ownsRow_nil _ _ _ _, rfl, Below.refl _ _⟩
      case round =>
        clear hF0
        obtain ⟨k, out, cs, rfl, hk, hok, HF, hP⟩ := hrel
        obtain ⟨AA, cc, rfl⟩ := ownk_form hP.own
        have HOK := Lib.hid hok
        have hok1 : out.length ≤ 2000001 := by omega
        clear hok
        have j0 : (0 : Int) ≤ (k : Int) := by omega
        rcases Nat.lt_or_ge k l.length with hkn | hkn
        · have i0 : decide ((k : Int) < (l.length : Int)) = true := by rw [decide_eq_true_eq]; omega
          have i1 : (k : Int) < (l.length : Int) := by omega
          have hQ := (HQ1.out.keep (Lies.of_below hP.bel))
          obtain ⟨g, o, c, hvl, d0⟩ := hQ.str hkn
          obtain ⟨hA, hcc⟩ : An = some ⟨g, o, none⟩ ∧ cn = c := by injection hvl with e1 _ e3; exact ⟨e1, e3⟩
          subst hA hcc
          clear hvl hQ
          have hlx := hx.out _ (List.getElem_mem hkn)
          obtain ⟨x, hxe⟩ : ∃ x, l[k] = x := ⟨_, rfl⟩
          have hd : Hid (l.drop k = x :: l.drop (k + 1)) := by show _ = _; rw [List.drop_eq_getElem_cons hkn, hxe]
          rw [hxe] at d0 hlx
          clear hxe
          by_cases hdeep : x = [42, 42]
          · have t2 : ((bs x).toList == [42, 42]) = true := by rw [toList_bs, hdeep]; rfl
            have HF2 : Hid (Gl.readA (l.drop (k + 1)) (out ++ [⟨true, []⟩]) = RES) := by
              show _ = _
              rw [← HF.out, hd.out, Gl.readA, if_pos hdeep]
            clear HF hdeep
            go_wp2_with (at_builtin; refine wpList_appk rfl _ _ _ rfl pieceK _ _ _ _ rfl (hP.own.alloc _) _ _ _ _ rfl rfl (news_at _ _ (by simp) _ _) (by simp [Value.oneCell']) (by omega) (by omega) (hP.bel.alloc hP.bel.size _) (by have := hP.bel.size; rw [World.size_alloc]; omega) ?_; intro v1 w1 ho1 hb1 hg1 hat1; obtain ⟨B1, q1, rfl⟩ := ownk_form ho1)
            go_roundw
            case rel => exact ⟨k + 1, out ++ [⟨true, []⟩], _, by go_num, by omega, by simp only [List.length_append, List.length_cons, List.length_nil, HOK.out], HF2, hP.push (RM.nil _ _) ho1 hb1 hg1 hat1⟩
            case measure => simp [intOf]; omega
          · have t2 : ((bs x).toList == [42, 42]) = false := by rw [toList_bs]; simpa using hdeep
            go_wp2_with fail
            refine (readPiece_at x (by omega) _).mono ?_
            rintro e w7 ⟨hS, b7⟩
            have hP7 := hP.grow (grown_of_below b7 none)
            have hown := ownk_lt hP.own
            have hwr := hP.bel.size
            clear hP d0
            rcases hS with ⟨hno, rfl⟩ | ⟨ms, vm, hso, rfl, hRm⟩
            · rw [bl_bs] at hno
              have hR : RES = none := by rw [← HF.out, hd.out, Gl.readA, if_neg hdeep, hno]
              clear HF
              go_wp2_with fail
              go_ret2
              exact ⟨.inl ⟨by rw [hRES.out, hR], rfl⟩, below_of_below hb1 hP7.bel hb1.size⟩
            · rw [bl_bs] at hso
              have HF2 : Hid (Gl.readA (l.drop (k + 1)) (out ++ [⟨false, ms⟩]) = RES) := by
                show _ = _
                rw [← HF.out, hd.out, Gl.readA, if_neg hdeep, hso]
              have hkm : Lies w7 w7 (fun h => wr.heap.size ≤ h ∧ h < w7.heap.size) (Sx w1 w7 (.slice AA out.length cc)) := fun h hh hl => ⟨rfl, by have := hh.1; omega, hh.2, fun e => by have := hown h e; have := hh.1; omega⟩
              obtain ⟨A9, c9, rfl⟩ := hRm.form
              clear HF hdeep hso
              go_wp2_with (at_builtin; refine wpList_appk rfl _ _ _ rfl pieceK _ _ _ _ rfl (hP7.own.alloc _) _ _ _ _ rfl rfl (news_at _ _ (by simp) _ _) (by simp [Value.oneCell']) (by omega) (by omega) (hP7.bel.alloc hP7.bel.size _) (by have := hP7.bel.size; rw [World.size_alloc]; omega) ?_; intro v1 w1 ho1 hb1 hg1 hat1; obtain ⟨B1, q1, rfl⟩ := ownk_form ho1)
              go_roundw
              case rel => exact ⟨k + 1, out ++ [⟨false, ms⟩], _, by go_num, by omega, by simp only [List.length_append, List.length_cons, List.length_nil, HOK.out], HF2, hP7.push (hRm.keep hkm) ho1 hb1 hg1 hat1⟩
              case measure => simp [intOf]; omega
        · have i0 : decide ((k : Int) < (l.length : Int)) = false := by rw [decide_eq_false_iff_not]; omega
          have hR : RES = some out := by rw [← HF.out, List.drop_eq_nil_of_le hkn, Gl.readA]
          clear HF
          go_wp2_with fail
          go_ret2
          have h1s := hb1.size
          exact ⟨.inr ⟨out, _, by rw [hRES.out, hR], rfl, cs, RC.own hP.own (fun g e => ⟨by have := (hP.own.lt g e).1; omega, (hP.own.lt g e).2⟩), hP.pcs.keep (fun g hs _ => ⟨rfl, by have := hs.1; omega, hs.2.1⟩)⟩, below_of_below hb1 hP.bel hb1.size⟩
end Go.Proofs.YtdjfakampjbgeaaGreatDoor
