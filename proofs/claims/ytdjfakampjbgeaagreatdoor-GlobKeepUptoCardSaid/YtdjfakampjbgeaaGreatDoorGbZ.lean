/- glob.Match, walked. -/
import Derived.Test.YtdjfakampjbgeaaGreatDoorGbY
namespace Go.Proofs.YtdjfakampjbgeaaGreatDoor
open Go.RowKit

theorem takesAll_at (ps : List Gl.Pc) (l : List (List UInt8)) (b : Bool) (H : Hid (Gl.takesAll ps l = b)) (vp vl : Value) (w : World) {S S2 : Nat → Prop} (hp : RP w S vp ps) (hq : RC w S2 vl l.length (sc l)) (hl : ps.length ≤ 2000000) (hs : l.length ≤ 10000000) (hf : PcB ps) (hg : ∀ x ∈ l, x.length ≤ 2000000) :
    Calls Tryz.prog 54 #[vp, vl] w fun e w' => e = .returned (.bool b) ∧ Below w.heap.size w w' := by
  rw [← H.out]
  exact takesAll_any ps l vp vl w hp hq hl hs hf hg
/-- what Match answers. -/
def matchE (r : Option Bool) : Value := match r with
  | some b => .tuple #[.bool b, .nilIface]
  | none => .tuple #[.bool false, eno 24]
set_option maxRecDepth 100000 in
set_option maxHeartbeats 4000000 in
theorem match_any (pat p : ByteArray) (h1 : pat.size ≤ 1100000) (h2 : p.size ≤ 1100000) (w : World) (hmx : Maxl w) : Calls Tryz.prog 26 #[.string pat, .string p] w fun e w' => e = .returned (matchE (Gl.matchL (bl pat) (bl p))) ∧ Below w.heap.size w w' := by
  obtain ⟨RES, hRES⟩ : ∃ RES, Hid (Gl.matchL (bl pat) (bl p) = RES) := ⟨_, rfl⟩
  rw [hRES.out]
  go_enter Tryz.func26, Tryz.ntmps26
  go_wp2_with fail
  refine (read_pat pat (by omega) _ hmx).mono ?_
  rintro e w1 ⟨hS, b1⟩
  rcases hS with ⟨hno, rfl⟩ | ⟨ps, v, hso, rfl, hP⟩
  · have hR : RES = none := by rw [← hRES.out, Gl.matchL, hno]; rfl
    go_wp2_with fail
    go_ret2
    exact ⟨by rw [hR]; rfl, b1⟩
  · have hlen := Gl.readL_len hso
    have hn1 := Gl.namesL_length (bl pat)
    rw [bl_length] at hn1
    have hB : Hid (PcB ps) := fun q hq => by
      have := hlen.1 q hq
      rw [bl_length] at this
      exact ⟨by omega, fun m hm => by have := this.2 m hm; omega⟩
    have hpl : ps.length ≤ 2000000 := by omega
    have hR : Hid (RES = some (Gl.takesAll ps (Gl.namesL (bl p)))) := by show _ = _; rw [← hRES.out, Gl.matchL, hso]; rfl
    clear hlen hso hn1 hRES
    obtain ⟨l, hl⟩ : ∃ l, Gl.namesL (bl p) = l := ⟨_, rfl⟩
    have hll : l.length ≤ 10000000 := by have := Gl.namesL_length (bl p); rw [hl, bl_length] at this; omega
    have hx : Hid (∀ x ∈ l, x.length ≤ 2000000) := fun x hx => by
      rw [← hl] at hx
      have := Gl.namesL_piece hx
      rw [bl_length] at this
      omega
    have hm1 := hmx.below b1 hmx.lt
    obtain ⟨b, hb⟩ : ∃ b, Hid (Gl.takesAll ps l = b) := ⟨_, rfl⟩
    have hR2 : Hid (RES = some b) := by show _ = _; rw [hR.out, hl, hb.out]
    obtain ⟨A0, c0, rfl⟩ := hP.form
    clear hR
    go_wp2_with fail
    refine (names_any p _ (by omega) hm1).mono ?_
    rintro e w2 ⟨vn, rfl, hv, b2⟩
    rw [hl] at hv
    clear hl
    have hQ : RC w2 (· < w2.heap.size) vn l.length (sc l) := RC.own hv (fun g e => own_lt hv g e)
    have hP2 := hP.below b2
    have B2 := below_of_below b1 b2 b1.size
    clear b2 hv hP
    go_wp2_with fail
    refine (takesAll_at ps l b hb _ _ _ hP2 hQ hpl hll hB.out hx.out).mono ?_
    rintro e w3 ⟨rfl, b3⟩
    go_wp2_with fail
    go_ret2
    exact ⟨by rw [hR2.out]; rfl, below_of_below B2 b3 B2.size⟩
end Go.Proofs.YtdjfakampjbgeaaGreatDoor
