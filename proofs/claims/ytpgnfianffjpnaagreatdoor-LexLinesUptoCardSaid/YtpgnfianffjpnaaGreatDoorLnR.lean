/- What lex.Lines answers, read cell by cell. -/
import Derived.Test.YtpgnfianffjpnaaGreatDoorLxY
import Derived.Test.YtpgnfianffjpnaaGreatDoorLxT
import Derived.Test.YtpgnfianffjpnaaGreatDoorLwA
namespace Go.Proofs.YtpgnfianffjpnaaGreatDoor
open Go Go.RowKit
/-- a slice of lines that reads so. -/
def LsRd (w : World) (v : Value) (ls : List Lx.Ln) : Prop := ∃ A c, v = .slice A ls.length c ∧ ∀ i (h : i < ls.length), ∃ b o vm vd, A = some ⟨b, o, none⟩ ∧ w.cell? ⟨b, o + i * 4, none⟩ = some (.int .i64 ls[i].line) ∧ w.cell? ⟨b, o + i * 4 + 1, none⟩ = some (.string (bs ls[i].text)) ∧
  w.cell? ⟨b, o + i * 4 + 2, none⟩ = some vm ∧ w.cell? ⟨b, o + i * 4 + 3, none⟩ = some vd ∧ RdRow w vm ls[i].marks.length (mkC ls[i].marks) ∧ RdRow w vd ls[i].docs.length (dcC ls[i].docs)
theorem cell_new {w w' : World} {b o : Nat} {v : Value} (k : Below w.heap.size w w') (h : w.cell? ⟨b, o, none⟩ = some v) : w'.cell? ⟨b, o, none⟩ = some v := by
  rw [← h]; exact k.cell (p := ⟨b, o, none⟩) (World.block_lt_of_cell? w _ h)
theorem LsRd.new {w w' : World} {v : Value} {ls : List Lx.Ln} (h : LsRd w v ls) (k : Below w.heap.size w w') : LsRd w' v ls := by
  obtain ⟨A, c, rfl, hc⟩ := h
  refine ⟨A, c, rfl, fun i hi => ?_⟩
  obtain ⟨b, o, vm, vd, rfl, h0, h1, h2, h3, h4, h5⟩ := hc i hi
  exact ⟨b, o, vm, vd, rfl, cell_new k h0, cell_new k h1, cell_new k h2, cell_new k h3, h4.new k, h5.new k⟩
theorem LnOwn.get {w : World} : ∀ {ls : List Lx.Ln} {lo hi : Nat} {cs : List Value}, LnOwn w lo hi ls cs → ∀ i (h : i < ls.length), ∃ vm vd, cs[i * 4]? = some (.int .i64 ls[i].line) ∧ cs[i * 4 + 1]? = some (.string (bs ls[i].text)) ∧ cs[i * 4 + 2]? = some vm ∧ cs[i * 4 + 3]? = some vd ∧
    RdRow w vm ls[i].marks.length (mkC ls[i].marks) ∧ RdRow w vd ls[i].docs.length (dcC ls[i].docs)
  | [], _, _, _, _, i, h => absurd h (by simp)
  | l :: ls, _, _, _, ⟨vm, vd, m, r, e, _, h2, _, h4, _, h6⟩, 0, _ => ⟨vm, vd, by rw [e]; rfl, by rw [e]; rfl, by rw [e]; rfl, by rw [e]; rfl, RdRow.own h2, RdRow.own h4⟩
  | l :: ls, _, _, _, ⟨vm, vd, m, r, e, _, h2, _, h4, _, h6⟩, i + 1, h => by
    obtain ⟨vm', vd', q0, q1, q2, q3, q4, q5⟩ := h6.get i (by simpa using h)
    refine ⟨vm', vd', ?_, ?_, ?_, ?_, q4, q5⟩
    · rw [e, show (i + 1) * 4 = i * 4 + 4 by omega]; simpa using q0
    · rw [e, show (i + 1) * 4 + 1 = i * 4 + 1 + 4 by omega]; simpa using q1
    · rw [e, show (i + 1) * 4 + 2 = i * 4 + 2 + 4 by omega]; simpa using q2
    · rw [e, show (i + 1) * 4 + 3 = i * 4 + 3 + 4 by omega]; simpa using q3
theorem lns_err {w w' : World} {z : Lx.Err} {r : Ending} (h : LnsAns w w' (.inl z) r) : r = .returned (.tuple #[.int .u8 0, .slice none 0 0, eFault (z.1 : Int) z.2.1 z.2.2]) := h
theorem lns_ok {w w' : World} {e : UInt8} {ls : List Lx.Ln} {r : Ending} (h : LnsAns w w' (.inr (e, ls)) r) : ∃ A c, r = .returned (.tuple #[.int .u8 (e.toNat : Int), .slice A ls.length c, .nilIface]) ∧ LsRd w' (.slice A ls.length c) ls := by
  obtain ⟨v, cs, hr, ho, hl⟩ := h
  obtain ⟨A, c, rfl, hc⟩ := RdRow.own ho
  refine ⟨A, c, hr, A, c, rfl, fun i hi => ?_⟩
  obtain ⟨vm, vd, q0, q1, q2, q3, q4, q5⟩ := hl.get i hi
  obtain ⟨b, o, rfl, d0⟩ := hc _ _ q0
  obtain ⟨b1, o1, e1, d1⟩ := hc _ _ q1
  injection e1 with e1; injection e1 with x1 y1; subst x1 y1
  obtain ⟨b1, o1, e1, d2⟩ := hc _ _ q2
  injection e1 with e1; injection e1 with x1 y1; subst x1 y1
  obtain ⟨b1, o1, e1, d3⟩ := hc _ _ q3
  injection e1 with e1; injection e1 with x1 y1; subst x1 y1
  exact ⟨b, o, vm, vd, rfl, d0, by rw [Nat.add_assoc]; exact d1, by rw [Nat.add_assoc]; exact d2, by rw [Nat.add_assoc]; exact d3, q4, q5⟩
theorem LsRd.form {w : World} {v : Value} {ls : List Lx.Ln} (h : LsRd w v ls) : ∃ A c, v = .slice A ls.length c := by
  obtain ⟨A, c, e, _⟩ := h
  exact ⟨A, c, e⟩
theorem LsRd.at {w : World} {A : Option Addr} {n c : Nat} {ls : List Lx.Ln} (h : LsRd w (.slice A n c) ls) (i : Nat) (hi : i < ls.length) : ∃ b o vm Ad cd, A = some ⟨b, o, none⟩ ∧ w.cell? ⟨b, o + i * 4, none⟩ = some (.int .i64 ls[i].line) ∧ w.cell? ⟨b, o + i * 4 + 1, none⟩ = some (.string (bs ls[i].text)) ∧ w.cell? ⟨b, o + i * 4 + 2, none⟩ = some vm ∧
    w.cell? ⟨b, o + i * 4 + 3, none⟩ = some (.slice Ad ls[i].docs.length cd) ∧ RdRow w vm ls[i].marks.length (mkC ls[i].marks) ∧ RdRow w (.slice Ad ls[i].docs.length cd) ls[i].docs.length (dcC ls[i].docs) := by
  obtain ⟨A', c', e, hc⟩ := h
  injection e with e1 _ e3
  subst e1 e3
  obtain ⟨b, o, vm, vd, rfl, h0, h1, h2, h3, h4, h5⟩ := hc i hi
  obtain ⟨Ad, cd, rfl⟩ := h5.form
  exact ⟨b, o, vm, Ad, cd, rfl, h0, h1, h2, h3, h4, h5⟩
/-- a list of one line. -/
theorem LsRd.one {w : World} {A : Option Addr} {c : Nat} {ln : Lx.Ln} (h : LsRd w (.slice A 1 c) [ln]) : ∃ b o vm Ad cd, A = some ⟨b, o, none⟩ ∧ w.cell? ⟨b, o, none⟩ = some (.int .i64 ln.line) ∧ w.cell? ⟨b, o + 1, none⟩ = some (.string (bs ln.text)) ∧ w.cell? ⟨b, o + 2, none⟩ = some vm ∧ w.cell? ⟨b, o + 3, none⟩ = some (.slice Ad ln.docs.length cd) := by
  obtain ⟨A', c', e, hc⟩ := h
  injection e with e1 _ e3
  subst e1 e3
  obtain ⟨b, o, vm, vd, rfl, h0, h1, h2, h3, h4, h5⟩ := hc 0 (by simp)
  obtain ⟨Ad, cd, rfl⟩ := h5.form
  exact ⟨b, o, vm, Ad, cd, rfl, by simpa using h0, by simpa using h1, by simpa using h2, by simpa using h3⟩
/-- the laws' last word. -/
structure Env (w : World) : Prop where
  tabs : Tabs w
  err : ErrVar w
  max : Maxl w
theorem Env.new {w w' : World} (h : Env w) (k : Below w.heap.size w w') : Env w' := ⟨h.tabs.new k, h.err.below k h.err.lt, h.max.grow k⟩
theorem lines_call (s : List UInt8) (hs : s.length ≤ 2000000) (w : World) (h : Env w) {RES : Lx.Err ⊕ (UInt8 × List Lx.Ln)} (H : Hid (Lx.linesL s = RES)) : Calls Tryz.prog 9 #[.string (bs s)] w fun r w' => LnsAns w w' RES r ∧ Below w.heap.size w w' :=
  lexLines_any s hs w h.tabs h.err h.max H
theorem works_call (w : World) (h : Env w) : Calls Tryz.prog 15 #[] w fun e w' => e = .returned (.bool true) ∧ Below w.heap.size w w' := works_any w h.tabs h.err h.max
theorem bs_app (a b : List UInt8) : bs a ++ bs b = bs (a ++ b) := by
  apply ByteArray.ext
  simp [bs]
end Go.Proofs.YtpgnfianffjpnaaGreatDoor
