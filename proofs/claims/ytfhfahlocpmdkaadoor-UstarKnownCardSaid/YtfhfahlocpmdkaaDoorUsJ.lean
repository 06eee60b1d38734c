/- What ustar.Decode holds in memory while it reads the numbers; ustar.text and block.sum once more. -/
import Derived.Test.YtfhfahlocpmdkaaDoorUsO
namespace Go.Proofs.YtfhfahlocpmdkaaDoor
open Go.RowKit

theorem text_x (s : ByteArray) (a b : Nat) (w : World) : Calls Tryd.prog 48 #[.string (s.extract a b)] w fun e w' => e = .returned (.string (bs (xt s a b))) ∧ w = w' := by
  have := text_any (s.extract a b) w
  rwa [bl_extract] at this
theorem value_x (s : ByteArray) (a b : Nat) (w : World) (hab : b ≤ a + 12) {U : Option Nat} (h : Hid (Us.value (Us.cut (bl s) a b) = U)) :
    Calls Tryd.prog 49 #[.string (s.extract a b)] w fun e w' => (∃ x : Int, e = .returned (.tuple #[.int .i64 x, .bool U.isSome]) ∧ ∀ v, U = some v → x = (v : Int)) ∧ Below w.heap.size w w' := by
  have := value_any (s.extract a b) w (by rw [ByteArray.size_extract]; omega)
  rw [bl_extract] at this
  rwa [show ((bl s).drop a).take (b - a) = Us.cut (bl s) a b from rfl, h.out] at this
/-- it has only drawn. -/
def Drawn (w w' : World) : Prop := ∃ q, w' = w.drewN q
theorem Drawn.more {w w' : World} (h : Drawn w w') (n : Nat) : Drawn w (w'.drewN n) := by
  obtain ⟨q, rfl⟩ := h
  exact ⟨_, World.drewN_drewN _ _ _⟩
set_option maxHeartbeats 2000000 in
/-- b.sum(): it only draws. -/
theorem blockSum_q (g : Nat) (t : TypeId) (L : List UInt8) (w : World) (hL : L.length = 512) (hB : Blk w g t (bc L).toArray) {U : Int} (hU : Hid (U = (Us.sumFrom 0 L : Nat))) :
    Calls Tryd.prog 44 #[.pointer (some ⟨g, 0, none⟩)] w fun e w' => e = .returned (.int .i64 U) ∧ Drawn w w' := by
  obtain ⟨R, hR⟩ : ∃ R, R = Us.sumFrom 0 L := ⟨_, rfl⟩
  have HU : Hid (U = (R : Int)) := by show _ = _; rw [hU.out, hR]
  have HR := Lib.hid hR
  have hle : R ≤ 255 * 512 := by rw [hR, ← hL]; exact Us.sumFrom_le L 0
  clear hR hU
  have hcell : ∀ wr, Drawn w wr → ∀ i (hi : i < L.length), wr.cell? ⟨g, i, none⟩ = some (.int .u8 ((L[i]).toNat : Int)) := fun wr ⟨q, hq⟩ i hi => by
    subst hq
    have := hB.cell i
    show w.cell? ⟨g, i, none⟩ = _
    rw [this]; simp [bc, hi]
  have HC := Lib.hid hcell
  clear hcell hB
  go_enter Tryd.func44, Tryd.ntmps44
  go_wp2_with fail
  go_loopw [3, 7] (fun v i wr => ∃ k acc : Nat, k ≤ 512 ∧ i = .int .i64 (k : Int) ∧ v = .int .i64 (acc : Int) ∧ acc ≤ R ∧ Drawn w wr ∧ Hid (R = acc + Us.sumFrom k (L.drop k))) (fun _ i _ => 512 - (intOf i).toNat)
  case atStart => exact ⟨0, 0, by omega, rfl, rfl, by omega, ⟨0, rfl⟩, by show _ = _; rw [Nat.zero_add]; exact HR.out⟩
  case round =>
    obtain ⟨k, acc, hk, rfl, rfl, hacc, hw, hrec⟩ := hrel
    clear HR
    by_cases hk5 : k < 512
    · have hkL : k < L.length := by omega
      have hc := HC.out _ hw k hkL
      have hb : (L[k]).toNat < 256 := (L[k]).toNat_lt
      have h0 : (0 : Int) ≤ (k : Int) := by omega
      have h1 : (k : Int) < 512 := by omega
      by_cases h2 : 148 ≤ k ∧ k < 156
      · have HV : Hid (R = (acc + 32) + Us.sumFrom (k + 1) (L.drop (k + 1))) := by
          show _ = _
          rw [hrec.out, sum_snoc L k hkL, if_pos h2, Nat.add_assoc]
        have hle2 : acc + 32 ≤ R := by have := HV.out; omega
        have d1 : decide ((148 : Int) ≤ (k : Int)) = true := by simp; omega
        have d2 : decide ((k : Int) < 156) = true := by simp; omega
        clear h2
        go_wp2_with fail
        go_quiet (fail)
        go_wp2_with fail
        go_roundw
        case rel => exact ⟨k + 1, acc + 32, by omega, by go_num, by go_num, hle2, hw.more _, HV⟩
        case measure => simp [intOf]; omega
      · have HV : Hid (R = (acc + (L[k]).toNat) + Us.sumFrom (k + 1) (L.drop (k + 1))) := by
          show _ = _
          rw [hrec.out, sum_snoc L k hkL, if_neg h2, Nat.add_assoc]
        have hle2 : acc + (L[k]).toNat ≤ R := by have := HV.out; omega
        have hp : k < 148 ∨ (148 ≤ k ∧ 156 ≤ k) := by omega
        clear h2
        rcases hp with h2 | ⟨h2, h3⟩
        · have d1 : decide ((148 : Int) ≤ (k : Int)) = false := by simp; omega
          go_wp2_with fail
          go_quiet (fail)
          go_wp2_with fail
          go_roundw
          case rel => exact ⟨k + 1, acc + (L[k]).toNat, by omega, by go_num, by go_num, hle2, hw.more _, HV⟩
          case measure => simp [intOf]; omega
        · have d1 : decide ((148 : Int) ≤ (k : Int)) = true := by simp; omega
          have d2 : decide ((k : Int) < 156) = false := by simp; omega
          go_wp2_with fail
          go_quiet (fail)
          go_wp2_with fail
          go_roundw
          case rel => exact ⟨k + 1, acc + (L[k]).toNat, by omega, by go_num, by go_num, hle2, hw.more _, HV⟩
          case measure => simp [intOf]; omega
    · have hke : k = 512 := by omega
      subst hke
      have HV : Hid (R = acc) := by
        show _ = _
        rw [hrec.out, List.drop_of_length_le (by omega), Us.sumFrom, Nat.add_zero]
      go_wp2_with fail
      go_ret
      exact ⟨by rw [HU.out, HV.out]; rfl, hw⟩

theorem Blk.far {w : World} {g : Nat} {t : TypeId} {cs : Array Value} (h : Blk w g t cs) {p : Addr} (hp : g ≠ p.block) (u : Value) : Blk (w.setCell p u) g t cs := (Below.heap_setCell w p u g hp).trans h
/-- where the k-th number goes. -/
def ptrs (g5 g6 : Nat) : List Addr := [⟨g5, 1, none⟩, ⟨g5, 2, none⟩, ⟨g5, 3, none⟩, ⟨g5, 4, none⟩, ⟨g5, 5, none⟩, ⟨g6, 0, none⟩, ⟨g5, 10, none⟩, ⟨g5, 11, none⟩]
def rowsOf (g5 g6 : Nat) : List Value := [.int .i64 100, .int .i64 108, .pointer (some ⟨g5, 1, none⟩), .int .i64 108, .int .i64 116, .pointer (some ⟨g5, 2, none⟩), .int .i64 116, .int .i64 124, .pointer (some ⟨g5, 3, none⟩), .int .i64 124, .int .i64 136, .pointer (some ⟨g5, 4, none⟩), .int .i64 136, .int .i64 148, .pointer (some ⟨g5, 5, none⟩), .int .i64 148, .int .i64 156, .pointer (some ⟨g6, 0, none⟩), .int .i64 329, .int .i64 337, .pointer (some ⟨g5, 10, none⟩), .int .i64 337, .int .i64 345, .pointer (some ⟨g5, 11, none⟩)]
def fillH (H : Us.Hd) (acc : List Nat) : Us.Hd := { H with mode := (acc.getD 0 0 : Nat), uid := (acc.getD 1 0 : Nat), gid := (acc.getD 2 0 : Nat), size := (acc.getD 3 0 : Nat), time := (acc.getD 4 0 : Nat), major := (acc.getD 6 0 : Nat), minor := (acc.getD 7 0 : Nat) }
structure DS (w0 w : World) (g gB g5 g6 g7 : Nat) (H : Us.Hd) (L : List UInt8) (acc : List Nat) : Prop where
  res : Blk w g 23 (hdC Us.hd0)
  byt : Blk w gB 67 (bc L).toArray
  hd : Blk w g5 23 (hdC (fillH H acc))
  sum : Blk w g6 2 #[.int .i64 (acc.getD 5 0 : Nat)]
  tab : ∀ (j : Nat) (v : Value), (rowsOf g5 g6)[j]? = some v → w.cell? ⟨g7, j, none⟩ = some v
  below : Below g w0 w
  o1 : g < gB
  o2 : gB < g5
  o3 : g5 < g6
  o4 : g6 < g7
  o5 : g7 < w.heap.size
section
variable {w0 w w' : World} {g gB g5 g6 g7 : Nat} {H : Us.Hd} {L : List UInt8} {acc : List Nat}
theorem DS.keep (h : DS w0 w g gB g5 g6 g7 H L acc) (hb : Below w.heap.size w w') : DS w0 w' g gB g5 g6 g7 H L acc := by
  have := h.o1; have := h.o2; have := h.o3; have := h.o4; have := h.o5; have := hb.size
  exact ⟨h.res.below hb (by omega), h.byt.below hb (by omega), h.hd.below hb (by omega), h.sum.below hb (by omega), fun j v hj => (hb.cell (p := ⟨g7, j, none⟩) h.o5).trans (h.tab j v hj), h.below.trans (hb.mono (by omega)), h.o1, h.o2, h.o3, h.o4, by omega⟩
theorem DS.drewN (h : DS w0 w g gB g5 g6 g7 H L acc) (n : Nat) : DS w0 (w.drewN n) g gB g5 g6 g7 H L acc :=
  ⟨h.res.drewN n, h.byt.drewN n, h.hd.drewN n, h.sum.drewN n, fun j v hj => h.tab j v hj, below_drewN h.below n, h.o1, h.o2, h.o3, h.o4, h.o5⟩
theorem DS.drew (h : DS w0 w g gB g5 g6 g7 H L acc) : DS w0 w.drew g gB g5 g6 g7 H L acc := by have := h.drewN 1; exact this
/-- the k-th row, and what stands where its number goes. -/
theorem DS.row (h : DS w0 w g gB g5 g6 g7 H L acc) {k : Nat} (hk : k < 8) : ∃ (a b : Nat) (p : Addr) (x : Int), (ptrs g5 g6)[k]? = some p ∧ Us.froms.drop k = (a, b) :: Us.froms.drop (k + 1) ∧ a ≤ b ∧ b ≤ 512 ∧ b ≤ a + 12 ∧
    w.cell? ⟨g7, k * 3, none⟩ = some (.int .i64 (a : Int)) ∧ w.cell? ⟨g7, k * 3 + 1, none⟩ = some (.int .i64 (b : Int)) ∧ w.cell? ⟨g7, k * 3 + 2, none⟩ = some (.pointer (some p)) ∧ w.cell? p = some (.int .i64 x) ∧ w.frozen? p = false ∧ p.block < w.heap.size := by
  have := h.o1; have := h.o2; have := h.o3; have := h.o4; have := h.o5
  rcases (show k = 0 ∨ k = 1 ∨ k = 2 ∨ k = 3 ∨ k = 4 ∨ k = 5 ∨ k = 6 ∨ k = 7 by omega) with rfl | rfl | rfl | rfl | rfl | rfl | rfl | rfl
  · exact ⟨100, 108, _, _, rfl, rfl, by decide, by decide, by decide, h.tab 0 _ rfl, h.tab 1 _ rfl, h.tab 2 _ rfl, h.hd.cell 1, h.hd.frozen 1, by show g5 < _; omega⟩
  · exact ⟨108, 116, _, _, rfl, rfl, by decide, by decide, by decide, h.tab 3 _ rfl, h.tab 4 _ rfl, h.tab 5 _ rfl, h.hd.cell 2, h.hd.frozen 2, by show g5 < _; omega⟩
  · exact ⟨116, 124, _, _, rfl, rfl, by decide, by decide, by decide, h.tab 6 _ rfl, h.tab 7 _ rfl, h.tab 8 _ rfl, h.hd.cell 3, h.hd.frozen 3, by show g5 < _; omega⟩
  · exact ⟨124, 136, _, _, rfl, rfl, by decide, by decide, by decide, h.tab 9 _ rfl, h.tab 10 _ rfl, h.tab 11 _ rfl, h.hd.cell 4, h.hd.frozen 4, by show g5 < _; omega⟩
  · exact ⟨136, 148, _, _, rfl, rfl, by decide, by decide, by decide, h.tab 12 _ rfl, h.tab 13 _ rfl, h.tab 14 _ rfl, h.hd.cell 5, h.hd.frozen 5, by show g5 < _; omega⟩
  · exact ⟨148, 156, _, _, rfl, rfl, by decide, by decide, by decide, h.tab 15 _ rfl, h.tab 16 _ rfl, h.tab 17 _ rfl, h.sum.cell 0, h.sum.frozen 0, by show g6 < _; omega⟩
  · exact ⟨329, 337, _, _, rfl, rfl, by decide, by decide, by decide, h.tab 18 _ rfl, h.tab 19 _ rfl, h.tab 20 _ rfl, h.hd.cell 10, h.hd.frozen 10, by show g5 < _; omega⟩
  · exact ⟨337, 345, _, _, rfl, rfl, by decide, by decide, by decide, h.tab 21 _ rfl, h.tab 22 _ rfl, h.tab 23 _ rfl, h.hd.cell 11, h.hd.frozen 11, by show g5 < _; omega⟩
theorem fillH_nil (H : Us.Hd) (h : H.mode = 0 ∧ H.uid = 0 ∧ H.gid = 0 ∧ H.size = 0 ∧ H.time = 0 ∧ H.major = 0 ∧ H.minor = 0) : fillH H [] = H := by
  obtain ⟨h1, h2, h3, h4, h5, h6, h7⟩ := h
  cases H
  simp_all [fillH]
theorem setCell_size (w : World) (p : Addr) (v : Value) : (w.setCell p v).heap.size = w.heap.size := by simp
/-- the k-th number is stored. -/
theorem DS.step (h : DS w0 w g gB g5 g6 g7 H L acc) {k : Nat} (hk : k < 8) (hl : acc.length = k) {p : Addr} (hp : (ptrs g5 g6)[k]? = some p) (v : Nat) : DS w0 (w.setCell p (.int .i64 (v : Int))) g gB g5 g6 g7 H L (acc ++ [v]) := by
  obtain ⟨h1, h2, h3, h4, h5, h6, o1, o2, o3, o4, o5⟩ := h
  have tab' : ∀ (q : Addr), q.block < g7 → ∀ (j : Nat) (u : Value), (rowsOf g5 g6)[j]? = some u → (w.setCell q (.int .i64 (v : Int))).cell? ⟨g7, j, none⟩ = some u := fun q hq j u hj => (World.cell?_setCell_other _ _ _ _ (fun e => by have := congrArg Addr.block e; simp at this; omega)).trans (h5 j u hj)
  rcases (show k = 0 ∨ k = 1 ∨ k = 2 ∨ k = 3 ∨ k = 4 ∨ k = 5 ∨ k = 6 ∨ k = 7 by omega) with rfl | rfl | rfl | rfl | rfl | rfl | rfl | rfl
  case inr.inr.inr.inr.inr.inl =>
    obtain rfl := Option.some.inj hp
    match acc, hl with
    | [a, b, c, d, e], _ => exact ⟨h1.far (by show g ≠ g6; omega) _, h2.far (by show gB ≠ g6; omega) _, h3.far (by show g5 ≠ g6; omega) _, h4.set_ 0 _, tab' _ (by show g6 < g7; omega), h6.setCell (by show g ≤ g6; omega) _, o1, o2, o3, o4, by rw [setCell_size]; exact o5⟩
  · obtain rfl := Option.some.inj hp
    match acc, hl with
    | [], _ => exact ⟨h1.far (by show g ≠ g5; omega) _, h2.far (by show gB ≠ g5; omega) _, by have e := h3.set_ 1 (.int .i64 (v : Int)); simp only [hdC, fillH, List.setIfInBounds_toArray, List.set_cons_zero, List.set_cons_succ] at e ⊢; exact e, h4.far (by show g6 ≠ g5; omega) _, tab' _ (by show g5 < g7; omega), h6.setCell (by show g ≤ g5; omega) _, o1, o2, o3, o4, by rw [setCell_size]; exact o5⟩
  · obtain rfl := Option.some.inj hp
    match acc, hl with
    | [x0], _ => exact ⟨h1.far (by show g ≠ g5; omega) _, h2.far (by show gB ≠ g5; omega) _, by have e := h3.set_ 2 (.int .i64 (v : Int)); simp only [hdC, fillH, List.setIfInBounds_toArray, List.set_cons_zero, List.set_cons_succ] at e ⊢; exact e, h4.far (by show g6 ≠ g5; omega) _, tab' _ (by show g5 < g7; omega), h6.setCell (by show g ≤ g5; omega) _, o1, o2, o3, o4, by rw [setCell_size]; exact o5⟩
  · obtain rfl := Option.some.inj hp
    match acc, hl with
    | [x0, x1], _ => exact ⟨h1.far (by show g ≠ g5; omega) _, h2.far (by show gB ≠ g5; omega) _, by have e := h3.set_ 3 (.int .i64 (v : Int)); simp only [hdC, fillH, List.setIfInBounds_toArray, List.set_cons_zero, List.set_cons_succ] at e ⊢; exact e, h4.far (by show g6 ≠ g5; omega) _, tab' _ (by show g5 < g7; omega), h6.setCell (by show g ≤ g5; omega) _, o1, o2, o3, o4, by rw [setCell_size]; exact o5⟩
  · obtain rfl := Option.some.inj hp
    match acc, hl with
    | [x0, x1, x2], _ => exact ⟨h1.far (by show g ≠ g5; omega) _, h2.far (by show gB ≠ g5; omega) _, by have e := h3.set_ 4 (.int .i64 (v : Int)); simp only [hdC, fillH, List.setIfInBounds_toArray, List.set_cons_zero, List.set_cons_succ] at e ⊢; exact e, h4.far (by show g6 ≠ g5; omega) _, tab' _ (by show g5 < g7; omega), h6.setCell (by show g ≤ g5; omega) _, o1, o2, o3, o4, by rw [setCell_size]; exact o5⟩
  · obtain rfl := Option.some.inj hp
    match acc, hl with
    | [x0, x1, x2, x3], _ => exact ⟨h1.far (by show g ≠ g5; omega) _, h2.far (by show gB ≠ g5; omega) _, by have e := h3.set_ 5 (.int .i64 (v : Int)); simp only [hdC, fillH, List.setIfInBounds_toArray, List.set_cons_zero, List.set_cons_succ] at e ⊢; exact e, h4.far (by show g6 ≠ g5; omega) _, tab' _ (by show g5 < g7; omega), h6.setCell (by show g ≤ g5; omega) _, o1, o2, o3, o4, by rw [setCell_size]; exact o5⟩
  · obtain rfl := Option.some.inj hp
    match acc, hl with
    | [x0, x1, x2, x3, x4, x5], _ => exact ⟨h1.far (by show g ≠ g5; omega) _, h2.far (by show gB ≠ g5; omega) _, by have e := h3.set_ 10 (.int .i64 (v : Int)); simp only [hdC, fillH, List.setIfInBounds_toArray, List.set_cons_zero, List.set_cons_succ] at e ⊢; exact e, h4.far (by show g6 ≠ g5; omega) _, tab' _ (by show g5 < g7; omega), h6.setCell (by show g ≤ g5; omega) _, o1, o2, o3, o4, by rw [setCell_size]; exact o5⟩
  · obtain rfl := Option.some.inj hp
    match acc, hl with
    | [x0, x1, x2, x3, x4, x5, x6], _ => exact ⟨h1.far (by show g ≠ g5; omega) _, h2.far (by show gB ≠ g5; omega) _, by have e := h3.set_ 11 (.int .i64 (v : Int)); simp only [hdC, fillH, List.setIfInBounds_toArray, List.set_cons_zero, List.set_cons_succ] at e ⊢; exact e, h4.far (by show g6 ≠ g5; omega) _, tab' _ (by show g5 < g7; omega), h6.setCell (by show g ≤ g5; omega) _, o1, o2, o3, o4, by rw [setCell_size]; exact o5⟩
end
end Go.Proofs.YtfhfahlocpmdkaaDoor
