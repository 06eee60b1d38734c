/- ustar's leaves, walked: number, sum. -/
import Derived.Test.YtfhfahlocpmdkaaDoorProg
import Derived.Test.YtfhfahlocpmdkaaDoorOwn
import Derived.Test.YtfhfahlocpmdkaaDoorUsPut
import Derived.Deep.QuietTactic
import Derived.BigQuiet
import Derived.Laws.CopyOwn
namespace Go.Proofs.YtfhfahlocpmdkaaDoor
open Go.RowKit

/-- A block that is known whole. -/
def Blk (w : World) (g : Nat) (t : TypeId) (cs : Array Value) : Prop := w.heap[g]? = some (.cells cs t (0, 0))
section
variable {w w' : World} {g : Nat} {t : TypeId} {cs : Array Value}
theorem Blk.lt (h : Blk w g t cs) : g < w.heap.size := by
  rcases Nat.lt_or_ge g w.heap.size with hlt | hge
  · exact hlt
  · unfold Blk at h; rw [Array.getElem?_eq_none hge] at h; cases h
theorem Blk.cell (h : Blk w g t cs) (i : Nat) : w.cell? ⟨g, i, none⟩ = cs[i]? := cell_of_row w g i cs t (0, 0) h
theorem Blk.frozen (h : Blk w g t cs) (i : Nat) : w.frozen? ⟨g, i, none⟩ = false := by
  unfold Blk at h
  simp [World.frozen?, h]
theorem Blk.new (w : World) (t : TypeId) (cs : Array Value) : Blk (w.alloc (.cells cs t)) w.heap.size t cs := heap_alloc_new w _
theorem Blk.drewN (h : Blk w g t cs) (n : Nat) : Blk (w.drewN n) g t cs := h
theorem Blk.alloc (h : Blk w g t cs) (o : Obj) : Blk (w.alloc o) g t cs := (Below.heap_alloc w o g h.lt).trans h
theorem Blk.set_ (h : Blk w g t cs) (i : Nat) (u : Value) : Blk (w.setCell ⟨g, i, none⟩ u) g t (cs.setIfInBounds i u) := by
  unfold Blk at h ⊢
  simp [World.setCell, Array.getElem?_modify, h]
theorem Blk.below {B : Nat} (h : Blk w g t cs) (hb : Below B w w') (hg : g < B) : Blk w' g t cs := (hb.block g hg).trans h
end
/-- Block g holds the bytes L, and all below it is as it was. -/
structure Bytes (w0 w : World) (g : Nat) (t : TypeId) (L : List UInt8) : Prop where
  blk : Blk w g t (bc L).toArray
  below : Below g w0 w
section
variable {w0 w : World} {g : Nat} {t : TypeId} {L : List UInt8}
theorem Bytes.cell (h : Bytes w0 w g t L) (i : Nat) (hi : i < L.length) : w.cell? ⟨g, i, none⟩ = some (.int .u8 ((L[i]).toNat : Int)) := by
  rw [h.blk.cell]; simp [bc, hi]
theorem Bytes.drewN (h : Bytes w0 w g t L) (n : Nat) : Bytes w0 (w.drewN n) g t L := ⟨h.blk.drewN n, below_drewN h.below n⟩
theorem bc_set (L : List UInt8) (i : Nat) (c : UInt8) : (bc L).toArray.setIfInBounds i (.int .u8 (c.toNat : Int)) = (bc (L.set i c)).toArray := by
  apply Array.ext'
  simp [bc, List.map_set]
theorem Bytes.set_ (h : Bytes w0 w g t L) (i : Nat) (c : UInt8) : Bytes w0 (w.setCell ⟨g, i, none⟩ (.int .u8 (c.toNat : Int))) g t (L.set i c) :=
  ⟨by have := h.blk.set_ i (.int .u8 (c.toNat : Int)); rwa [bc_set] at this, h.below.setCell (Nat.le_refl g) _⟩
end

theorem digit_u8 (x : Nat) : ((UInt8.ofNat (48 + x % 8)).toNat : Int) = 48 + (x : Int) % 8 := by
  rw [UInt8.toNat_ofNat']
  omega
set_option maxHeartbeats 2000000 in
/-- b.number(at, digits, x). -/
theorem number_any (g at_ d x : Nat) (t : TypeId) (L : List UInt8) (w0 w : World) (hL : L.length = 512) (hB : Bytes w0 w g t L) (h : at_ + d ≤ 512) (hx : x ≤ 8589934591) :
    Calls Tryd.prog 43 #[.pointer (some ⟨g, 0, none⟩), .int .i64 (at_ : Int), .int .i64 (d : Int), .int .i64 (x : Int)] w fun e w' => e = .returned (.tuple #[]) ∧ Bytes w0 w' g t (Us.put L at_ (Us.oct d x)) := by
  obtain ⟨R, hR⟩ : ∃ R, R = Us.put L at_ (Us.oct d x) := ⟨_, rfl⟩
  have HR := Lib.hid hR
  rw [← hR]
  clear hR
  go_enter Tryd.func43, Tryd.ntmps43
  go_wp2_with fail
  go_loopw [3, 8] (fun v i wr => ∃ (n y : Nat) (L' : List UInt8), n ≤ d ∧ y ≤ 8589934591 ∧ v = .int .i64 (y : Int) ∧ i = .int .i64 ((n : Int) - 1) ∧ L'.length = 512 ∧ Bytes w0 wr g t L' ∧ Hid (R = Us.put L' at_ (Us.oct n y))) (fun _ i _ => (intOf i + 1).toNat)
  case atStart => exact ⟨d, x, L, by omega, hx, rfl, by go_num, hL, hB, HR⟩
  case round =>
    obtain ⟨n, y, L', hn, hy, rfl, rfl, hL', hB', hrec⟩ := hrel
    clear HR hB
    cases n with
    | zero =>
      have HV : Hid (R = L') := by show _ = _; rw [hrec.out, Us.oct, Us.put_nil]
      go_wp2_with fail
      refine bodyPost_end (results_none rfl _ _ _) rfl ?_
      exact ⟨rfl, by rw [HV.out]; exact hB'⟩
    | succ m =>
      have HV : Hid (R = Us.put (L'.set (at_ + m) (UInt8.ofNat (48 + y % 8))) at_ (Us.oct m (y / 8))) := by
        show _ = _
        rw [hrec.out, Us.put_digit _ _ _ _ (by omega)]
      have hBs := hB'.set_ (at_ + m) (UInt8.ofNat (48 + y % 8))
      rw [digit_u8] at hBs
      have hc := hB'.cell (at_ + m) (by omega)
      have hf := hB'.blk.frozen (at_ + m)
      have HB := Lib.hid hBs
      clear hBs
      go_wp2_with fail
      go_roundw
      case rel => exact ⟨m, y / 8, L'.set (at_ + m) (UInt8.ofNat (48 + y % 8)), by omega, by omega, rfl, rfl, by simp [hL'], HB.out, HV⟩
      case measure => simp [intOf]

theorem sum_snoc (L : List UInt8) (k : Nat) (h : k < L.length) : Us.sumFrom k (L.drop k) = (if 148 ≤ k ∧ k < 156 then 32 else (L[k]).toNat) + Us.sumFrom (k + 1) (L.drop (k + 1)) := by
  rw [List.drop_eq_getElem_cons h, Us.sumFrom]
set_option maxHeartbeats 2000000 in
/-- b.sum(). -/
theorem blockSum_any (g : Nat) (t : TypeId) (L : List UInt8) (w0 w : World) (hL : L.length = 512) (hB : Bytes w0 w g t L) :
    Calls Tryd.prog 44 #[.pointer (some ⟨g, 0, none⟩)] w fun e w' => e = .returned (.int .i64 (Us.sumFrom 0 L : Nat)) ∧ Bytes w0 w' g t L := by
  obtain ⟨R, hR⟩ : ∃ R, R = Us.sumFrom 0 L := ⟨_, rfl⟩
  have HR := Lib.hid hR
  have hle : R ≤ 255 * 512 := by rw [hR, ← hL]; exact Us.sumFrom_le L 0
  rw [← hR]
  clear hR
  go_enter Tryd.func44, Tryd.ntmps44
  go_wp2_with fail
  go_loopw [3, 7] (fun v i wr => ∃ k acc : Nat, k ≤ 512 ∧ i = .int .i64 (k : Int) ∧ v = .int .i64 (acc : Int) ∧ acc ≤ R ∧ Bytes w0 wr g t L ∧ Hid (R = acc + Us.sumFrom k (L.drop k))) (fun _ i _ => 512 - (intOf i).toNat)
  case atStart => exact ⟨0, 0, by omega, rfl, rfl, by omega, hB, by show _ = _; rw [Nat.zero_add]; exact HR.out⟩
  case round =>
    obtain ⟨k, acc, hk, rfl, rfl, hacc, hB', hrec⟩ := hrel
    clear HR hB
    by_cases hk5 : k < 512
    · have hkL : k < L.length := by omega
      have hc := hB'.cell k hkL
      have hb : (L[k]).toNat < 256 := (L[k]).toNat_lt
      have h0 : (0 : Int) ≤ (k : Int) := by omega
      have h1 : (k : Int) < 512 := by omega
      by_cases h2 : 148 ≤ k ∧ k < 156
      · have HV : Hid (R = (acc + 32) + Us.sumFrom (k + 1) (L.drop (k + 1))) := by
          show _ = _
          rw [hrec.out, sum_snoc L k hkL, if_pos h2, Nat.add_assoc]
        have hle2 : acc + 32 ≤ R := by have := HV.out; omega
        have d1 : decide ((148 : Int) ≤ (k : Int)) = true := by simp; omega
        have d2 : decide ((k : Int) < 156) = true := by simp; omega
        clear h2
        go_wp2_with fail
        go_quiet (fail)
        go_wp2_with fail
        go_roundw
        case rel => exact ⟨k + 1, acc + 32, by omega, by go_num, by go_num, hle2, hB'.drewN _, HV⟩
        case measure => simp [intOf]; omega
      · have HV : Hid (R = (acc + (L[k]).toNat) + Us.sumFrom (k + 1) (L.drop (k + 1))) := by
          show _ = _
          rw [hrec.out, sum_snoc L k hkL, if_neg h2, Nat.add_assoc]
        have hle2 : acc + (L[k]).toNat ≤ R := by have := HV.out; omega
        have hp : k < 148 ∨ (148 ≤ k ∧ 156 ≤ k) := by omega
        clear h2
        rcases hp with h2 | ⟨h2, h3⟩
        · have d1 : decide ((148 : Int) ≤ (k : Int)) = false := by simp; omega
          go_wp2_with fail
          go_quiet (fail)
          go_wp2_with fail
          go_roundw
          case rel => exact ⟨k + 1, acc + (L[k]).toNat, by omega, by go_num, by go_num, hle2, hB'.drewN _, HV⟩
          case measure => simp [intOf]; omega
        · have d1 : decide ((148 : Int) ≤ (k : Int)) = true := by simp; omega
          have d2 : decide ((k : Int) < 156) = false := by simp; omega
          go_wp2_with fail
          go_quiet (fail)
          go_wp2_with fail
          go_roundw
          case rel => exact ⟨k + 1, acc + (L[k]).toNat, by omega, by go_num, by go_num, hle2, hB'.drewN _, HV⟩
          case measure => simp [intOf]; omega
    · have hke : k = 512 := by omega
      subst hke
      have HV : Hid (R = acc) := by
        show _ = _
        rw [hrec.out, List.drop_of_length_le (by omega), Us.sumFrom, Nat.add_zero]
      go_wp2_with fail
      go_ret
      exact ⟨by rw [HV.out]; rfl, hB'⟩
end Go.Proofs.YtfhfahlocpmdkaaDoor
