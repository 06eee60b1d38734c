/- ustar.Of, strataref05.Of and stratalaw05.UstarOf, walked. -/
import Derived.Test.YtfhfahlocpmdkaaDoorUsX
import Derived.Deep.RegionHeld3
namespace Go.Proofs.YtfhfahlocpmdkaaDoor
open Go.RowKit
attribute [local go_sem ↓] Go.wp_at_zero Go.wp_at_succ run_eql_hd

/-- an entry. -/
structure En where
  path : List UInt8
  kind : Int
  mode : Int
  data : List UInt8
  link : List UInt8
def enC (x : En) : Array Value := #[.string (bs x.path), .int .i64 x.kind, .int .i64 x.mode, .string (bs x.data), .string (bs x.link)]
def ofH (x : En) : Us.Hd :=
  if x.kind = 1 then ⟨x.path, x.mode, 0, 0, 0, 0, 53, [], [], [], 0, 0⟩
  else if x.kind = 2 then ⟨x.path, x.mode, 0, 0, ((bs x.data).size : Int), 0, 48, [], [], [], 0, 0⟩
  else if x.kind = 3 then ⟨x.path, 511, 0, 0, 0, 0, 50, x.link, [], [], 0, 0⟩
  else Us.hd0
set_option maxRecDepth 100000 in
set_option maxHeartbeats 2000000 in
theorem of_any (x : En) (w : World) (hd : (bs x.data).size ≤ 1000000000) : Calls Tryd.prog 25 #[.agg (enC x)] w fun e w' => e = .returned (.agg (hdC (ofH x))) ∧ Below w.heap.size w w' := by
  have z : (0 : Int) ≤ ((bs x.data).size : Int) := by omega
  unfold enC
  rcases (show x.kind = 1 ∨ (x.kind ≠ 1 ∧ x.kind = 2) ∨ (x.kind ≠ 1 ∧ x.kind ≠ 2 ∧ x.kind = 3) ∨ (x.kind ≠ 1 ∧ x.kind ≠ 2 ∧ x.kind ≠ 3) by omega) with k | ⟨k1, k⟩ | ⟨k1, k2, k⟩ | ⟨k1, k2, k3⟩
  · have HN : Hid (ofH x = ⟨x.path, x.mode, 0, 0, 0, 0, 53, [], [], [], 0, 0⟩) := by show _ = _; rw [ofH, if_pos k]
    have t0 : (x.kind == 1) = true := by simp [k]
    clear k
    go_enter Tryd.func25, Tryd.ntmps25
    go_wp2_with fail
    refine bodyPost_ret (v := .agg (hdC ⟨x.path, x.mode, 0, 0, 0, 0, 53, [], [], [], 0, 0⟩)) (by simp [results, Tryd.results25, go_sem, hdC]; try rfl) rfl ?_
    exact ⟨by rw [HN.out], ((Below.refl _ _).alloc (Nat.le_refl _) _).alloc (by simp) _⟩
  · have HN : Hid (ofH x = ⟨x.path, x.mode, 0, 0, ((bs x.data).size : Int), 0, 48, [], [], [], 0, 0⟩) := by show _ = _; rw [ofH, if_neg k1, if_pos k]
    have t0 : (x.kind == 1) = false := by simp [k1]
    have t1 : (x.kind == 2) = true := by simp [k]
    clear k1 k
    go_enter Tryd.func25, Tryd.ntmps25
    go_wp2_with fail
    refine bodyPost_ret (v := .agg (hdC ⟨x.path, x.mode, 0, 0, ((bs x.data).size : Int), 0, 48, [], [], [], 0, 0⟩)) (by simp [results, Tryd.results25, go_sem, hdC]; try rfl) rfl ?_
    exact ⟨by rw [HN.out], ((Below.refl _ _).alloc (Nat.le_refl _) _).alloc (by simp) _⟩
  · have HN : Hid (ofH x = ⟨x.path, 511, 0, 0, 0, 0, 50, x.link, [], [], 0, 0⟩) := by show _ = _; rw [ofH, if_neg k1, if_neg k2, if_pos k]
    have t0 : (x.kind == 1) = false := by simp [k1]
    have t1 : (x.kind == 2) = false := by simp [k2]
    have t2 : (x.kind == 3) = true := by simp [k]
    clear k1 k2 k
    go_enter Tryd.func25, Tryd.ntmps25
    go_wp2_with fail
    refine bodyPost_ret (v := .agg (hdC ⟨x.path, 511, 0, 0, 0, 0, 50, x.link, [], [], 0, 0⟩)) (by simp [results, Tryd.results25, go_sem, hdC]; try rfl) rfl ?_
    exact ⟨by rw [HN.out], ((Below.refl _ _).alloc (Nat.le_refl _) _).alloc (by simp) _⟩
  · have HN : Hid (ofH x = Us.hd0) := by show _ = _; rw [ofH, if_neg k1, if_neg k2, if_neg k3]
    have t0 : (x.kind == 1) = false := by simp [k1]
    have t1 : (x.kind == 2) = false := by simp [k2]
    have t2 : (x.kind == 3) = false := by simp [k3]
    clear k1 k2 k3
    go_enter Tryd.func25, Tryd.ntmps25
    go_wp2_with fail
    refine bodyPost_ret (v := .agg (hdC Us.hd0)) (by simp [results, Tryd.results25, go_sem, hdC, Us.hd0]; try rfl) rfl ?_
    exact ⟨by rw [HN.out], ((Below.refl _ _).alloc (Nat.le_refl _) _).alloc (by simp) _⟩
set_option maxRecDepth 100000 in
set_option maxHeartbeats 2000000 in
theorem refOf_any (x : En) (w : World) (hd : (bs x.data).size ≤ 1000000000) : Calls Tryd.prog 26 #[.agg (enC x)] w fun e w' => e = .returned (.agg (hdC (ofH x))) ∧ Below w.heap.size w w' := by
  have z : (0 : Int) ≤ ((bs x.data).size : Int) := by omega
  unfold enC
  rcases (show x.kind = 1 ∨ (x.kind ≠ 1 ∧ x.kind = 2) ∨ (x.kind ≠ 1 ∧ x.kind ≠ 2 ∧ x.kind = 3) ∨ (x.kind ≠ 1 ∧ x.kind ≠ 2 ∧ x.kind ≠ 3) by omega) with k | ⟨k1, k⟩ | ⟨k1, k2, k⟩ | ⟨k1, k2, k3⟩
  · have HN : Hid (ofH x = ⟨x.path, x.mode, 0, 0, 0, 0, 53, [], [], [], 0, 0⟩) := by show _ = _; rw [ofH, if_pos k]
    have t0 : (x.kind == 1) = true := by simp [k]
    clear k
    go_enter Tryd.func26, Tryd.ntmps26
    go_wp2_with fail
    refine bodyPost_ret (v := .agg (hdC ⟨x.path, x.mode, 0, 0, 0, 0, 53, [], [], [], 0, 0⟩)) (by simp [results, Tryd.results26, go_sem, hdC]; try rfl) rfl ?_
    exact ⟨by rw [HN.out], ((Below.refl _ _).alloc (Nat.le_refl _) _).alloc (by simp) _⟩
  · have HN : Hid (ofH x = ⟨x.path, x.mode, 0, 0, ((bs x.data).size : Int), 0, 48, [], [], [], 0, 0⟩) := by show _ = _; rw [ofH, if_neg k1, if_pos k]
    have t0 : (x.kind == 1) = false := by simp [k1]
    have t1 : (x.kind == 2) = true := by simp [k]
    clear k1 k
    go_enter Tryd.func26, Tryd.ntmps26
    go_wp2_with fail
    refine bodyPost_ret (v := .agg (hdC ⟨x.path, x.mode, 0, 0, ((bs x.data).size : Int), 0, 48, [], [], [], 0, 0⟩)) (by simp [results, Tryd.results26, go_sem, hdC]; try rfl) rfl ?_
    exact ⟨by rw [HN.out], ((Below.refl _ _).alloc (Nat.le_refl _) _).alloc (by simp) _⟩
  · have HN : Hid (ofH x = ⟨x.path, 511, 0, 0, 0, 0, 50, x.link, [], [], 0, 0⟩) := by show _ = _; rw [ofH, if_neg k1, if_neg k2, if_pos k]
    have t0 : (x.kind == 1) = false := by simp [k1]
    have t1 : (x.kind == 2) = false := by simp [k2]
    have t2 : (x.kind == 3) = true := by simp [k]
    clear k1 k2 k
    go_enter Tryd.func26, Tryd.ntmps26
    go_wp2_with fail
    refine bodyPost_ret (v := .agg (hdC ⟨x.path, 511, 0, 0, 0, 0, 50, x.link, [], [], 0, 0⟩)) (by simp [results, Tryd.results26, go_sem, hdC]; try rfl) rfl ?_
    exact ⟨by rw [HN.out], ((Below.refl _ _).alloc (Nat.le_refl _) _).alloc (by simp) _⟩
  · have HN : Hid (ofH x = Us.hd0) := by show _ = _; rw [ofH, if_neg k1, if_neg k2, if_neg k3]
    have t0 : (x.kind == 1) = false := by simp [k1]
    have t1 : (x.kind == 2) = false := by simp [k2]
    have t2 : (x.kind == 3) = false := by simp [k3]
    clear k1 k2 k3
    go_enter Tryd.func26, Tryd.ntmps26
    go_wp2_with fail
    refine bodyPost_ret (v := .agg (hdC Us.hd0)) (by simp [results, Tryd.results26, go_sem, hdC, Us.hd0]; try rfl) rfl ?_
    exact ⟨by rw [HN.out], ((Below.refl _ _).alloc (Nat.le_refl _) _).alloc (by simp) _⟩
theorem carryB {w0 w w1 : World} {g : Nat} {t : TypeId} {cs : Array Value} (hb : Below w.heap.size w w1) (hH : Blk w g t cs) (hB : Below g w0 w) : Blk w1 g t cs ∧ Below g w0 w1 := ⟨hH.below hb hH.lt, hB.trans (hb.mono (Nat.le_of_lt hH.lt))⟩
set_option maxRecDepth 100000 in
set_option maxHeartbeats 4000000 in
theorem lawOf (x : En) (w : World) (hd : (bs x.data).size ≤ 1000000000) (hg : ErrVar w) : Calls Tryd.prog 10 #[.agg (enC x)] w fun e w' => e = .returned (.bool true) ∧ Below w.heap.size w w' := by
  have HG := Lib.hid hg
  clear hg
  have hEq := hdEq_refl (ofH x)
  have hH : Blk (w.alloc (.cells (enC x) 50)) w.heap.size 50 (enC x) := Blk.new _ _ _
  have hB : Below w.heap.size w (w.alloc (.cells (enC x) 50)) := (Below.refl _ _).alloc (Nat.le_refl _) _
  unfold enC
  go_enter Tryd.func10, Tryd.ntmps10
  go_wp2_with fail
  go_region_held3 (fun w' => w'.cell? ⟨w.heap.size, 0, none⟩ = some (.string (bs x.path)) ∧ w'.cell? ⟨w.heap.size, 1, none⟩ = some (.int .i64 x.kind) ∧ w'.cell? ⟨w.heap.size, 2, none⟩ = some (.int .i64 x.mode) ∧ w'.cell? ⟨w.heap.size, 3, none⟩ = some (.string (bs x.data)) ∧ w'.cell? ⟨w.heap.size, 4, none⟩ = some (.string (bs x.link))) (exact ⟨hH.cell 0, hH.cell 1, hH.cell 2, hH.cell 3, hH.cell 4⟩) (first | (go_at_call 25; refine (of_any x _ hd).mono ?_; rintro e w1 ⟨rfl, hb0⟩; obtain ⟨hH, hB⟩ := carryB hb0 (by exact hH) (by first | exact hB | exact hB.drew)) | (go_at_call 26; refine (refOf_any x _ hd).mono ?_; rintro e w1 ⟨rfl, hb0⟩; obtain ⟨hH, hB⟩ := carryB hb0 (by exact hH) (by first | exact hB | exact hB.drew)) | (go_at_call 16; refine (works_any _ (HG.out.below hB HG.out.lt)).mono ?_; rintro e w1 ⟨rfl, hb0⟩; obtain ⟨hH, hB⟩ := carryB hb0 (by exact hH) (by first | exact hB | exact hB.drew)))
  go_wp2_with fail
  go_ret
  exact ⟨rfl, hB⟩
end Go.Proofs.YtfhfahlocpmdkaaDoor
