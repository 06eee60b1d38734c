/- stratakit.Place, At of an api.Fault. -/
import Derived.Test.YtpgnfianffjpnaaGreatDoorErrFault
namespace Go.Proofs.YtpgnfianffjpnaaGreatDoor
open Go.RowKit

theorem isNum_fault (no line at_ : Int) : IsNum (eFault no line at_) no := fun b w => isFault no line at_ b w
theorem num_fault (no line at_ : Int) (h1 : 1 ≤ no) (h2 : no ≤ 32) (w : World) : Calls Tryz.prog 11 #[eFault no line at_] w fun e w' => e = .returned (.int .i64 no) ∧ Below w.heap.size w w' := num_of _ _ no (isNum_fault no line at_) h1 h2 w
set_option maxRecDepth 100000 in
set_option maxHeartbeats 2000000 in
theorem place_fault (no line at_ : Int) (h1 : 1 ≤ no) (h2 : no ≤ 32) (w : World) (hg : ErrVar w) :
    Calls Tryz.prog 43 #[eFault no line at_] w fun e w' => e = .returned (.tuple #[.int .i64 line, .int .i64 at_, .bool true]) ∧ Below w.heap.size w w' := by
  have t0 : (no == no) = true := by simp
  have hB0 := (Below.refl w.heap.size w).alloc (Nat.le_refl _) (.cells #[.int .i64 0, .int .i64 0, .int .i64 0] 150)
  have hK0 := Blk.new w 150 #[.int .i64 0, .int .i64 0, .int .i64 0]
  have HG0 := Lib.hid (hg.below hB0 hg.lt)
  have HB0 := Lib.hid hB0
  have HK0 := Lib.hid hK0
  clear hg hB0 hK0
  go_enter Tryz.func43, Tryz.ntmps43
  go_wp2_with fail
  refine (as_hit no line at_ w.heap.size _ _ _ _ HG0.out HK0.out).mono ?_
  rintro e w1 ⟨rfl, hH, hG1⟩
  have hlt := hH.lt
  have c0 : w1.cell? ⟨w.heap.size, 0, none⟩ = some (.int .i64 no) := hH.cell 0
  have c1 : w1.cell? ⟨w.heap.size, 1, none⟩ = some (.int .i64 line) := hH.cell 1
  have c2 : w1.cell? ⟨w.heap.size, 2, none⟩ = some (.int .i64 at_) := hH.cell 2
  have hB1 := HB0.out.grown hG1 HB0.out.size (fun k e => by cases e; exact Nat.le_refl _)
  clear hH hG1
  go_upto_region 4 with fail
  go_cut [2, 3, 4] (fun s2 s3 s4 wx => s2 = .int .i64 line ∧ s3 = .int .i64 at_ ∧ s4 = .bool true ∧ Below w1.heap.size w1 wx)
  case first =>
    go_region_held3 (fun w' => w'.cell? ⟨w.heap.size, 0, none⟩ = some (.int .i64 no) ∧ w'.cell? ⟨w.heap.size, 1, none⟩ = some (.int .i64 line) ∧ w'.cell? ⟨w.heap.size, 2, none⟩ = some (.int .i64 at_)) (exact ⟨c0, c1, c2⟩) ((go_at_call 11; refine (num_fault no line at_ h1 h2 _).mono ?_; rintro e w9 ⟨rfl, hb0⟩; have c0 := (hb0.cell (p := ⟨w.heap.size, 0, none⟩) hlt).trans c0; have c1 := (hb0.cell (p := ⟨w.heap.size, 1, none⟩) hlt).trans c1; have c2 := (hb0.cell (p := ⟨w.heap.size, 2, none⟩) hlt).trans c2; have BX := below_of_below (by first | exact Below.refl w1.heap.size w1 | exact (Below.refl w1.heap.size w1).drew) hb0 (by first | exact Nat.le_refl _ | rfl)))
    go_wp2_with fail
    go_meet
    exact ⟨rfl, rfl, rfl, BX⟩
  case rest =>
    obtain ⟨rfl, rfl, rfl, bx⟩ := hcut
    go_wp2_with fail
    go_ret3
    exact ⟨rfl, below_of_below hB1 bx hB1.size⟩
set_option maxRecDepth 100000 in
set_option maxHeartbeats 1000000 in
theorem at_fault (no line at_ : Int) (h1 : 1 ≤ no) (h2 : no ≤ 32) (w : World) (hg : ErrVar w) :
    Calls Tryz.prog 10 #[eFault no line at_, .int .i64 no, .int .i64 line, .int .i64 at_] w fun e w' => e = .returned (.bool true) ∧ Below w.heap.size w w' := by
  have t0 : (no == 0) = false := by simp; omega
  have t1 : (no == no) = true := by simp
  have t2 : (line == line) = true := by simp
  have t3 : (at_ == at_) = true := by simp
  go_enter Tryz.func10, Tryz.ntmps10
  go_wp2_with fail
  refine (place_fault no line at_ h1 h2 _ hg).mono ?_
  rintro e w1 ⟨rfl, b1⟩
  go_wp2_with fail
  refine (num_fault no line at_ h1 h2 _).mono ?_
  rintro e w2 ⟨rfl, b2⟩
  go_wp2_with fail
  go_ret
  exact ⟨rfl, below_of_below b1 b2 b1.size⟩
set_option maxRecDepth 100000 in
theorem at_nil (line at_ : Int) (w : World) :
    Calls Tryz.prog 10 #[.nilIface, .int .i64 0, .int .i64 line, .int .i64 at_] w fun e w' => e = .returned (.bool true) ∧ w = w' := by
  go_enter Tryz.func10, Tryz.ntmps10
  go_wp2_with fail
  go_ret
  exact ⟨rfl, rfl⟩
end Go.Proofs.YtpgnfianffjpnaaGreatDoor
