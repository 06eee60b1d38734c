/- Two headers compared. -/
import Derived.Test.YtfhfahlocpmdkaaDoorUsI
import Derived.Laws.StructEq
namespace Go.Proofs.YtfhfahlocpmdkaaDoor
open Go.RowKit

def hdEq (a b : Us.Hd) : Bool := (a.path == b.path) && ((a.mode == b.mode) && ((a.uid == b.uid) && ((a.gid == b.gid) && ((a.size == b.size) && ((a.time == b.time) && ((a.type == b.type) && ((a.link == b.link) && ((a.user == b.user) && ((a.group == b.group) && ((a.major == b.major) && (a.minor == b.minor)))))))))))
theorem hdEq_iff (a b : Us.Hd) : hdEq a b = decide (a = b) := by
  rw [Bool.eq_iff_iff]
  cases a; cases b
  simp [hdEq]
theorem hdEq_refl (a : Us.Hd) : hdEq a a = true := by rw [hdEq_iff]; simp
theorem u8_beq (a b : UInt8) : ((a.toNat : Int) == (b.toNat : Int)) = (a == b) := by
  rw [Bool.eq_iff_iff]
  simp only [beq_iff_eq]
  exact ⟨fun h => UInt8.toNat_inj.1 (by omega), fun h => by rw [h]⟩
theorem toList_bs (l : List UInt8) : (bs l).toList = l := by rw [ByteArray.toList_eq]; rfl
set_option maxRecDepth 100000 in
set_option maxHeartbeats 1000000 in
theorem run_equalIn_hd (a b : Us.Hd) (w : World) : (Op.equalIn 10000 23 (.agg (hdC a)) (.agg (hdC b))).run Tryd.prog w = .ok (hdEq a b) w := by
  rw [run_equalIn_struct w 9999 _ _ _ (by kernel_rfl) (by kernel_rfl)]
  simp only [Program.fieldsOf, Tryd.underlying23]
  unfold hdEq
  cases h0 : a.path == b.path
  · simp [go_sem, hdC, toList_bs, u8_beq, h0]
  cases h1 : a.mode == b.mode
  · simp [go_sem, hdC, toList_bs, u8_beq, h0, h1]
  cases h2 : a.uid == b.uid
  · simp [go_sem, hdC, toList_bs, u8_beq, h0, h1, h2]
  cases h3 : a.gid == b.gid
  · simp [go_sem, hdC, toList_bs, u8_beq, h0, h1, h2, h3]
  cases h4 : a.size == b.size
  · simp [go_sem, hdC, toList_bs, u8_beq, h0, h1, h2, h3, h4]
  cases h5 : a.time == b.time
  · simp [go_sem, hdC, toList_bs, u8_beq, h0, h1, h2, h3, h4, h5]
  cases h6 : a.type == b.type
  · simp [go_sem, hdC, toList_bs, u8_beq, h0, h1, h2, h3, h4, h5, h6]
  cases h7 : a.link == b.link
  · simp [go_sem, hdC, toList_bs, u8_beq, h0, h1, h2, h3, h4, h5, h6, h7]
  cases h8 : a.user == b.user
  · simp [go_sem, hdC, toList_bs, u8_beq, h0, h1, h2, h3, h4, h5, h6, h7, h8]
  cases h9 : a.group == b.group
  · simp [go_sem, hdC, toList_bs, u8_beq, h0, h1, h2, h3, h4, h5, h6, h7, h8, h9]
  cases h10 : a.major == b.major
  · simp [go_sem, hdC, toList_bs, u8_beq, h0, h1, h2, h3, h4, h5, h6, h7, h8, h9, h10]
  cases h11 : a.minor == b.minor
  · simp [go_sem, hdC, toList_bs, u8_beq, h0, h1, h2, h3, h4, h5, h6, h7, h8, h9, h10, h11]
  simp [go_sem, hdC, toList_bs, u8_beq, h0, h1, h2, h3, h4, h5, h6, h7, h8, h9, h10, h11]
theorem run_eql_hd (a b : Us.Hd) (w : World) : (binOp .eql 23 (.agg (hdC a)) (.agg (hdC b))).run Tryd.prog w = .ok (.bool (hdEq a b)) w := by
  rw [run_eql_struct, run_equalIn_hd]; rfl
end Go.Proofs.YtfhfahlocpmdkaaDoor
