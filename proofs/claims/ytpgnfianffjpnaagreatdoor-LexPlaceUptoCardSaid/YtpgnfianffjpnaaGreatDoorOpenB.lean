/- The bulk of a line bounds its lengths. -/
import Derived.Test.YtpgnfianffjpnaaGreatDoorOpenL
import Derived.Test.YtpgnfianffjpnaaGreatDoorCards
namespace Go.Proofs.YtpgnfianffjpnaaGreatDoor
open Go Go.ChangeShapes Go.WideShapes Go.RowKit Go.Deep
theorem bulk_len {H : Type} : ∀ l : List (DataW H), l.length ≤ Rows.uptoBulkAll l := fun l => by
  induction l with
  | nil => simp
  | cons x r ih =>
    simp only [Rows.uptoBulkAll, List.length_cons]
    have : 1 ≤ Rows.uptoBulk x := by
      cases x <;> first | (simp only [Rows.uptoBulk]; omega) | (rename_i l; cases l <;> simp only [Rows.uptoBulk] <;> omega)
    omega
theorem bulk_len2 {H α : Type} {g : α → DataW H} (hg : ∀ x, 2 ≤ Rows.uptoBulk (g x)) : ∀ T : List α, 2 * T.length ≤ Rows.uptoBulkAll (T.map g)
  | [] => by simp
  | x :: r => by
    have h1 := bulk_len2 hg r
    have h2 := hg x
    simp only [List.map_cons, Rows.uptoBulkAll, List.length_cons]
    omega
theorem bulk_rows {H α : Type} {T : List α} {g : α → DataW H} {d : DataW H} {L2 : List (DataW H)} (hg : ∀ x, 2 ≤ Rows.uptoBulk (g x)) (h : T.length = 0 ∨ d = .slice (T.map g) L2) : 2 * T.length ≤ Rows.uptoBulk d := by
  rcases h with h | rfl
  · omega
  · have := bulk_len2 hg T
    simp only [Rows.uptoBulk]
    omega
theorem bulk_mk {H : Type} (x : Lx.Mk) : 2 ≤ Rows.uptoBulk (mkDt x : DataW H) := by simp only [mkDt, Rows.uptoBulk, Rows.uptoBulkAll]; omega
theorem bulk_dc {H : Type} (x : Lx.Dc) : 2 ≤ Rows.uptoBulk (dcDt x : DataW H) := by simp only [dcDt, Rows.uptoBulk, Rows.uptoBulkAll]; omega
theorem bulk_line {H : Type} {x : Int} {s : List UInt8} {dm dd : DataW H} : s.length + Rows.uptoBulk dm + Rows.uptoBulk dd ≤ Rows.uptoBulk (.agg [.lit (.int .i64 x), .lit (.string s), dm, dd] : DataW H) := by
  simp only [Rows.uptoBulk, Rows.uptoBulkAll]
  omega
end Go.Proofs.YtpgnfianffjpnaaGreatDoor
