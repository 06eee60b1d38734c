/- path.all, path.Pieces as iterators; glob.names. -/
import Derived.Test.YtdjfakampjbgeaaDoorGbR
import Derived.Test.YtdjfakampjbgeaaDoorGbP
import Derived.Test.YtdjfakampjbgeaaDoorOwn
import Derived.RangeFuncBox
import Derived.Shelf.Abstract
import Derived.Shelf.RegionOpen
import Derived.Shelf.Strings.Cut
import Derived.Ground.NamesProg
import Derived.WalkKit
import Derived.OwnWalkIn
import Derived.TacticsInMore
import Derived.LoopNIn
import Derived.LoopIn
import Derived.Maps.AppendAt
namespace Go.Proofs.YtdjfakampjbgeaaDoor
open Go Go.RowKit Go.Shelf
attribute [local go_sem] Oper.semAt_some
def Tryd.lays145_ren : Go.Shelf.Ren := ⟨fun | 145 => 97 | 220 => 107 | 219 => 104 | 217 => 108 | 225 => 101 | 224 => 100 | 267 => 109 | 266 => 110 | 314 => 111 | n => n, fun | 9 => 9 | 4 => 4 | 59 => 157 | 3 => 3 | 5 => 5 | 46 => 162 | 146 => 168 | 51 => 167 | n => n, fun | 1 => 1 | n => n⟩
theorem Tryd.lays145 : Go.Proofs.Lays.n145 Tryd.prog Tryd.lays145_ren := {
  mixed := by kernel_rfl
  f145 := Tryd.func97.trans (congrArg some (by kernel_rfl))
  f217 := Tryd.func108.trans (congrArg some (by kernel_rfl))
  f219 := Tryd.func104.trans (congrArg some (by kernel_rfl))
  f220 := Tryd.func107.trans (congrArg some (by kernel_rfl))
  f224 := Tryd.func100.trans (congrArg some (by kernel_rfl))
  f225 := Tryd.func101.trans (congrArg some (by kernel_rfl))
  f266 := Tryd.func110.trans (congrArg some (by kernel_rfl))
  f267 := Tryd.func109.trans (congrArg some (by kernel_rfl))
  f314 := Tryd.func111.trans (congrArg some (by kernel_rfl))
  t3 := Tryd.underlying3
  a3 := Tryd.isAgg3
  z3 := Tryd.sizeOf3
  v3 := Tryd.zeroValue3
  t4 := Tryd.underlying4
  a4 := Tryd.isAgg4
  z4 := Tryd.sizeOf4
  v4 := Tryd.zeroValue4
  t5 := Tryd.underlying5
  a5 := Tryd.isAgg5
  z5 := Tryd.sizeOf5
  v5 := Tryd.zeroValue5
  t9 := Tryd.underlying9
  a9 := Tryd.isAgg9
  z9 := Tryd.sizeOf9
  v9 := Tryd.zeroValue9
  t46 := Tryd.underlying162
  a46 := Tryd.isAgg162
  z46 := Tryd.sizeOf162
  v46 := Tryd.zeroValue162
  t51 := Tryd.underlying167
  a51 := Tryd.isAgg167
  z51 := Tryd.sizeOf167
  v51 := Tryd.zeroValue167
  t59 := Tryd.underlying157
  a59 := Tryd.isAgg157
  z59 := Tryd.sizeOf157
  v59 := Tryd.zeroValue157
  t146 := Tryd.underlying168
  a146 := Tryd.isAgg168
  z146 := Tryd.sizeOf168
  v146 := Tryd.zeroValue168
  g1 := by kernel_rfl }

/-- the library's variable MaxLen, wherever it lies. -/
def Maxl (w : World) : Prop := ∃ m, w.cell? ⟨Tryd.lays145_ren.g 1, 0, none⟩ = some (.int .i64 m)
theorem Maxl.below {w w' : World} {B : Nat} (h : Maxl w) (hb : Below B w w') (hB : Tryd.lays145_ren.g 1 < B) : Maxl w' := by
  obtain ⟨m, hm⟩ := h
  exact ⟨m, (hb.cell (p := ⟨_, 0, none⟩) hB).trans hm⟩
theorem Maxl.lt {w : World} (h : Maxl w) : Tryd.lays145_ren.g 1 < w.heap.size := by
  obtain ⟨m, hm⟩ := h
  exact World.block_lt_of_cell? w _ hm
theorem cut_any (l : List UInt8) (w : World) (hs : l.length < 4294967281) (hm : Maxl w) {a r : List UInt8} {b : Bool} (hc : Lib.cut l [47] = (a, r, b)) : Calls Tryd.prog 97 #[.string (bs l), .string ⟨#[47]⟩] w fun e w' => e = .returned (.tuple #[.string (bs a), .string (bs r), .bool b]) ∧ ∃ n, w' = w.drewN n := by
  obtain ⟨m, hm⟩ := hm
  have := Any.strings_Cut Tryd.lays145 (bs l) ⟨#[47]⟩ m w (by rw [bs_size]; exact hs) hm
  refine Calls.mono this ?_
  rintro e w' ⟨rfl, h⟩
  refine ⟨?_, h⟩
  have e1 : (bs l).data.toList = l := bl_bs l
  rw [e1, show (⟨#[47]⟩ : ByteArray).data.toList = [47] from rfl, hc]
  rfl

theorem own_drewN {β : Type} {B : Nat} {I : β → World → Prop} (h : OwnFrom B I) {s : β} {W : World} (hs : I s W) (n : Nat) : I s (W.drewN n) :=
  h s W _ none hs (grown_of_below (below_drewN (Below.refl _ _) n) none) (fun r e => by cases e)
set_option maxRecDepth 100000 in
set_option maxHeartbeats 1000000 in
theorem all_seq (n : Nat) (s : List UInt8) (B : Nat) (w : World) (hs : s.length < 1000000000) (hc : w.cell? ⟨B, 0, none⟩ = some (.string (bs s))) :
    SeqO n Tryd.prog 96 #[.pointer (some ⟨B, 0, none⟩)] (fun x : List UInt8 => #[Value.string (bs x)]) Maxl (Gl.splitL s) w := by
  intro l J Jx V hV hJ hJx hK hY h0
  have hlt : B < w.heap.size := World.block_lt_of_cell? w _ hc
  have hcV : V.cell? ⟨B, 0, none⟩ = some (.string (bs s)) := (hV.cell (p := ⟨B, 0, none⟩) hlt).trans hc
  refine callsIn_of_wp Tryd.func96 rfl trivial ?_ rfl
  simp only [Tryd.ntmps96, List.size_toArray, List.length_cons, List.length_nil, Nat.reduceAdd, Nat.reduceSub, Array.replicate_succ, Array.replicate_zero, List.push_toArray, List.append_toArray, List.nil_append, List.cons_append]
  gi_wp2
  gi_loopw [3, 4, 5] (fun rest more _ wr => ∃ (pre : List (List UInt8)) (r : List UInt8) (b : Bool), rest = .string (bs r) ∧ more = .bool b ∧ r.length < 1000000000 ∧ Hid (if b then Gl.splitL s = pre ++ Gl.splitL r else Gl.splitL s = pre) ∧ J V.heap.size pre wr ∧ V.heap.size ≤ wr.heap.size)
    (fun rest more _ _ => match rest, more with | .string x, .bool true => x.size + 1 | _, _ => 0)
  case atStart =>
    exact ⟨[], s, true, rfl, rfl, hs, by show (if true then _ else _); simp, h0 _, Nat.le_refl _⟩
  case round =>
    obtain ⟨pre, r, b, rfl, rfl, hr, HS, hJs, hsz⟩ := hrel
    cases b with
    | false =>
      gi_wp2
      go_end0
      have hp : Gl.splitL s = pre := HS.out
      exact ⟨⟨_, rfl⟩, .inl ⟨_, by rw [hp]; exact hJs⟩⟩
    | true =>
      have hp : Gl.splitL s = pre ++ Gl.splitL r := HS.out
      rcases Gl.cut_slash r with ⟨hcut, hno⟩ | ⟨a, r', hra, hno, hcut⟩
      · rw [Gl.splitL_no r hno] at hp
        have hpre : pre ++ [r] <+: Gl.splitL s := by rw [hp]; exact List.prefix_refl _
        have HS2 : Hid (Gl.splitL s = pre ++ [r]) := hp
        gi_wp2_with (refine ⟨trivial, (fun h => by cases h), ?_⟩; gi_at_call 97; refine (callsIn_wide.2 (cut_any r _ (by omega) (hK _ _ _ hJs) hcut)).mono ?_; rintro e w' ⟨rfl, m, rfl⟩; obtain ⟨fn, tmps, assign, body, hy, hR⟩ := hY V.heap.size pre r (wr.drewN m) (Nat.le_refl _) (show V.heap.size ≤ wr.heap.size from hsz) (own_drewN (hJ _) hJs m) hpre)
        refine ⟨(fun h => by cases h), (round_wide _ hR).mono ?_⟩
        rintro e W3 ⟨hst, (⟨rfl, hJ3⟩ | ⟨rfl, hJx3⟩)⟩
        · gi_wp2
          go_roundw
          case rel => exact ⟨pre ++ [r], [], false, rfl, rfl, by simp, HS2, hJ3, Nat.le_trans hsz hst.1⟩
          case measure => simp
        · gi_wp2
          refine bodyPost_ret (results_none rfl _ _ _) rfl ?_
          exact ⟨⟨_, rfl⟩, .inr ⟨_, _, hJx3⟩⟩
      · rw [hra, Gl.splitL_cut a r' hno] at hp
        have hpre : pre ++ [a] <+: Gl.splitL s := by rw [hp]; exact ⟨Gl.splitL r', by simp⟩
        have HS2 : Hid (Gl.splitL s = (pre ++ [a]) ++ Gl.splitL r') := by show _ = _; rw [hp]; simp
        have hl : r.length = a.length + 1 + r'.length := by rw [hra]; simp; omega
        have HL := Lib.hid hl
        clear hl hra
        gi_wp2_with (refine ⟨trivial, (fun h => by cases h), ?_⟩; gi_at_call 97; refine (callsIn_wide.2 (cut_any r _ (by omega) (hK _ _ _ hJs) hcut)).mono ?_; rintro e w' ⟨rfl, m, rfl⟩; obtain ⟨fn, tmps, assign, body, hy, hR⟩ := hY V.heap.size pre a (wr.drewN m) (Nat.le_refl _) (show V.heap.size ≤ wr.heap.size from hsz) (own_drewN (hJ _) hJs m) hpre)
        refine ⟨(fun h => by cases h), (round_wide _ hR).mono ?_⟩
        rintro e W3 ⟨hst, (⟨rfl, hJ3⟩ | ⟨rfl, hJx3⟩)⟩
        · gi_wp2
          go_roundw
          case rel => exact ⟨pre ++ [a], r', true, rfl, rfl, by have := HL.out; omega, HS2, hJ3, Nat.le_trans hsz hst.1⟩
          case measure => have := HL.out; simp [bs_size]; omega
        · gi_wp2
          refine bodyPost_ret (results_none rfl _ _ _) rfl ?_
          exact ⟨⟨_, rfl⟩, .inr ⟨_, _, hJx3⟩⟩
end Go.Proofs.YtdjfakampjbgeaaDoor
