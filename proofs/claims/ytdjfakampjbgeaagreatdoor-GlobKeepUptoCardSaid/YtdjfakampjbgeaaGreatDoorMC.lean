/- path.all, path.Pieces as iterators; glob.names. -/
import Derived.Test.YtdjfakampjbgeaaGreatDoorGbR
import Derived.Test.YtdjfakampjbgeaaGreatDoorMA
import Derived.Test.YtdjfakampjbgeaaGreatDoorOwn
import Derived.RangeFuncBox
import Derived.Shelf.Abstract
import Derived.Shelf.RegionOpen
import Derived.Shelf.Strings.Cut
import Derived.Ground.NamesProg
import Derived.WalkKit
import Derived.OwnWalkIn
import Derived.TacticsInMore
import Derived.LoopNIn
import Derived.LoopIn
import Derived.Maps.AppendAt
import Derived.Maps.OwnIn
namespace Go.Proofs.YtdjfakampjbgeaaGreatDoor
open Go Go.RowKit Go.Shelf
attribute [local go_sem] Oper.semAt_some
def Tryz.lays145_ren : Go.Shelf.Ren := ⟨fun | 145 => 108 | 220 => 111 | 219 => 88 | 217 => 101 | 225 => 102 | 224 => 103 | 267 => 104 | 266 => 109 | 314 => 110 | n => n, fun | 9 => 9 | 4 => 4 | 59 => 170 | 3 => 3 | 5 => 5 | 46 => 150 | 146 => 173 | 51 => 172 | n => n, fun | 1 => 1 | n => n⟩
theorem Tryz.lays145 : Go.Proofs.Lays.n145 Tryz.prog Tryz.lays145_ren := {
  mixed := by kernel_rfl
  f145 := Tryz.func108.trans (congrArg some (by kernel_rfl))
  f217 := Tryz.func101.trans (congrArg some (by kernel_rfl))
  f219 := Tryz.func88.trans (congrArg some (by kernel_rfl))
  f220 := Tryz.func111.trans (congrArg some (by kernel_rfl))
  f224 := Tryz.func103.trans (congrArg some (by kernel_rfl))
  f225 := Tryz.func102.trans (congrArg some (by kernel_rfl))
  f266 := Tryz.func109.trans (congrArg some (by kernel_rfl))
  f267 := Tryz.func104.trans (congrArg some (by kernel_rfl))
  f314 := Tryz.func110.trans (congrArg some (by kernel_rfl))
  t3 := Tryz.underlying3
  a3 := Tryz.isAgg3
  z3 := Tryz.sizeOf3
  v3 := Tryz.zeroValue3
  t4 := Tryz.underlying4
  a4 := Tryz.isAgg4
  z4 := Tryz.sizeOf4
  v4 := Tryz.zeroValue4
  t5 := Tryz.underlying5
  a5 := Tryz.isAgg5
  z5 := Tryz.sizeOf5
  v5 := Tryz.zeroValue5
  t9 := Tryz.underlying9
  a9 := Tryz.isAgg9
  z9 := Tryz.sizeOf9
  v9 := Tryz.zeroValue9
  t46 := Tryz.underlying150
  a46 := Tryz.isAgg150
  z46 := Tryz.sizeOf150
  v46 := Tryz.zeroValue150
  t51 := Tryz.underlying172
  a51 := Tryz.isAgg172
  z51 := Tryz.sizeOf172
  v51 := Tryz.zeroValue172
  t59 := Tryz.underlying170
  a59 := Tryz.isAgg170
  z59 := Tryz.sizeOf170
  v59 := Tryz.zeroValue170
  t146 := Tryz.underlying173
  a146 := Tryz.isAgg173
  z146 := Tryz.sizeOf173
  v146 := Tryz.zeroValue173
  g1 := by kernel_rfl }

/-- the library's variable MaxLen, wherever it lies. -/
def Maxl (w : World) : Prop := ∃ m, w.cell? ⟨Tryz.lays145_ren.g 1, 0, none⟩ = some (.int .i64 m)
theorem Maxl.below {w w' : World} {B : Nat} (h : Maxl w) (hb : Below B w w') (hB : Tryz.lays145_ren.g 1 < B) : Maxl w' := by
  obtain ⟨m, hm⟩ := h
  exact ⟨m, (hb.cell (p := ⟨_, 0, none⟩) hB).trans hm⟩
theorem Maxl.lt {w : World} (h : Maxl w) : Tryz.lays145_ren.g 1 < w.heap.size := by
  obtain ⟨m, hm⟩ := h
  exact World.block_lt_of_cell? w _ hm
theorem cut_any (l : List UInt8) (w : World) (hs : l.length < 4294967281) (hm : Maxl w) {a r : List UInt8} {b : Bool} (hc : Lib.cut l [47] = (a, r, b)) : Calls Tryz.prog 108 #[.string (bs l), .string ⟨#[47]⟩] w fun e w' => e = .returned (.tuple #[.string (bs a), .string (bs r), .bool b]) ∧ ∃ n, w' = w.drewN n := by
  obtain ⟨m, hm⟩ := hm
  have := Any.strings_Cut Tryz.lays145 (bs l) ⟨#[47]⟩ m w (by rw [bs_size]; exact hs) hm
  refine Calls.mono this ?_
  rintro e w' ⟨rfl, h⟩
  refine ⟨?_, h⟩
  have e1 : (bs l).data.toList = l := bl_bs l
  rw [e1, show (⟨#[47]⟩ : ByteArray).data.toList = [47] from rfl, hc]
  rfl

theorem own_drewN {β : Type} {B : Nat} {I : β → World → Prop} (h : OwnFrom B I) {s : β} {W : World} (hs : I s W) (n : Nat) : I s (W.drewN n) :=
  h s W _ none hs (grown_of_below (below_drewN (Below.refl _ _) n) none) (fun r e => by cases e)
set_option maxRecDepth 100000 in
set_option maxHeartbeats 1000000 in
theorem all_seq (n : Nat) (s : List UInt8) (B : Nat) (w : World) (hs : s.length < 1000000000) (hc : w.cell? ⟨B, 0, none⟩ = some (.string (bs s))) :
    SeqO n Tryz.prog 107 #[.pointer (some ⟨B, 0, none⟩)] (fun x : List UInt8 => #[Value.string (bs x)]) Maxl (Gl.splitL s) w := by
  intro l J Jx V hV hJ hJx hK hY h0
  have hlt : B < w.heap.size := World.block_lt_of_cell? w _ hc
  have hcV : V.cell? ⟨B, 0, none⟩ = some (.string (bs s)) := (hV.cell (p := ⟨B, 0, none⟩) hlt).trans hc
  refine callsIn_of_wp Tryz.func107 rfl trivial ?_ rfl
  simp only [Tryz.ntmps107, List.size_toArray, List.length_cons, List.length_nil, Nat.reduceAdd, Nat.reduceSub, Array.replicate_succ, Array.replicate_zero, List.push_toArray, List.append_toArray, List.nil_append, List.cons_append]
  gi_wp2
  gi_loopw [3, 4, 5] (fun rest more _ wr => ∃ (pre : List (List UInt8)) (r : List UInt8) (b : Bool), rest = .string (bs r) ∧ more = .bool b ∧ r.length < 1000000000 ∧ Hid (if b then Gl.splitL s = pre ++ Gl.splitL r else Gl.splitL s = pre) ∧ J V.heap.size pre wr ∧ V.heap.size ≤ wr.heap.size)
    (fun rest more _ _ => match rest, more with | .string x, .bool true => x.size + 1 | _, _ => 0)
  case atStart =>
    exact ⟨[], s, true, rfl, rfl, hs, by show (if true then _ else _); simp, h0 _, Nat.le_refl _⟩
  case round =>
    obtain ⟨pre, r, b, rfl, rfl, hr, HS, hJs, hsz⟩ := hrel
    cases b with
    | false =>
      gi_wp2
      go_end0
      have hp : Gl.splitL s = pre := HS.out
      exact ⟨⟨_, rfl⟩, .inl ⟨_, by rw [hp]; exact hJs⟩⟩
    | true =>
      have hp : Gl.splitL s = pre ++ Gl.splitL r := HS.out
      rcases Gl.cut_slash r with ⟨hcut, hno⟩ | ⟨a, r', hra, hno, hcut⟩
      · rw [Gl.splitL_no r hno] at hp
        have hpre : pre ++ [r] <+: Gl.splitL s := by rw [hp]; exact List.prefix_refl _
        have HS2 : Hid (Gl.splitL s = pre ++ [r]) := hp
        gi_wp2_with (refine ⟨trivial, (fun h => by cases h), ?_⟩; gi_at_call 108; refine (callsIn_wide.2 (cut_any r _ (by omega) (hK _ _ _ hJs) hcut)).mono ?_; rintro e w' ⟨rfl, m, rfl⟩; obtain ⟨fn, tmps, assign, body, hy, hR⟩ := hY V.heap.size pre r (wr.drewN m) (Nat.le_refl _) (show V.heap.size ≤ wr.heap.size from hsz) (own_drewN (hJ _) hJs m) hpre)
        refine ⟨(fun h => by cases h), (round_wide _ hR).mono ?_⟩
        rintro e W3 ⟨hst, (⟨rfl, hJ3⟩ | ⟨rfl, hJx3⟩)⟩
        · gi_wp2
          go_roundw
          case rel => exact ⟨pre ++ [r], [], false, rfl, rfl, by simp, HS2, hJ3, Nat.le_trans hsz hst.1⟩
          case measure => simp
        · gi_wp2
          refine bodyPost_ret (results_none rfl _ _ _) rfl ?_
          exact ⟨⟨_, rfl⟩, .inr ⟨_, _, hJx3⟩⟩
      · rw [hra, Gl.splitL_cut a r' hno] at hp
        have hpre : pre ++ [a] <+: Gl.splitL s := by rw [hp]; exact ⟨Gl.splitL r', by simp⟩
        have HS2 : Hid (Gl.splitL s = (pre ++ [a]) ++ Gl.splitL r') := by show _ = _; rw [hp]; simp
        have hl : r.length = a.length + 1 + r'.length := by rw [hra]; simp; omega
        have HL := Lib.hid hl
        clear hl hra
        gi_wp2_with (refine ⟨trivial, (fun h => by cases h), ?_⟩; gi_at_call 108; refine (callsIn_wide.2 (cut_any r _ (by omega) (hK _ _ _ hJs) hcut)).mono ?_; rintro e w' ⟨rfl, m, rfl⟩; obtain ⟨fn, tmps, assign, body, hy, hR⟩ := hY V.heap.size pre a (wr.drewN m) (Nat.le_refl _) (show V.heap.size ≤ wr.heap.size from hsz) (own_drewN (hJ _) hJs m) hpre)
        refine ⟨(fun h => by cases h), (round_wide _ hR).mono ?_⟩
        rintro e W3 ⟨hst, (⟨rfl, hJ3⟩ | ⟨rfl, hJx3⟩)⟩
        · gi_wp2
          go_roundw
          case rel => exact ⟨pre ++ [a], r', true, rfl, rfl, by have := HL.out; omega, HS2, hJ3, Nat.le_trans hsz hst.1⟩
          case measure => have := HL.out; simp [bs_size]; omega
        · gi_wp2
          refine bodyPost_ret (results_none rfl _ _ _) rfl ?_
          exact ⟨⟨_, rfl⟩, .inr ⟨_, _, hJx3⟩⟩
end Go.Proofs.YtdjfakampjbgeaaGreatDoor
/- path.Pieces as an iterator; glob.names. -/
namespace Go.Proofs.YtdjfakampjbgeaaGreatDoor
open Go Go.RowKit Go.Shelf
attribute [local go_sem] Oper.semAt_some

theorem all_in (n : Nat) (s : List UInt8) (w : World) : CallsIn Fence.wide n Tryz.prog 93 #[.string (bs s)] w fun e w' => e = .returned (.func (.func 107) #[] #[.pointer (some ⟨w.heap.size, 0, none⟩)]) ∧ w' = w.alloc (.cells #[.string (bs s)] 9) := by
  refine callsIn_of_wp Tryz.func93 rfl trivial ?_ rfl
  simp only [Tryz.ntmps93, List.size_toArray, List.length_cons, List.length_nil, Nat.reduceAdd, Nat.reduceSub, Array.replicate_succ, Array.replicate_zero, List.push_toArray, List.append_toArray, List.nil_append, List.cons_append]
  gi_wp2
  go_ret
  exact ⟨rfl, rfl⟩
def flt (l : List (List UInt8)) : List (List UInt8) := l.filter fun x => !x.isEmpty
theorem flt_snoc_no (l : List (List UInt8)) : flt (l ++ [[]]) = flt l := by simp [flt]
theorem flt_snoc {l : List (List UInt8)} {x : List UInt8} (h : x ≠ []) : flt (l ++ [x]) = flt l ++ [x] := by
  simp only [flt, List.filter_append]
  cases x with
  | nil => exact absurd rfl h
  | cons c x => rfl
theorem flt_prefix {a b : List (List UInt8)} (h : a <+: b) : flt a <+: flt b := by
  obtain ⟨c, rfl⟩ := h
  exact ⟨flt c, by simp [flt]⟩
theorem own_flt {B B' : Nat} {J : List (List UInt8) → World → Prop} (h : OwnFrom B J) (hb : B ≤ B') : OwnFrom B' (fun pre W => J (flt pre) W) :=
  fun s X Y row hs hg hr => h (flt s) X Y row hs hg (fun r e => ⟨Nat.le_trans hb (hr r e).1, (hr r e).2⟩)
theorem bs_empty (x : List UInt8) : (bs x).toList.isEmpty = x.isEmpty := by
  have : (bs x).toList = x := by rw [ByteArray.toList_eq]; rfl
  rw [this]
set_option maxRecDepth 100000 in
set_option maxHeartbeats 1000000 in
theorem pieces_seq (n : Nat) (s : List UInt8) (B : Nat) (w : World) (hs : s.length < 1000000000) (hc : w.cell? ⟨B, 0, none⟩ = some (.string (bs s))) :
    SeqO n Tryz.prog 92 #[.pointer (some ⟨B, 0, none⟩)] (fun x : List UInt8 => #[Value.string (bs x)]) Maxl (Gl.namesL s) w := by
  intro l J Jx V hV hJ hJx hK hY h0
  have hlt : B < w.heap.size := World.block_lt_of_cell? w _ hc
  have hltV : B < V.heap.size := Nat.lt_of_lt_of_le hlt hV.size
  have hcV : V.cell? ⟨B, 0, none⟩ = some (.string (bs s)) := (hV.cell (p := ⟨B, 0, none⟩) hlt).trans hc
  refine callsIn_of_wp_marks Tryz.func92 rfl trivial ?_ rfl
  simp only [Tryz.ntmps92, List.size_toArray, List.length_cons, List.length_nil, Nat.reduceAdd, Nat.reduceSub, Array.replicate_succ, Array.replicate_zero, List.push_toArray, List.append_toArray, List.nil_append, List.cons_append]
  gi_wp2_with (refine ⟨trivial, (fun h => by cases h), ?_⟩; gi_at_call 93; refine (all_in _ s _).mono ?_; rintro e w' ⟨rfl, rfl⟩)
  have bY := Boxed.new V 47 (.func (.yield l) #[] #[])
  have bS := Boxed.new (V.alloc (.cells #[.func (.yield l) #[] #[]] 47)) 9 (.string (bs s))
  rw [World.size_alloc] at bS
  obtain ⟨w2, hw2⟩ : ∃ w2, (V.alloc (.cells #[.func (.yield l) #[] #[]] 47)).alloc (.cells #[.string (bs s)] 9) = w2 := ⟨_, rfl⟩
  have hB2 : Below V.heap.size V w2 := by rw [← hw2]; exact ((Below.refl _ V).alloc (Nat.le_refl _) _).alloc (by simp) _
  have hz2 : w2.heap.size = V.heap.size + 2 := by rw [← hw2]; simp
  have h02 : ∀ H, J H [] w2 := fun H => by rw [← hw2]; exact (hJ H).alloc _ ((hJ H).alloc _ (h0 H))
  have bY2 : Boxed w2 V.heap.size 47 (.func (.yield l) #[] #[]) := by rw [← hw2]; exact bY.alloc _
  rw [hw2] at bS ⊢
  clear hw2 bY
  refine wpIn_range_o (gf := 107) (lb := #[.pointer (some ⟨V.heap.size + 1, 0, none⟩)]) rfl (enters_of Tryz.func107 (by kernel_rfl) rfl) (all_seq n s (V.heap.size + 1) w2 hs bS.cell) (Below.refl _ _) (fun _ => rfl)
    (fun H pre W => J H (flt pre) W ∧ Boxed W V.heap.size 47 (.func (.yield l) #[] #[]))
    (fun H c pre W => c = Code.ret ∧ Jx H (flt pre) W)
    (fun H => OwnFrom.and (own_flt (hJ H) (by omega)) (Own.from (boxed_own _ _ (fun _ => .func (.yield l) #[] #[])) _))
    (fun H c => OwnFrom.and (ownFrom_pure _ _) (own_flt (hJx H) (by omega)))
    (fun H pre W hs => hK H _ W hs.1)
    (fun H => ⟨h02 H, bY2⟩)
    (fun x => { tmps := #[.func (.yield l) #[] #[], .pointer (some ⟨B, 0, none⟩), .pointer (some ⟨V.heap.size, 0, none⟩), .string (bs x), .string (bs s), .func (.func 107) #[] #[.pointer (some ⟨V.heap.size + 1, 0, none⟩)], .string (bs x), undef, undef, undef, undef, undef, undef, undef, undef], defers := [] }) ?assign ?body ?done ?stop
  case assign =>
    intro l x W K hK
    gi_wp2
    exact hK
  case body =>
    rintro l' H pre x W hwH hHW ⟨hJp, hbox⟩ hpre
    by_cases hx : x = []
    · subst hx
      have tx : (bs ([] : List UInt8)).toList.isEmpty = true := bs_empty []
      gi_wp2
      refine ⟨fun _ h => (by cases h), ?_⟩
      gi_wp2
      exact ⟨Stays.refl _ _ _, by rw [flt_snoc_no]; exact hJp, hbox⟩
    · have tx : (bs x).toList.isEmpty = false := by rw [bs_empty]; simpa using hx
      have hcb := hbox.cell
      have hp2 : flt pre ++ [x] <+: Gl.namesL s := by rw [← flt_snoc hx]; exact flt_prefix hpre
      obtain ⟨fn, tmps, assign, body, hy, hR⟩ := hY H (flt pre) x W (by omega) hHW hJp hp2
      gi_wp2
      refine ⟨(fun h => by cases h), (round_in l' _ hR).mono ?_⟩
      rintro e W3 ⟨hst, (⟨rfl, hJ3⟩ | ⟨rfl, hJx3⟩)⟩
      · gi_wp2
        exact ⟨hst.higher (by omega), by rw [flt_snoc hx]; exact hJ3, (hst.2 _ (Nat.le_refl _) (by omega)).trans hbox⟩
      · gi_wp2
        exact ⟨hst.higher (by omega), rfl, by rw [flt_snoc hx]; exact hJx3⟩
  case done =>
    rintro D H W hD ⟨hi, _⟩ hk
    gi_wp2
    have hJe : J H (Gl.namesL s) (W.putObj D (.deferred none)) := (hJ H).putObj _ hi (by omega) hk rfl
    refine ⟨by simp, .inl ⟨_, _, rfl, run_takeDeferred hk, ?_⟩⟩
    exact ⟨_, results_none rfl _ _ _, ⟨_, rfl⟩, .inl ⟨H, hJe⟩⟩
  case stop =>
    rintro D H c pre W hD ⟨rfl, hi⟩ hk
    gi_wp2
    have hJe : Jx H (flt pre) (W.putObj D (.deferred none)) := (hJx H).putObj _ hi (by omega) hk rfl
    refine ⟨by simp, .inl ⟨_, _, rfl, run_takeDeferred hk, ?_⟩⟩
    exact ⟨_, results_none rfl _ _ _, ⟨_, rfl⟩, .inr ⟨H, _, hJe⟩⟩
end Go.Proofs.YtdjfakampjbgeaaGreatDoor
/- glob.names. -/
namespace Go.Proofs.YtdjfakampjbgeaaGreatDoor
open Go Go.RowKit Go.Shelf
attribute [local go_sem] Oper.semAt_some

theorem pieces_in (n : Nat) (s : List UInt8) (w : World) : CallsIn Fence.wide n Tryz.prog 76 #[.string (bs s)] w fun e w' => e = .returned (.func (.func 92) #[] #[.pointer (some ⟨w.heap.size, 0, none⟩)]) ∧ w' = w.alloc (.cells #[.string (bs s)] 9) := by
  refine callsIn_of_wp Tryz.func76 rfl trivial ?_ rfl
  simp only [Tryz.ntmps76, List.size_toArray, List.length_cons, List.length_nil, Nat.reduceAdd, Nat.reduceSub, Array.replicate_succ, Array.replicate_zero, List.push_toArray, List.append_toArray, List.nil_append, List.cons_append]
  gi_wp2
  go_ret
  exact ⟨rfl, rfl⟩
theorem info_str : (Tryz.prog.info? 9).map (fun i => (i.zero, i.size, i.bytes)) = some (some (.string ⟨#[]⟩), 1, 16) := by kernel_rfl
theorem alloc_grown (W : World) (o : Obj) : W.grownBy (W.alloc o) none := ⟨rfl, rfl, rfl, by simp, fun k hk _ => Below.heap_alloc W o k hk⟩
set_option maxRecDepth 100000 in
set_option maxHeartbeats 2000000 in
theorem names_in (n : Nat) (s : List UInt8) (w : World) (hs : s.length < 1000000000) (hm : Maxl w) :
    CallsIn Fence.wide n Tryz.prog 50 #[.string (bs s)] w fun e W' => ∃ v, e = .returned v ∧ W'.ownsRow w.heap.size 9 1 v (Gl.namesL s).length (sc (Gl.namesL s)) ∧ Below w.heap.size w W' := by
  obtain ⟨i0, hi, hz0, hz1, hz2⟩ := info_parts info_str
  have hln := Gl.namesL_length s
  refine callsIn_of_wp_marks Tryz.func50 rfl trivial ?_ rfl
  simp only [Tryz.ntmps50, List.size_toArray, List.length_cons, List.length_nil, Nat.reduceAdd, Nat.reduceSub, Array.replicate_succ, Array.replicate_zero, List.push_toArray, List.append_toArray, List.nil_append, List.cons_append]
  gi_wp2_with (refine ⟨trivial, (fun h => by cases h), ?_⟩; gi_at_call 76; refine (pieces_in _ s _).mono ?_; rintro e w' ⟨rfl, rfl⟩)
  have bO := Boxed.new w 42 (.slice none 0 0)
  have bS := Boxed.new (w.alloc (.cells #[.slice none 0 0] 42)) 9 (.string (bs s))
  rw [World.size_alloc] at bS
  obtain ⟨w2, hw2⟩ : ∃ w2, (w.alloc (.cells #[.slice none 0 0] 42)).alloc (.cells #[.string (bs s)] 9) = w2 := ⟨_, rfl⟩
  have hB2 : Below w.heap.size w w2 := by rw [← hw2]; exact ((Below.refl _ w).alloc (Nat.le_refl _) _).alloc (by simp) _
  have hzw : w2.heap.size = w.heap.size + 2 := by rw [← hw2]; simp
  have bO2 : Boxed w2 w.heap.size 42 (.slice none 0 0) := by rw [← hw2]; exact bO.alloc _
  rw [hw2] at bS ⊢
  clear hw2 bO
  refine wpIn_range_o (gf := 92) (lb := #[.pointer (some ⟨w.heap.size + 1, 0, none⟩)]) rfl (enters_of Tryz.func92 (by kernel_rfl) rfl) (pieces_seq n s (w.heap.size + 1) w2 hs bS.cell) (Below.refl _ _) (fun _ => rfl)
    (fun H pre W => (∃ v, Boxed W w.heap.size 42 v ∧ W.ownsRow w.heap.size 9 1 v pre.length (sc pre) ∧ ∀ g, v.ownBlock = some g → H ≤ g) ∧ Below w.heap.size w W)
    (fun _ _ _ _ => False)
    (fun H => OwnFrom.and (Own.from (holdsRow_own w.heap.size w.heap.size 42 9 1 (fun pre => pre.length) (fun pre => sc pre) (fun _ v => ∀ g, v.ownBlock = some g → H ≤ g)) _) (ownFrom_below (Nat.le_refl _) (by omega)))
    (fun _ _ _ _ _ _ hs _ _ => hs)
    (fun H pre W hs => hm.below hs.2 hm.lt)
    (fun H => ⟨⟨_, bO2, World.ownsRow_nil _ _ _ _, fun g e => by cases e⟩, hB2⟩)
    (fun x => { tmps := #[.string (bs s), undef, .slice none 0 0, .pointer (some ⟨w.heap.size, 0, none⟩), .string (bs x), .string (bs s), .func (.func 92) #[] #[.pointer (some ⟨w.heap.size + 1, 0, none⟩)], .string (bs x), undef, undef, undef, undef, undef], defers := [] }) ?assign ?body ?done ?stop
  case assign =>
    intro l x W K hK
    gi_wp2
    exact hK
  case body =>
    rintro l H pre x W hwH hHW ⟨⟨v, hv, hrow, hown⟩, hB⟩ hpre
    have hpl : pre.length + 1 ≤ (Gl.namesL s).length := by have := hpre.length_le; simpa using this
    have hc := hv.cell
    have hmx : maxLen = 9223372036854775807 := rfl
    gi_wp2_with (gi_at_builtin; refine wpListIn_append_own_at _ rfl _ _ 42 rfl w.heap.size 9 i0 (.string ⟨#[]⟩) 1 16 Tryz.underlying42 hi hz0 hz1 hz2 rfl (by decide) _ _ _ rfl (hrow.alloc _) ⟨W.heap.size, 0, none⟩ 1 1 [.string (bs x)] rfl rfl (cell_one_new _ _ _) (by simp [Value.oneCell']) (by omega) (by omega) (by have := hB.size; simp; omega) ?_; intro v' w1 hown' hgrow _ hat; obtain ⟨g', cap', rfl⟩ := ownsRow_succ hown'; obtain ⟨hv1, hv2, hr2, hk2, hb2⟩ := hv.appended (by decide) hrow hB.size (Nat.le_refl _) hown' hgrow; have hc1 := hv1.cell; have hf1 := hv1.frozen)
    have hg1 : (W.alloc (.cells #[.string (bs x)] 9)).grownBy w1 v.ownBlock := hgrow
    have hat1 : some g' = v.ownBlock ∨ some g' = some (W.alloc (.cells #[.string (bs x)] 9)).heap.size := hat
    refine ⟨?_, ⟨⟨_, hv2, ?_, ?_⟩, hB.trans hb2⟩⟩
    · exact ((Stays.of_grown (alloc_grown W _) hHW (fun r e => by cases e)).trans (Stays.of_grown hg1 (by simp; omega) (fun r e => .inr (hown r e)))).trans (Stays.of_grown (grownBy_setCell' w1 w.heap.size _) (by have := hg1.size; simp at this; omega) (fun r e => by cases e; exact .inl (by omega)))
    · rw [List.length_append, sc_append]
      exact hr2
    · intro g e
      obtain rfl : g' = g := by injection e
      rcases hat1 with h | h
      · exact hown _ h.symm
      · have : g' = W.heap.size + 1 := by simpa using h
        omega
  case done =>
    rintro D H W hD ⟨⟨v, hv, hrow, _⟩, hB⟩ hk
    have hc := hv.cell
    gi_wp2
    refine ⟨by simp, .inl ⟨_, _, rfl, run_takeDeferred hk, ?_⟩⟩
    exact ⟨_, results_tmp rfl _ _ _, v, rfl, ownsRow_putObj hrow _ hk rfl, hB.trans (belowK_b (w := w) (Nat.le_refl _) W D _ _ (by omega) hk rfl rfl)⟩
  case stop =>
    rintro D H c pre W _ h _
    exact h.elim
/-- the names of a text. -/
theorem names_any (s : ByteArray) (w : World) (hs : s.size < 1000000000) (hm : Maxl w) :
    Calls Tryz.prog 50 #[.string s] w fun e W' => ∃ v, e = .returned v ∧ W'.ownsRow w.heap.size 9 1 v (Gl.namesL (bl s)).length (sc (Gl.namesL (bl s))) ∧ Below w.heap.size w W' := by
  have := names_in 3 (bl s) w (by rw [bl_length]; exact hs) hm
  rw [bs_bl] at this
  exact callsIn_wide.1 this
end Go.Proofs.YtdjfakampjbgeaaGreatDoor
