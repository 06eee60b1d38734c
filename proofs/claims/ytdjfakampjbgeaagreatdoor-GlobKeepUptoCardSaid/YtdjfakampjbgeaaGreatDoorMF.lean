/- errors.Is, errors.As for an api.Fault; stratakit.Num, Place, At of one. -/
import Derived.Test.YtdjfakampjbgeaaGreatDoorMD
import Derived.Test.YtdjfakampjbgeaaGreatDoorBlk
import Derived.Laws.Tables
import Derived.Laws.Cells
import Derived.Deep.RegionHeld3
import Derived.Deep.DeepCutAuto
import Derived.Below
namespace Go.Proofs.YtdjfakampjbgeaaGreatDoor
open Go.RowKit Go.Extern.Stop Go.Stop Go.Extern

/-- the error strata/api.Fault. -/
abbrev eFault (no : Int) (line : Int) (at_ : Int) : Value := .iface 58 (.agg #[.int .i64 no, .int .i64 line, .int .i64 at_])

namespace IsFault
theorem noIs (v : Value) (w : World) : (Instr.typeAssert (.iface 58 v) 28 130 true).run Tryz.prog w = .ok (.tuple #[.nilIface, .bool false]) w := run_typeAssert_lacksB Tryz.underlying130 (by kernel_rfl) (by kernel_rfl) v _ w
theorem hasUnwrap (v : Value) (w : World) : (Instr.typeAssert (.iface 58 v) 28 133 true).run Tryz.prog w = .ok (.tuple #[.iface 58 v, .bool true]) w := run_typeAssert_hasB Tryz.underlying133 (by kernel_rfl) v _ w
end IsFault

theorem unwrapFault (no : Int) (line : Int) (at_ : Int) (w : World) : Calls Tryz.prog 131 #[.agg #[.int .i64 no, .int .i64 line, .int .i64 at_]] w fun e w' => e = .returned (eno no) ∧ w' = w.alloc (.cells #[.int .i64 no, .int .i64 line, .int .i64 at_] 58) := by
  go_enter Tryz.func131, Tryz.ntmps131
  go_wp2
  go_ret
  exact ⟨rfl, rfl⟩

set_option maxHeartbeats 2000000 in
theorem isFault (no : Int) (line : Int) (at_ : Int) (b : Int) (w : World) :
    Calls Tryz.prog 25 #[eFault no line at_, eno b] w fun e w' => e = .returned (.bool (no == b)) ∧ Below w.heap.size w w' := by
  obtain ⟨i, hi, hcmp⟩ := Option.map_eq_some_iff.1 Is.info
  have h8 := @run_callFunc_extern Tryz.prog 52 _ ReflectliteType.typeOf Tryz.func52 (by kernel_rfl) (by kernel_rfl) (by kernel_rfl) (by kernel_rfl)
  have h32 := @run_callFunc_extern Tryz.prog 134 _ Is.cmpFn Tryz.func134 (by kernel_rfl) (by kernel_rfl) (by kernel_rfl) (by kernel_rfl)
  have tT := Is.typeOf
  have cT := Is.comparable
  have n1 := Is.noIs
  have n2 := Is.noUnwrap
  have n3 := Is.noUnwraps
  have n4 := IsFault.noIs
  have n5 := IsFault.hasUnwrap
  have heq := fun W => run_eql_iface_int (P := Tryz.prog) W no b Tryz.underlying28 Tryz.underlying56 hi hcmp
  have hty := run_eql_iface_types (P := Tryz.prog) 58 56 (.agg #[.int .i64 no, .int .i64 line, .int .i64 at_]) (.int .i64 b) Tryz.underlying28 (by decide)
  by_cases hab : no = b
  · have hb : (no == b) = true := by simp [hab]
    clear hab
    go_enter Tryz.func25, Tryz.ntmps25
    go_wp2_with (first | (go_at_call 131; refine (unwrapFault _ _ _ _).mono ?_; rintro e w' ⟨rfl, rfl⟩) | go_in)
    refine wp_loop_rounds 2 ?_
    rw [rounds_succ]
    go_wp2_with (first | (go_at_call 131; refine (unwrapFault _ _ _ _).mono ?_; rintro e w' ⟨rfl, rfl⟩) | go_in)
    rw [rounds_succ]
    go_wp2
    go_ret
    exact ⟨by rw [hb]; rfl, (Below.refl _ _).alloc (Nat.le_refl _) _⟩
  · have hb : (no == b) = false := by simp [hab]
    clear hab
    go_enter Tryz.func25, Tryz.ntmps25
    go_wp2_with (first | (go_at_call 131; refine (unwrapFault _ _ _ _).mono ?_; rintro e w' ⟨rfl, rfl⟩) | go_in)
    refine wp_loop_rounds 2 ?_
    rw [rounds_succ]
    go_wp2_with (first | (go_at_call 131; refine (unwrapFault _ _ _ _).mono ?_; rintro e w' ⟨rfl, rfl⟩) | go_in)
    rw [rounds_succ]
    go_wp2
    go_ret
    exact ⟨by rw [hb]; rfl, (Below.refl _ _).alloc (Nat.le_refl _) _⟩

namespace AsFault
theorem typeOf (v : Value) (w : World) : (ReflectliteType.typeOf #[.iface 58 v]).run Tryz.prog w = .ok (.iface 128 (.agg #[.pointer (some ⟨4, 58, none⟩)])) w := by kernel_rfl
theorem assign (w : World) : (As.assignFn #[.agg #[.pointer (some ⟨4, 58, none⟩)], .iface 128 (.agg #[.pointer (some ⟨4, 58, none⟩)])]).run Tryz.prog w = .ok (.bool true) w := by kernel_rfl
theorem valueOf (no line at_ : Int) (w : World) : (ReflectliteValue.unpack (.iface 58 (.agg #[.int .i64 no, .int .i64 line, .int .i64 at_]))).run Tryz.prog w
    = .ok (.agg #[.pointer (some ⟨4, 58, none⟩), .pointer (some ⟨w.heap.size, 0, none⟩), .int .u64 153]) (w.alloc (.cells #[.int .i64 no, .int .i64 line, .int .i64 at_] 58)) := by kernel_rfl
theorem elemOf (w : World) : (Rtype.elem? 100).run Tryz.prog w = .ok (some 58) w := by kernel_rfl
theorem mk (p : Addr) (w : World) : (ReflectliteValue.mk 58 p ReflectliteValue.flagAddr).run Tryz.prog w = .ok (.agg #[.pointer (some ⟨4, 58, none⟩), .pointer (some p), .int .u64 409]) w := by kernel_rfl
def elemVFn : Array Value → Sem Value := ReflectliteValue.method (ReflectliteValue.valueError "reflectlite.Value.Elem" 0) ReflectliteValue.elem
theorem elemV (a p : Addr) (W : World) (ha : W.cell? a = some (.pointer (some p))) :
    (elemVFn #[.agg #[.pointer (some ⟨4, 100, none⟩), .pointer (some a), .int .u64 150]]).run Tryz.prog W = .ok (.agg #[.pointer (some ⟨4, 58, none⟩), .pointer (some p), .int .u64 409]) W := by
  unfold elemVFn
  rw [As.rlm]
  simp only [Sem.run_bind, As.partsP, Result.andThen]
  simp [ReflectliteValue.elem, loadVar, isAgg, underlying, Tryz.underlying100, ha, Result.andThen, elemOf, mk]
def setFn : Array Value → Sem Value := ReflectliteValue.set
theorem rls (v x : Value) : ReflectliteValue.set #[v, x] = (do
    let (some (dst, a, fl), some (src, b, _)) := (← ReflectliteValue.parts v, ← ReflectliteValue.parts x)
      | unsupported (.noEntry "extern/(internal/reflectlite.Value).Set.zeroValue")
    if fl / ReflectliteValue.flagAddr % 2 == 0 then unsupported (.noEntry "extern/(internal/reflectlite.Value).Set.unaddressable")
    let val ← loadVar src b
    if ← Rtype.directlyAssignable dst src then storeVar dst a val
    else if ← Rtype.implements dst src then
      if (← Rtype.kind src) == 20 then
        match val with
        | .nilIface => unsupported (.noEntry "extern/reflectlite: a nil value of one interface type handed on as a value of another")
        | _ => storeVar dst a val
      else storeVar dst a (.iface src val)
    else panicString ("reflectlite.Set: value of type " ++ (← Rtype.spelt src) ++ " is not assignable to type " ++ (← Rtype.spelt dst))
    pure (.tuple #[])) := rfl
theorem parts9 (a : Addr) (w : World) : (ReflectliteValue.parts (.agg #[.pointer (some ⟨4, 58, none⟩), .pointer (some a), .int .u64 409])).run Tryz.prog w = .ok (some (58, a, 409)) w := by kernel_rfl
theorem parts3 (a : Addr) (w : World) : (ReflectliteValue.parts (.agg #[.pointer (some ⟨4, 58, none⟩), .pointer (some a), .int .u64 153])).run Tryz.prog w = .ok (some (58, a, 153)) w := by kernel_rfl
theorem direct (w : World) : (Rtype.directlyAssignable 58 58).run Tryz.prog w = .ok true w := by kernel_rfl
theorem setV (tb b : Nat) (a0 a1 a2 : Value) (no line at_ : Int) (W : World) (hb : Blk W b 58 #[.int .i64 no, .int .i64 line, .int .i64 at_]) (ht : Blk W tb 58 #[a0, a1, a2]) :
    (setFn #[.agg #[.pointer (some ⟨4, 58, none⟩), .pointer (some ⟨tb, 0, none⟩), .int .u64 409], .agg #[.pointer (some ⟨4, 58, none⟩), .pointer (some ⟨b, 0, none⟩), .int .u64 153]]).run Tryz.prog W
      = .ok (.tuple #[]) (W.setRow tb #[.int .i64 no, .int .i64 line, .int .i64 at_]) := by
  have hl : (loadCells ⟨b, 0, none⟩ 3).run Tryz.prog W = .ok #[.int .i64 no, .int .i64 line, .int .i64 at_] W :=
    run_loadCells_list (P := Tryz.prog) (w := W) ⟨b, 0, none⟩ [.int .i64 no, .int .i64 line, .int .i64 at_] (fun j v hj => by
      have hc := hb.cell j
      have ea : (⟨b, 0, none⟩ : Addr).add j = ⟨b, j, none⟩ := by unfold Addr.add; split <;> simp_all
      rw [ea, hc]
      simpa using hj)
  have hs : (storeCells ⟨tb, 0, none⟩ [.int .i64 no, .int .i64 line, .int .i64 at_] 0).run Tryz.prog W = .ok () (W.setRow tb #[.int .i64 no, .int .i64 line, .int .i64 at_]) := by
    have := run_storeCells_from (P := Tryz.prog) tb 58 [.int .i64 no, .int .i64 line, .int .i64 at_] 0 #[a0, a1, a2] W ht rfl (by simp [Value.oneCell'])
    simpa using this
  unfold setFn
  rw [rls]
  simp only [Sem.run_bind, parts9, parts3, Result.andThen]
  simp [ReflectliteValue.flagAddr, loadVar, hl, Result.andThen, direct, storeVar, Value.cells, hs]
theorem xElem : ∀ (args : Array Value) (w : World), Sem.run Tryz.prog (callFunc 96 args) w = (((elemVFn) args).run Tryz.prog w).andThen fun v w' => Result.ok (Next.value v) w' := @run_callFunc_extern Tryz.prog 96 _ elemVFn Tryz.func96 (by kernel_rfl) (by kernel_rfl) (by kernel_rfl) (by kernel_rfl)
theorem xSet : ∀ (args : Array Value) (w : World), Sem.run Tryz.prog (callFunc 97 args) w = (((setFn) args).run Tryz.prog w).andThen fun v w' => Result.ok (Next.value v) w' := @run_callFunc_extern Tryz.prog 97 _ setFn Tryz.func97 (by kernel_rfl) (by kernel_rfl) (by kernel_rfl) (by kernel_rfl)
end AsFault
/-- the target holds the error. -/
def Hit (w w' : World) (tb : Nat) (no line at_ : Int) : Prop := Blk w' tb 58 #[.int .i64 no, .int .i64 line, .int .i64 at_] ∧ w.grownBy w' (some tb)
theorem Hit.mk {w W : World} {tb : Nat} {no line at_ : Int} {cs : Array Value} (hg : w.grownBy W none) (hb : Blk W tb 58 cs) : Hit w (W.setRow tb #[.int .i64 no, .int .i64 line, .int .i64 at_]) tb no line at_ := by
  refine ⟨setRow_heap W tb _ _ _ _ hb, hg.os, hg.tape, hg.output, by rw [setRow_size]; exact hg.size, fun k hk hne => ?_⟩
  rw [← hg.block k hk (by simp)]
  simp [World.setRow, Array.getElem?_modify, show tb ≠ k from fun e => hne (by rw [e])]
set_option maxHeartbeats 4000000 in
theorem as_hit (no line at_ : Int) (tb : Nat) (a0 a1 a2 : Value) (w : World) (hg : ErrVar w) (ht : Blk w tb 58 #[a0, a1, a2]) :
    Calls Tryz.prog 55 #[eFault no line at_, .iface 100 (.pointer (some ⟨tb, 0, none⟩))] w fun e w' => e = .returned (.bool true) ∧ Hit w w' tb no line at_ := by
  have hlt := hg.lt
  unfold ErrVar at hg
  have htl := ht.lt
  have h6 := As.x6
  have h7 := As.x7
  have h8 := As.x8
  have h27 := As.x27
  have h37 := As.x37
  have h38 := As.x38
  have h10 := As.x10
  have h35 := As.x35
  have h11 := AsFault.xElem
  have h12 := AsFault.xSet
  have tO := AsFault.typeOf
  have a25 := AsFault.assign
  have v25 := AsFault.valueOf
  have f6 := As.valueOfP
  have f7 := As.typeP
  have k27 := As.kindP
  have k25 := As.kindF
  have e27 := As.elemP
  have i25 := As.implF
  have n8 := As.isNilP ⟨w.heap.size, 0, none⟩ ⟨tb, 0, none⟩ ((w.alloc (.cells #[.pointer (some ⟨tb, 0, none⟩)] 100)).alloc (.cells #[.pointer (some ⟨4, 100, none⟩), .pointer (some ⟨w.heap.size, 0, none⟩), .int .u64 150] 142)) (by simp)
  have hg2 : ((w.alloc (.cells #[.pointer (some ⟨tb, 0, none⟩)] 100)).alloc (.cells #[.pointer (some ⟨4, 100, none⟩), .pointer (some ⟨w.heap.size, 0, none⟩), .int .u64 150] 142)).cell? ⟨0, 0, none⟩ = some (.iface 128 (.agg #[.pointer (some ⟨4, 28, none⟩)])) := by
    rw [World.cell?_alloc_lt _ _ ⟨0, 0, none⟩ (by first | (simp; done) | (simp; omega)), World.cell?_alloc_lt _ _ ⟨0, 0, none⟩ hlt]; exact hg
  have el := AsFault.elemV ⟨w.heap.size, 0, none⟩ ⟨tb, 0, none⟩ (((w.alloc (.cells #[.pointer (some ⟨tb, 0, none⟩)] 100)).alloc (.cells #[.pointer (some ⟨4, 100, none⟩), .pointer (some ⟨w.heap.size, 0, none⟩), .int .u64 150] 142)).alloc (.cells #[.pointer (some ⟨4, 100, none⟩), .pointer (some ⟨w.heap.size, 0, none⟩), .int .u64 150] 142)) (by rw [World.cell?_alloc_lt _ _ ⟨w.heap.size, 0, none⟩ (by simp; omega)]; simp)
  have hT := (((ht.alloc (.cells #[.pointer (some ⟨tb, 0, none⟩)] 100)).alloc (.cells #[.pointer (some ⟨4, 100, none⟩), .pointer (some ⟨w.heap.size, 0, none⟩), .int .u64 150] 142)).alloc (.cells #[.pointer (some ⟨4, 100, none⟩), .pointer (some ⟨w.heap.size, 0, none⟩), .int .u64 150] 142)).alloc (.cells #[.int .i64 no, .int .i64 line, .int .i64 at_] 58)
  have hS := Blk.new (((w.alloc (.cells #[.pointer (some ⟨tb, 0, none⟩)] 100)).alloc (.cells #[.pointer (some ⟨4, 100, none⟩), .pointer (some ⟨w.heap.size, 0, none⟩), .int .u64 150] 142)).alloc (.cells #[.pointer (some ⟨4, 100, none⟩), .pointer (some ⟨w.heap.size, 0, none⟩), .int .u64 150] 142)) 58 #[.int .i64 no, .int .i64 line, .int .i64 at_]
  have st := AsFault.setV tb _ a0 a1 a2 no line at_ _ hS hT
  simp only [World.size_alloc] at st
  have hfin := Lib.hid (Hit.mk (w := w) (no := no) (line := line) (at_ := at_) (grown_of_below ((((Below.refl w.heap.size w).alloc (Nat.le_refl _) (.cells #[.pointer (some ⟨tb, 0, none⟩)] 100)).alloc (by simp) (.cells #[.pointer (some ⟨4, 100, none⟩), .pointer (some ⟨w.heap.size, 0, none⟩), .int .u64 150] 142)).alloc (by simp; omega) (.cells #[.pointer (some ⟨4, 100, none⟩), .pointer (some ⟨w.heap.size, 0, none⟩), .int .u64 150] 142) |>.alloc (by simp; omega) (.cells #[.int .i64 no, .int .i64 line, .int .i64 at_] 58)) none) hT)
  clear hS hT ht
  go_enter Tryz.func55, Tryz.ntmps55
  go_wp2
  refine wp_loop_rounds 1 ?_
  rw [rounds_succ]
  go_wp2
  go_ret
  exact ⟨rfl, hfin.out⟩
end Go.Proofs.YtdjfakampjbgeaaGreatDoor
/- stratakit.Place, At of an api.Fault. -/
namespace Go.Proofs.YtdjfakampjbgeaaGreatDoor
open Go.RowKit

theorem isNum_fault (no line at_ : Int) : IsNum (eFault no line at_) no := fun b w => isFault no line at_ b w
theorem num_fault (no line at_ : Int) (h1 : 1 ≤ no) (h2 : no ≤ 32) (w : World) : Calls Tryz.prog 7 #[eFault no line at_] w fun e w' => e = .returned (.int .i64 no) ∧ Below w.heap.size w w' := num_of _ _ no (isNum_fault no line at_) h1 h2 w
set_option maxRecDepth 100000 in
set_option maxHeartbeats 2000000 in
theorem place_fault (no line at_ : Int) (h1 : 1 ≤ no) (h2 : no ≤ 32) (w : World) (hg : ErrVar w) :
    Calls Tryz.prog 59 #[eFault no line at_] w fun e w' => e = .returned (.tuple #[.int .i64 line, .int .i64 at_, .bool true]) ∧ Below w.heap.size w w' := by
  have t0 : (no == no) = true := by simp
  have hB0 := (Below.refl w.heap.size w).alloc (Nat.le_refl _) (.cells #[.int .i64 0, .int .i64 0, .int .i64 0] 58)
  have hK0 := Blk.new w 58 #[.int .i64 0, .int .i64 0, .int .i64 0]
  have HG0 := Lib.hid (hg.below hB0 hg.lt)
  have HB0 := Lib.hid hB0
  have HK0 := Lib.hid hK0
  clear hg hB0 hK0
  go_enter Tryz.func59, Tryz.ntmps59
  go_wp2_with fail
  refine (as_hit no line at_ w.heap.size _ _ _ _ HG0.out HK0.out).mono ?_
  rintro e w1 ⟨rfl, hH, hG1⟩
  have hlt := hH.lt
  have c0 : w1.cell? ⟨w.heap.size, 0, none⟩ = some (.int .i64 no) := hH.cell 0
  have c1 : w1.cell? ⟨w.heap.size, 1, none⟩ = some (.int .i64 line) := hH.cell 1
  have c2 : w1.cell? ⟨w.heap.size, 2, none⟩ = some (.int .i64 at_) := hH.cell 2
  have hB1 := HB0.out.grown hG1 HB0.out.size (fun k e => by cases e; exact Nat.le_refl _)
  clear hH hG1
  go_upto_region 4 with fail
  go_cut [2, 3, 4] (fun s2 s3 s4 wx => s2 = .int .i64 line ∧ s3 = .int .i64 at_ ∧ s4 = .bool true ∧ Below w1.heap.size w1 wx)
  case first =>
    go_region_held3 (fun w' => w'.cell? ⟨w.heap.size, 0, none⟩ = some (.int .i64 no) ∧ w'.cell? ⟨w.heap.size, 1, none⟩ = some (.int .i64 line) ∧ w'.cell? ⟨w.heap.size, 2, none⟩ = some (.int .i64 at_)) (exact ⟨c0, c1, c2⟩) ((go_at_call 7; refine (num_fault no line at_ h1 h2 _).mono ?_; rintro e w9 ⟨rfl, hb0⟩; have c0 := (hb0.cell (p := ⟨w.heap.size, 0, none⟩) hlt).trans c0; have c1 := (hb0.cell (p := ⟨w.heap.size, 1, none⟩) hlt).trans c1; have c2 := (hb0.cell (p := ⟨w.heap.size, 2, none⟩) hlt).trans c2; have BX := below_of_below (by first | exact Below.refl w1.heap.size w1 | exact (Below.refl w1.heap.size w1).drew) hb0 (by first | exact Nat.le_refl _ | rfl)))
    go_wp2_with fail
    go_meet
    exact ⟨rfl, rfl, rfl, BX⟩
  case rest =>
    obtain ⟨rfl, rfl, rfl, bx⟩ := hcut
    go_wp2_with fail
    go_ret3
    exact ⟨rfl, below_of_below hB1 bx hB1.size⟩
set_option maxRecDepth 100000 in
set_option maxHeartbeats 1000000 in
theorem at_fault (no line at_ : Int) (h1 : 1 ≤ no) (h2 : no ≤ 32) (w : World) (hg : ErrVar w) :
    Calls Tryz.prog 34 #[eFault no line at_, .int .i64 no, .int .i64 line, .int .i64 at_] w fun e w' => e = .returned (.bool true) ∧ Below w.heap.size w w' := by
  have t0 : (no == 0) = false := by simp; omega
  have t1 : (no == no) = true := by simp
  have t2 : (line == line) = true := by simp
  have t3 : (at_ == at_) = true := by simp
  go_enter Tryz.func34, Tryz.ntmps34
  go_wp2_with fail
  refine (place_fault no line at_ h1 h2 _ hg).mono ?_
  rintro e w1 ⟨rfl, b1⟩
  go_wp2_with fail
  refine (num_fault no line at_ h1 h2 _).mono ?_
  rintro e w2 ⟨rfl, b2⟩
  go_wp2_with fail
  go_ret
  exact ⟨rfl, below_of_below b1 b2 b1.size⟩
set_option maxRecDepth 100000 in
theorem at_nil (line at_ : Int) (w : World) :
    Calls Tryz.prog 34 #[.nilIface, .int .i64 0, .int .i64 line, .int .i64 at_] w fun e w' => e = .returned (.bool true) ∧ w = w' := by
  go_enter Tryz.func34, Tryz.ntmps34
  go_wp2_with fail
  go_ret
  exact ⟨rfl, rfl⟩
end Go.Proofs.YtdjfakampjbgeaaGreatDoor
