/- errors.Is, errors.As for an api.Fault; stratakit.Num, Place, At of one. -/
import Derived.Test.YtpgnfianffjpnaaGreatDoorErrNm
import Derived.Test.YtpgnfianffjpnaaGreatDoorBlk
import Derived.Laws.Tables
import Derived.Laws.Cells
import Derived.Deep.RegionHeld3
import Derived.Deep.DeepCutAuto
import Derived.Below
namespace Go.Proofs.YtpgnfianffjpnaaGreatDoor
open Go.RowKit Go.Extern.Stop Go.Stop Go.Extern

/-- the error strata/api.Fault. -/
abbrev eFault (no : Int) (line : Int) (at_ : Int) : Value := .iface 150 (.agg #[.int .i64 no, .int .i64 line, .int .i64 at_])

namespace IsFault
theorem noIs (v : Value) (w : World) : (Instr.typeAssert (.iface 150 v) 26 283 true).run Tryz.prog w = .ok (.tuple #[.nilIface, .bool false]) w := run_typeAssert_lacksB Tryz.underlying283 (by kernel_rfl) (by kernel_rfl) v _ w
theorem hasUnwrap (v : Value) (w : World) : (Instr.typeAssert (.iface 150 v) 26 286 true).run Tryz.prog w = .ok (.tuple #[.iface 150 v, .bool true]) w := run_typeAssert_hasB Tryz.underlying286 (by kernel_rfl) v _ w
end IsFault

theorem unwrapFault (no : Int) (line : Int) (at_ : Int) (w : World) : Calls Tryz.prog 197 #[.agg #[.int .i64 no, .int .i64 line, .int .i64 at_]] w fun e w' => e = .returned (eno no) ∧ w' = w.alloc (.cells #[.int .i64 no, .int .i64 line, .int .i64 at_] 150) := by
  go_enter Tryz.func197, Tryz.ntmps197
  go_wp2
  go_ret
  exact ⟨rfl, rfl⟩

set_option maxHeartbeats 2000000 in
theorem isFault (no : Int) (line : Int) (at_ : Int) (b : Int) (w : World) :
    Calls Tryz.prog 44 #[eFault no line at_, eno b] w fun e w' => e = .returned (.bool (no == b)) ∧ Below w.heap.size w w' := by
  obtain ⟨i, hi, hcmp⟩ := Option.map_eq_some_iff.1 Is.info
  have h8 := @run_callFunc_extern Tryz.prog 108 _ ReflectliteType.typeOf Tryz.func108 (by kernel_rfl) (by kernel_rfl) (by kernel_rfl) (by kernel_rfl)
  have h32 := @run_callFunc_extern Tryz.prog 204 _ Is.cmpFn Tryz.func204 (by kernel_rfl) (by kernel_rfl) (by kernel_rfl) (by kernel_rfl)
  have tT := Is.typeOf
  have cT := Is.comparable
  have n1 := Is.noIs
  have n2 := Is.noUnwrap
  have n3 := Is.noUnwraps
  have n4 := IsFault.noIs
  have n5 := IsFault.hasUnwrap
  have heq := fun W => run_eql_iface_int (P := Tryz.prog) W no b Tryz.underlying26 Tryz.underlying92 hi hcmp
  have hty := run_eql_iface_types (P := Tryz.prog) 150 92 (.agg #[.int .i64 no, .int .i64 line, .int .i64 at_]) (.int .i64 b) Tryz.underlying26 (by decide)
  by_cases hab : no = b
  · have hb : (no == b) = true := by simp [hab]
    clear hab
    go_enter Tryz.func44, Tryz.ntmps44
    go_wp2_with (first | (go_at_call 197; refine (unwrapFault _ _ _ _).mono ?_; rintro e w' ⟨rfl, rfl⟩) | go_in)
    refine wp_loop_rounds 2 ?_
    rw [rounds_succ]
    go_wp2_with (first | (go_at_call 197; refine (unwrapFault _ _ _ _).mono ?_; rintro e w' ⟨rfl, rfl⟩) | go_in)
    rw [rounds_succ]
    go_wp2
    go_ret
    exact ⟨by rw [hb]; rfl, (Below.refl _ _).alloc (Nat.le_refl _) _⟩
  · have hb : (no == b) = false := by simp [hab]
    clear hab
    go_enter Tryz.func44, Tryz.ntmps44
    go_wp2_with (first | (go_at_call 197; refine (unwrapFault _ _ _ _).mono ?_; rintro e w' ⟨rfl, rfl⟩) | go_in)
    refine wp_loop_rounds 2 ?_
    rw [rounds_succ]
    go_wp2_with (first | (go_at_call 197; refine (unwrapFault _ _ _ _).mono ?_; rintro e w' ⟨rfl, rfl⟩) | go_in)
    rw [rounds_succ]
    go_wp2
    go_ret
    exact ⟨by rw [hb]; rfl, (Below.refl _ _).alloc (Nat.le_refl _) _⟩

namespace AsFault
theorem typeOf (v : Value) (w : World) : (ReflectliteType.typeOf #[.iface 150 v]).run Tryz.prog w = .ok (.iface 281 (.agg #[.pointer (some ⟨4, 150, none⟩)])) w := by kernel_rfl
theorem assign (w : World) : (As.assignFn #[.agg #[.pointer (some ⟨4, 150, none⟩)], .iface 281 (.agg #[.pointer (some ⟨4, 150, none⟩)])]).run Tryz.prog w = .ok (.bool true) w := by kernel_rfl
theorem valueOf (no line at_ : Int) (w : World) : (ReflectliteValue.unpack (.iface 150 (.agg #[.int .i64 no, .int .i64 line, .int .i64 at_]))).run Tryz.prog w
    = .ok (.agg #[.pointer (some ⟨4, 150, none⟩), .pointer (some ⟨w.heap.size, 0, none⟩), .int .u64 153]) (w.alloc (.cells #[.int .i64 no, .int .i64 line, .int .i64 at_] 150)) := by kernel_rfl
theorem elemOf (w : World) : (Rtype.elem? 170).run Tryz.prog w = .ok (some 150) w := by kernel_rfl
theorem mk (p : Addr) (w : World) : (ReflectliteValue.mk 150 p ReflectliteValue.flagAddr).run Tryz.prog w = .ok (.agg #[.pointer (some ⟨4, 150, none⟩), .pointer (some p), .int .u64 409]) w := by kernel_rfl
def elemVFn : Array Value → Sem Value := ReflectliteValue.method (ReflectliteValue.valueError "reflectlite.Value.Elem" 0) ReflectliteValue.elem
theorem elemV (a p : Addr) (W : World) (ha : W.cell? a = some (.pointer (some p))) :
    (elemVFn #[.agg #[.pointer (some ⟨4, 170, none⟩), .pointer (some a), .int .u64 150]]).run Tryz.prog W = .ok (.agg #[.pointer (some ⟨4, 150, none⟩), .pointer (some p), .int .u64 409]) W := by
  unfold elemVFn
  rw [As.rlm]
  simp only [Sem.run_bind, As.partsP, Result.andThen]
  simp [ReflectliteValue.elem, loadVar, isAgg, underlying, Tryz.underlying170, ha, Result.andThen, elemOf, mk]
def setFn : Array Value → Sem Value := ReflectliteValue.set
theorem rls (v x : Value) : ReflectliteValue.set #[v, x] = (do
    let (some (dst, a, fl), some (src, b, _)) := (← ReflectliteValue.parts v, ← ReflectliteValue.parts x)
      | unsupported (.noEntry "extern/(internal/reflectlite.Value).Set.zeroValue")
    if fl / ReflectliteValue.flagAddr % 2 == 0 then unsupported (.noEntry "extern/(internal/reflectlite.Value).Set.unaddressable")
    let val ← loadVar src b
    if ← Rtype.directlyAssignable dst src then storeVar dst a val
    else if ← Rtype.implements dst src then
      if (← Rtype.kind src) == 20 then
        match val with
        | .nilIface => unsupported (.noEntry "extern/reflectlite: a nil value of one interface type handed on as a value of another")
        | _ => storeVar dst a val
      else storeVar dst a (.iface src val)
    else panicString ("reflectlite.Set: value of type " ++ (← Rtype.spelt src) ++ " is not assignable to type " ++ (← Rtype.spelt dst))
    pure (.tuple #[])) := rfl
theorem parts9 (a : Addr) (w : World) : (ReflectliteValue.parts (.agg #[.pointer (some ⟨4, 150, none⟩), .pointer (some a), .int .u64 409])).run Tryz.prog w = .ok (some (150, a, 409)) w := by kernel_rfl
theorem parts3 (a : Addr) (w : World) : (ReflectliteValue.parts (.agg #[.pointer (some ⟨4, 150, none⟩), .pointer (some a), .int .u64 153])).run Tryz.prog w = .ok (some (150, a, 153)) w := by kernel_rfl
theorem direct (w : World) : (Rtype.directlyAssignable 150 150).run Tryz.prog w = .ok true w := by kernel_rfl
theorem setV (tb b : Nat) (a0 a1 a2 : Value) (no line at_ : Int) (W : World) (hb : Blk W b 150 #[.int .i64 no, .int .i64 line, .int .i64 at_]) (ht : Blk W tb 150 #[a0, a1, a2]) :
    (setFn #[.agg #[.pointer (some ⟨4, 150, none⟩), .pointer (some ⟨tb, 0, none⟩), .int .u64 409], .agg #[.pointer (some ⟨4, 150, none⟩), .pointer (some ⟨b, 0, none⟩), .int .u64 153]]).run Tryz.prog W
      = .ok (.tuple #[]) (W.setRow tb #[.int .i64 no, .int .i64 line, .int .i64 at_]) := by
  have hl : (loadCells ⟨b, 0, none⟩ 3).run Tryz.prog W = .ok #[.int .i64 no, .int .i64 line, .int .i64 at_] W :=
    run_loadCells_list (P := Tryz.prog) (w := W) ⟨b, 0, none⟩ [.int .i64 no, .int .i64 line, .int .i64 at_] (fun j v hj => by
      have hc := hb.cell j
      have ea : (⟨b, 0, none⟩ : Addr).add j = ⟨b, j, none⟩ := by unfold Addr.add; split <;> simp_all
      rw [ea, hc]
      simpa using hj)
  have hs : (storeCells ⟨tb, 0, none⟩ [.int .i64 no, .int .i64 line, .int .i64 at_] 0).run Tryz.prog W = .ok () (W.setRow tb #[.int .i64 no, .int .i64 line, .int .i64 at_]) := by
    have := run_storeCells_from (P := Tryz.prog) tb 150 [.int .i64 no, .int .i64 line, .int .i64 at_] 0 #[a0, a1, a2] W ht rfl (by simp [Value.oneCell'])
    simpa using this
  unfold setFn
  rw [rls]
  simp only [Sem.run_bind, parts9, parts3, Result.andThen]
  simp [ReflectliteValue.flagAddr, loadVar, hl, Result.andThen, direct, storeVar, Value.cells, hs]
theorem xElem : ∀ (args : Array Value) (w : World), Sem.run Tryz.prog (callFunc 164 args) w = (((elemVFn) args).run Tryz.prog w).andThen fun v w' => Result.ok (Next.value v) w' := @run_callFunc_extern Tryz.prog 164 _ elemVFn Tryz.func164 (by kernel_rfl) (by kernel_rfl) (by kernel_rfl) (by kernel_rfl)
theorem xSet : ∀ (args : Array Value) (w : World), Sem.run Tryz.prog (callFunc 165 args) w = (((setFn) args).run Tryz.prog w).andThen fun v w' => Result.ok (Next.value v) w' := @run_callFunc_extern Tryz.prog 165 _ setFn Tryz.func165 (by kernel_rfl) (by kernel_rfl) (by kernel_rfl) (by kernel_rfl)
end AsFault
/-- the target holds the error. -/
def Hit (w w' : World) (tb : Nat) (no line at_ : Int) : Prop := Blk w' tb 150 #[.int .i64 no, .int .i64 line, .int .i64 at_] ∧ w.grownBy w' (some tb)
theorem Hit.mk {w W : World} {tb : Nat} {no line at_ : Int} {cs : Array Value} (hg : w.grownBy W none) (hb : Blk W tb 150 cs) : Hit w (W.setRow tb #[.int .i64 no, .int .i64 line, .int .i64 at_]) tb no line at_ := by
  refine ⟨setRow_heap W tb _ _ _ _ hb, hg.os, hg.tape, hg.output, by rw [setRow_size]; exact hg.size, fun k hk hne => ?_⟩
  rw [← hg.block k hk (by simp)]
  simp [World.setRow, Array.getElem?_modify, show tb ≠ k from fun e => hne (by rw [e])]
set_option maxHeartbeats 4000000 in
theorem as_hit (no line at_ : Int) (tb : Nat) (a0 a1 a2 : Value) (w : World) (hg : ErrVar w) (ht : Blk w tb 150 #[a0, a1, a2]) :
    Calls Tryz.prog 104 #[eFault no line at_, .iface 170 (.pointer (some ⟨tb, 0, none⟩))] w fun e w' => e = .returned (.bool true) ∧ Hit w w' tb no line at_ := by
  have hlt := hg.lt
  unfold ErrVar at hg
  have htl := ht.lt
  have h6 := As.x6
  have h7 := As.x7
  have h8 := As.x8
  have h27 := As.x27
  have h37 := As.x37
  have h38 := As.x38
  have h10 := As.x10
  have h35 := As.x35
  have h11 := AsFault.xElem
  have h12 := AsFault.xSet
  have tO := AsFault.typeOf
  have a25 := AsFault.assign
  have v25 := AsFault.valueOf
  have f6 := As.valueOfP
  have f7 := As.typeP
  have k27 := As.kindP
  have k25 := As.kindF
  have e27 := As.elemP
  have i25 := As.implF
  have n8 := As.isNilP ⟨w.heap.size, 0, none⟩ ⟨tb, 0, none⟩ ((w.alloc (.cells #[.pointer (some ⟨tb, 0, none⟩)] 170)).alloc (.cells #[.pointer (some ⟨4, 170, none⟩), .pointer (some ⟨w.heap.size, 0, none⟩), .int .u64 150] 267)) (by simp)
  have hg2 : ((w.alloc (.cells #[.pointer (some ⟨tb, 0, none⟩)] 170)).alloc (.cells #[.pointer (some ⟨4, 170, none⟩), .pointer (some ⟨w.heap.size, 0, none⟩), .int .u64 150] 267)).cell? ⟨0, 0, none⟩ = some (.iface 281 (.agg #[.pointer (some ⟨4, 26, none⟩)])) := by
    rw [World.cell?_alloc_lt _ _ ⟨0, 0, none⟩ (by first | (simp; done) | (simp; omega)), World.cell?_alloc_lt _ _ ⟨0, 0, none⟩ hlt]; exact hg
  have el := AsFault.elemV ⟨w.heap.size, 0, none⟩ ⟨tb, 0, none⟩ (((w.alloc (.cells #[.pointer (some ⟨tb, 0, none⟩)] 170)).alloc (.cells #[.pointer (some ⟨4, 170, none⟩), .pointer (some ⟨w.heap.size, 0, none⟩), .int .u64 150] 267)).alloc (.cells #[.pointer (some ⟨4, 170, none⟩), .pointer (some ⟨w.heap.size, 0, none⟩), .int .u64 150] 267)) (by rw [World.cell?_alloc_lt _ _ ⟨w.heap.size, 0, none⟩ (by simp; omega)]; simp)
  have hT := (((ht.alloc (.cells #[.pointer (some ⟨tb, 0, none⟩)] 170)).alloc (.cells #[.pointer (some ⟨4, 170, none⟩), .pointer (some ⟨w.heap.size, 0, none⟩), .int .u64 150] 267)).alloc (.cells #[.pointer (some ⟨4, 170, none⟩), .pointer (some ⟨w.heap.size, 0, none⟩), .int .u64 150] 267)).alloc (.cells #[.int .i64 no, .int .i64 line, .int .i64 at_] 150)
  have hS := Blk.new (((w.alloc (.cells #[.pointer (some ⟨tb, 0, none⟩)] 170)).alloc (.cells #[.pointer (some ⟨4, 170, none⟩), .pointer (some ⟨w.heap.size, 0, none⟩), .int .u64 150] 267)).alloc (.cells #[.pointer (some ⟨4, 170, none⟩), .pointer (some ⟨w.heap.size, 0, none⟩), .int .u64 150] 267)) 150 #[.int .i64 no, .int .i64 line, .int .i64 at_]
  have st := AsFault.setV tb _ a0 a1 a2 no line at_ _ hS hT
  simp only [World.size_alloc] at st
  have hfin := Lib.hid (Hit.mk (w := w) (no := no) (line := line) (at_ := at_) (grown_of_below ((((Below.refl w.heap.size w).alloc (Nat.le_refl _) (.cells #[.pointer (some ⟨tb, 0, none⟩)] 170)).alloc (by simp) (.cells #[.pointer (some ⟨4, 170, none⟩), .pointer (some ⟨w.heap.size, 0, none⟩), .int .u64 150] 267)).alloc (by simp; omega) (.cells #[.pointer (some ⟨4, 170, none⟩), .pointer (some ⟨w.heap.size, 0, none⟩), .int .u64 150] 267) |>.alloc (by simp; omega) (.cells #[.int .i64 no, .int .i64 line, .int .i64 at_] 150)) none) hT)
  clear hS hT ht
  go_enter Tryz.func104, Tryz.ntmps104
  go_wp2
  refine wp_loop_rounds 1 ?_
  rw [rounds_succ]
  go_wp2
  go_ret
  exact ⟨rfl, hfin.out⟩
end Go.Proofs.YtpgnfianffjpnaaGreatDoor
