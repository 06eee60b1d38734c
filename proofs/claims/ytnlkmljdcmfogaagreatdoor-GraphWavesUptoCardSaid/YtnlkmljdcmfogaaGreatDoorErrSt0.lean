/- errors.As at the target *api.Errno: a hit at an error that is a number. check.stop, check.File's deferred closure, walked. how check.File ends. Plain facts on what is wrong with a file: piece by piece, as a walk meets them. Names in a map of the call's own. What the walk of check.File uses: elements of slices of steps and of stages, whole; stop at a number. -/
import Derived.Test.YtnlkmljdcmfogaaGreatDoorErrAs0
import Derived.WalkLawsBesides
import Derived.Defers
import Derived.Recover
import Derived.FnLit
import Derived.Deep.CutBlock
import Derived.Test.YtnlkmljdcmfogaaGreatDoorGwX0
import Derived.Test.YtnlkmljdcmfogaaGreatDoorCkM0
import Derived.Test.YtnlkmljdcmfogaaGreatDoorProg
import Derived.Test.YtnlkmljdcmfogaaGreatDoorOwn0
import Derived.Maps.OwnSet
import Derived.Maps.Views
import Derived.StringKeys
import Derived.Test.YtnlkmljdcmfogaaGreatDoorBld0
namespace Go.Proofs.YtnlkmljdcmfogaaGreatDoor
open Go.RowKit Go.Extern.Stop Go.Stop Go.Extern

namespace AsNo
theorem valueOfP (t : Addr) (w : World) : (ReflectliteValue.unpack (.iface 303 (.pointer (some t)))).run Tryz.prog w
    = .ok (.agg #[.pointer (some ⟨4, 303, none⟩), .pointer (some ⟨w.heap.size, 0, none⟩), .int .u64 150]) (w.alloc (.cells #[.pointer (some t)] 303)) := by kernel_rfl
theorem typeP (a : Addr) (w : World) : (As.typeFn #[.agg #[.pointer (some ⟨4, 303, none⟩), .pointer (some a), .int .u64 150]]).run Tryz.prog w
    = .ok (.iface 357 (.agg #[.pointer (some ⟨4, 303, none⟩)])) w := by kernel_rfl
theorem kindP (w : World) : (As.kindFn #[.pointer (some ⟨4, 303, none⟩)]).run Tryz.prog w = .ok (.int .u8 22) w := by kernel_rfl
theorem kindE (w : World) : (As.kindFn #[.pointer (some ⟨4, 114, none⟩)]).run Tryz.prog w = .ok (.int .u8 2) w := by kernel_rfl
theorem partsP (a : Addr) (w : World) : (ReflectliteValue.parts (.agg #[.pointer (some ⟨4, 303, none⟩), .pointer (some a), .int .u64 150])).run Tryz.prog w = .ok (some (303, a, 150)) w := by kernel_rfl
theorem isNilP (a p : Addr) (W : World) (ha : W.cell? a = some (.pointer (some p))) :
    (As.nilFn #[.agg #[.pointer (some ⟨4, 303, none⟩), .pointer (some a), .int .u64 150]]).run Tryz.prog W = .ok (.bool false) W := by
  unfold As.nilFn
  rw [As.rlm]
  simp only [Sem.run_bind, partsP, Result.andThen]
  simp [ReflectliteValue.isNil, loadVar, isAgg, underlying, Tryz.underlying303, ha, Result.andThen]
theorem elemP (w : World) : (As.elemFn #[.agg #[.pointer (some ⟨4, 303, none⟩)]]).run Tryz.prog w = .ok (.iface 357 (.agg #[.pointer (some ⟨4, 114, none⟩)])) w := by kernel_rfl
theorem implE (w : World) : (As.implFn #[.agg #[.pointer (some ⟨4, 114, none⟩)], .iface 357 (.agg #[.pointer (some ⟨4, 40, none⟩)])]).run Tryz.prog w = .ok (.bool true) w := by kernel_rfl
theorem assign (w : World) : (As.assignFn #[.agg #[.pointer (some ⟨4, 114, none⟩)], .iface 357 (.agg #[.pointer (some ⟨4, 114, none⟩)])]).run Tryz.prog w = .ok (.bool true) w := by kernel_rfl
theorem valueOf (n : Int) (w : World) : (ReflectliteValue.unpack (.iface 114 (.int .i64 n))).run Tryz.prog w
    = .ok (.agg #[.pointer (some ⟨4, 114, none⟩), .pointer (some ⟨w.heap.size, 0, none⟩), .int .u64 130]) (w.alloc (.cells #[.int .i64 n] 114)) := by kernel_rfl
theorem elemOf (w : World) : (Rtype.elem? 303).run Tryz.prog w = .ok (some 114) w := by kernel_rfl
theorem mk (p : Addr) (w : World) : (ReflectliteValue.mk 114 p ReflectliteValue.flagAddr).run Tryz.prog w = .ok (.agg #[.pointer (some ⟨4, 114, none⟩), .pointer (some p), .int .u64 386]) w := by kernel_rfl
theorem elemV (a p : Addr) (W : World) (ha : W.cell? a = some (.pointer (some p))) :
    (AsFault.elemVFn #[.agg #[.pointer (some ⟨4, 303, none⟩), .pointer (some a), .int .u64 150]]).run Tryz.prog W = .ok (.agg #[.pointer (some ⟨4, 114, none⟩), .pointer (some p), .int .u64 386]) W := by
  unfold AsFault.elemVFn
  rw [As.rlm]
  simp only [Sem.run_bind, partsP, Result.andThen]
  simp [ReflectliteValue.elem, loadVar, isAgg, underlying, Tryz.underlying303, ha, Result.andThen, elemOf, mk]
theorem parts9 (a : Addr) (w : World) : (ReflectliteValue.parts (.agg #[.pointer (some ⟨4, 114, none⟩), .pointer (some a), .int .u64 386])).run Tryz.prog w = .ok (some (114, a, 386)) w := by kernel_rfl
theorem parts3 (a : Addr) (w : World) : (ReflectliteValue.parts (.agg #[.pointer (some ⟨4, 114, none⟩), .pointer (some a), .int .u64 130])).run Tryz.prog w = .ok (some (114, a, 130)) w := by kernel_rfl
theorem direct (w : World) : (Rtype.directlyAssignable 114 114).run Tryz.prog w = .ok true w := by kernel_rfl
theorem setV (tb b : Nat) (a0 : Value) (n : Int) (W : World) (hb : Blk W b 114 #[.int .i64 n]) (ht : Blk W tb 114 #[a0]) :
    (AsFault.setFn #[.agg #[.pointer (some ⟨4, 114, none⟩), .pointer (some ⟨tb, 0, none⟩), .int .u64 386], .agg #[.pointer (some ⟨4, 114, none⟩), .pointer (some ⟨b, 0, none⟩), .int .u64 130]]).run Tryz.prog W
      = .ok (.tuple #[]) (W.setRow tb #[.int .i64 n]) := by
  have hc : W.cell? ⟨b, 0, none⟩ = some (.int .i64 n) := hb.cell 0
  have hl : (loadVar 114 ⟨b, 0, none⟩).run Tryz.prog W = .ok (.int .i64 n) W := by
    simp [loadVar, isAgg, underlying, Tryz.underlying114, hc, Result.andThen]
  have hs : (storeCells ⟨tb, 0, none⟩ [.int .i64 n] 0).run Tryz.prog W = .ok () (W.setRow tb #[.int .i64 n]) := by
    have := run_storeCells_from (P := Tryz.prog) tb 114 [.int .i64 n] 0 #[a0] W ht rfl (by simp [Value.oneCell'])
    simpa using this
  unfold AsFault.setFn
  rw [AsFault.rls]
  simp only [Sem.run_bind, parts9, parts3, Result.andThen]
  simp [ReflectliteValue.flagAddr, hl, Result.andThen, direct, storeVar, Value.cells, hs]
end AsNo
/-- the target holds the number. -/
def HitN (w w' : World) (tb : Nat) (n : Int) : Prop := Blk w' tb 114 #[.int .i64 n] ∧ w.grownBy w' (some tb)
theorem HitN.mk {w W : World} {tb : Nat} {n : Int} {a0 : Value} (hg : w.grownBy W none) (hb : Blk W tb 114 #[a0]) : HitN w (W.setRow tb #[.int .i64 n]) tb n := by
  refine ⟨setRow_heap W tb _ _ _ _ hb, hg.os, hg.tape, hg.output, by rw [setRow_size]; exact hg.size, fun k hk hne => ?_⟩
  rw [← hg.block k hk (by simp)]
  simp [World.setRow, Array.getElem?_modify, show tb ≠ k from fun e => hne (by rw [e])]
set_option maxHeartbeats 4000000 in
theorem as_eno_hit (n : Int) (tb : Nat) (a0 : Value) (w : World) (hg : ErrVar w) (ht : Blk w tb 114 #[a0]) :
    Calls Tryz.prog 108 #[eno n, .iface 303 (.pointer (some ⟨tb, 0, none⟩))] w fun e w' => e = .returned (.bool true) ∧ HitN w w' tb n := by
  have hlt := hg.lt
  unfold ErrVar at hg
  have htl := ht.lt
  have h6 := As.x6
  have h7 := As.x7
  have h8 := As.x8
  have h27 := As.x27
  have h37 := As.x37
  have h38 := As.x38
  have h10 := As.x10
  have h35 := As.x35
  have h11 := AsFault.xElem
  have h12 := AsFault.xSet
  have tO := Is.typeOf
  have a25 := AsNo.assign
  have v25 := AsNo.valueOf
  have f6 := AsNo.valueOfP
  have f7 := AsNo.typeP
  have k27 := AsNo.kindP
  have k25 := AsNo.kindE
  have e27 := AsNo.elemP
  have i25 := AsNo.implE
  have n8 := AsNo.isNilP ⟨w.heap.size, 0, none⟩ ⟨tb, 0, none⟩ ((w.alloc (.cells #[.pointer (some ⟨tb, 0, none⟩)] 303)).alloc (.cells #[.pointer (some ⟨4, 303, none⟩), .pointer (some ⟨w.heap.size, 0, none⟩), .int .u64 150] 294)) (by simp)
  have hg2 : ((w.alloc (.cells #[.pointer (some ⟨tb, 0, none⟩)] 303)).alloc (.cells #[.pointer (some ⟨4, 303, none⟩), .pointer (some ⟨w.heap.size, 0, none⟩), .int .u64 150] 294)).cell? ⟨0, 0, none⟩ = some (.iface 357 (.agg #[.pointer (some ⟨4, 40, none⟩)])) := by
    rw [World.cell?_alloc_lt _ _ ⟨0, 0, none⟩ (by first | (simp; done) | (simp; omega)), World.cell?_alloc_lt _ _ ⟨0, 0, none⟩ hlt]; exact hg
  have el := AsNo.elemV ⟨w.heap.size, 0, none⟩ ⟨tb, 0, none⟩ (((w.alloc (.cells #[.pointer (some ⟨tb, 0, none⟩)] 303)).alloc (.cells #[.pointer (some ⟨4, 303, none⟩), .pointer (some ⟨w.heap.size, 0, none⟩), .int .u64 150] 294)).alloc (.cells #[.pointer (some ⟨4, 303, none⟩), .pointer (some ⟨w.heap.size, 0, none⟩), .int .u64 150] 294)) (by rw [World.cell?_alloc_lt _ _ ⟨w.heap.size, 0, none⟩ (by simp; omega)]; simp)
  have hT := (((ht.alloc (.cells #[.pointer (some ⟨tb, 0, none⟩)] 303)).alloc (.cells #[.pointer (some ⟨4, 303, none⟩), .pointer (some ⟨w.heap.size, 0, none⟩), .int .u64 150] 294)).alloc (.cells #[.pointer (some ⟨4, 303, none⟩), .pointer (some ⟨w.heap.size, 0, none⟩), .int .u64 150] 294)).alloc (.cells #[.int .i64 n] 114)
  have hS := Blk.new (((w.alloc (.cells #[.pointer (some ⟨tb, 0, none⟩)] 303)).alloc (.cells #[.pointer (some ⟨4, 303, none⟩), .pointer (some ⟨w.heap.size, 0, none⟩), .int .u64 150] 294)).alloc (.cells #[.pointer (some ⟨4, 303, none⟩), .pointer (some ⟨w.heap.size, 0, none⟩), .int .u64 150] 294)) 114 #[.int .i64 n]
  have st := AsNo.setV tb _ a0 n _ hS hT
  simp only [World.size_alloc] at st
  have hfin := Lib.hid (HitN.mk (w := w) (n := n) (grown_of_below ((((Below.refl w.heap.size w).alloc (Nat.le_refl _) (.cells #[.pointer (some ⟨tb, 0, none⟩)] 303)).alloc (by simp) (.cells #[.pointer (some ⟨4, 303, none⟩), .pointer (some ⟨w.heap.size, 0, none⟩), .int .u64 150] 294)).alloc (by simp; omega) (.cells #[.pointer (some ⟨4, 303, none⟩), .pointer (some ⟨w.heap.size, 0, none⟩), .int .u64 150] 294) |>.alloc (by simp; omega) (.cells #[.int .i64 n] 114)) none) hT)
  clear hS hT ht
  go_enter Tryz.func108, Tryz.ntmps108
  go_wp2
  refine wp_loop_rounds 1 ?_
  rw [rounds_succ]
  go_wp2
  go_ret
  exact ⟨rfl, hfin.out⟩
set_option maxHeartbeats 1000000 in
theorem as_nil (x : Value) (w : World) : Calls Tryz.prog 108 #[.nilIface, x] w fun e w' => e = .returned (.bool false) ∧ w = w' := by
  go_enter Tryz.func108, Tryz.ntmps108
  go_wp2_with fail
  go_ret
  exact ⟨rfl, rfl⟩
end Go.Proofs.YtnlkmljdcmfogaaGreatDoor
namespace Go.Proofs.YtnlkmljdcmfogaaGreatDoor
open Go Go.RowKit Go.Extern.Stop Go.Stop Go.Extern
/-- a fault that is thrown. -/
def thrown (n line : Int) : List PanicEntry := [{ v := eFault n line 0, recovered := false }]
set_option maxHeartbeats 1000000 in
theorem stop_nil (line : Int) (w : World) : Calls Tryz.prog 109 #[.int .i64 line, .nilIface] w fun e w' => e = .returned (.tuple #[]) ∧ Below w.heap.size w w' := by
  have hB0 := Lib.hid ((Below.refl w.heap.size w).alloc (Nat.le_refl _) (.cells #[.int .i64 0] 114))
  go_enter Tryz.func109, Tryz.ntmps109
  go_wp2_with fail
  refine (as_nil _ _).mono ?_
  rintro e w1 ⟨rfl, rfl⟩
  go_wp2_with fail
  go_end0
  exact ⟨rfl, hB0.out⟩
set_option maxHeartbeats 2000000 in
theorem stop_eno (line n : Int) (w : World) (hv : ErrVar w) : Calls Tryz.prog 109 #[.int .i64 line, eno n] w fun e w' => e = .panicked (thrown n line) ∧ Below w.heap.size w w' := by
  have hB0 := Lib.hid ((Below.refl w.heap.size w).alloc (Nat.le_refl _) (.cells #[.int .i64 0] 114))
  have hK0 := Lib.hid (Blk.new w 114 #[.int .i64 0])
  have HV := Lib.hid (hv.below hB0.out hv.lt)
  clear hv
  go_enter Tryz.func109, Tryz.ntmps109
  go_wp2_with fail
  refine (as_eno_hit n w.heap.size _ _ HV.out hK0.out).mono ?_
  rintro e w1 ⟨rfl, hH, hG⟩
  have c0 : w1.cell? ⟨w.heap.size, 0, none⟩ = some (.int .i64 n) := hH.cell 0
  have hB := Lib.hid (hB0.out.grown hG hB0.out.size (fun k e => by cases e; exact Nat.le_refl _))
  clear hG hH
  go_wp2_with fail
  exact ⟨rfl, rfl, hB.out⟩
theorem assertErr (v : Value) (w : World) : (Instr.typeAssert (.iface 179 v) 20 40 true).run Tryz.prog w = .ok (.tuple #[.iface 179 v, .bool true]) w := run_typeAssert_hasB Tryz.underlying40 (by kernel_rfl) v _ w
theorem setCell_grown (w : World) (a : Addr) (v : Value) : w.grownBy (w.setCell a v) (some a.block) := ⟨rfl, rfl, rfl, by simp [World.setCell], fun k _ hk => by
  have : a.block ≠ k := fun e => hk (by rw [e])
  simp [World.setCell, Array.getElem?_modify, this]⟩
def Caught (K : World → Prop) : Exit → Act → World → Prop
  | .normal, a, w | .ret, a, w => a.defers = [] ∧ K w
  | _, _, _ => False
/-- err holds the fault. -/
def ErrIn (eb : Nat) (n line : Int) (w w' : World) : Prop := Blk w' eb 40 #[eFault n line 0] ∧ w.grownBy w' (some eb)
set_option maxHeartbeats 1000000 in
theorem catch_fault (n line : Int) (eb : Nat) (x : Value) (w : World) (hv : ErrVar w) (he : Blk w eb 40 #[x]) :
    CallsD Tryz.prog 107 #[.pointer (some ⟨eb, 0, none⟩)] (.panicking [{ v := eFault n line 0, recovered := false }]) w fun e u' w' => e = .returned (.tuple #[]) ∧ u' = .panicking [{ v := eFault n line 0, recovered := true }] ∧ ErrIn eb n line w w' := by
  have hA := assertErr
  have hlt := he.lt
  have HE := Lib.hid he
  have HV := Lib.hid hv
  clear he hv
  refine callsD_of_wpS Tryz.func107 rfl fun c₀ cs hu => ?_
  simp only [Tryz.ntmps107, List.size_toArray, List.length_cons, List.length_nil, Nat.reduceAdd, Nat.reduceSub, Array.replicate_succ, Array.replicate_zero, List.push_toArray, List.append_toArray, List.nil_append, List.cons_append]
  apply wpS_seq
  apply wpS_region
  simp [wpOpsS, go_sem, recoverD, hu, Exit.thenS]
  refine wpS_of_wp (wp_mono (Q := Caught fun w' => ErrIn eb n line w w') ?_ fun e a w' h => ?_)
  · have hB0 := Lib.hid ((Below.refl w.heap.size w).alloc (Nat.le_refl _) (.cells #[.int .i64 0, .int .i64 0, .int .i64 0] 179))
    have hK0 := Lib.hid (Blk.new w 179 #[.int .i64 0, .int .i64 0, .int .i64 0])
    have hE0 := Lib.hid (HE.out.alloc (.cells #[.int .i64 0, .int .i64 0, .int .i64 0] 179))
    have HV0 := Lib.hid (HV.out.below hB0.out HV.out.lt)
    clear hu
    go_wp2_with fail
    refine (as_hit n line 0 w.heap.size _ _ _ _ HV0.out hK0.out).mono ?_
    rintro e w1 ⟨rfl, hH, hG⟩
    have c0 : w1.cell? ⟨w.heap.size, 0, none⟩ = some (.int .i64 n) := hH.cell 0
    have c1 : w1.cell? ⟨w.heap.size, 1, none⟩ = some (.int .i64 line) := hH.cell 1
    have c2 : w1.cell? ⟨w.heap.size, 2, none⟩ = some (.int .i64 0) := hH.cell 2
    have hE1 : Blk w1 eb 40 #[x] := (hG.block eb (by simp; omega) (by simp; omega)).trans hE0.out
    have e0 : w1.cell? ⟨eb, 0, none⟩ = some x := hE1.cell 0
    have f0 := hE1.frozen 0
    have HE1 := Lib.hid hE1
    have HG1 := Lib.hid (hB0.out.grown hG hB0.out.size (fun k e => by cases e; exact Nat.le_refl _))
    clear hG hH hE1
    go_wp2_with fail
    refine ⟨rfl, ?_, (grown_of_below HG1.out (some eb)).trans (setCell_grown w1 ⟨eb, 0, none⟩ _)⟩
    have := HE1.out.set_ 0 (eFault n line 0)
    simpa using this
  · cases e with
    | normal =>
      obtain ⟨h1, h2⟩ := h
      exact ⟨h1, _, rfl, _, results_none rfl _ _ _, rfl, rfl, h2⟩
    | ret =>
      obtain ⟨h1, h2⟩ := h
      exact ⟨h1, _, rfl, _, results_none rfl _ _ _, rfl, rfl, h2⟩
    | _ => exact h.elim
set_option maxHeartbeats 1000000 in
theorem catch_idle (eb : Nat) (w : World) :
    CallsD Tryz.prog 107 #[.pointer (some ⟨eb, 0, none⟩)] .returning w fun e u' w' => e = .returned (.tuple #[]) ∧ u' = .returning ∧ w' = w := by
  refine callsD_of_wpS Tryz.func107 rfl fun c₀ cs hu => ?_
  simp only [Tryz.ntmps107, List.size_toArray, List.length_cons, List.length_nil, Nat.reduceAdd, Nat.reduceSub, Array.replicate_succ, Array.replicate_zero, List.push_toArray, List.append_toArray, List.nil_append, List.cons_append]
  apply wpS_seq
  apply wpS_region
  simp [wpOpsS, go_sem, recoverD, hu, Exit.thenS]
  refine wpS_of_wp (wp_mono (Q := Caught fun w' => w' = w) ?_ fun e a w' h => ?_)
  · clear hu
    go_wp2_with fail
    exact ⟨rfl, rfl⟩
  · cases e with
    | normal =>
      obtain ⟨h1, h2⟩ := h
      exact ⟨h1, .returning, by rw [← hu], _, results_none rfl _ _ _, rfl, rfl, h2⟩
    | ret =>
      obtain ⟨h1, h2⟩ := h
      exact ⟨h1, .returning, by rw [← hu], _, results_none rfl _ _ _, rfl, rfl, h2⟩
    | _ => exact h.elim
end Go.Proofs.YtnlkmljdcmfogaaGreatDoor
namespace Go.Proofs.YtnlkmljdcmfogaaGreatDoor
open Go Go.RowKit Go.Extern.Stop Go.Stop Go.Extern
/-- what check.File answers. -/
def filV : Option (Nat × Int) → Value
  | none => .nilIface
  | some (n, l) => eFault (n : Int) l 0
theorem file_res {tmps : Array Value} {w : World} {g : Nat} {v : Value} (hp : tmps.getD 2 undef = .pointer (some ⟨g, 0, none⟩)) (hc : w.cell? ⟨g, 0, none⟩ = some v) : (results Tryz.f36 tmps).run Tryz.prog w = .ok v w := by
  have hp' : tmps[2]?.getD undef = .pointer (some ⟨g, 0, none⟩) := by simpa using hp
  simp [results, hp', asAddr, go_sem, hc]
/-- a stop ends here: the fault is what is returned. -/
theorem end_fault {tmps : Array Value} {eb : Nat} {n line : Int} {v : Value} {w2 : World} {R : Ending → World → Prop} (hp : tmps.getD 2 undef = .pointer (some ⟨eb, 0, none⟩)) (hV : ErrVar w2) (hK : Blk w2 eb 40 #[v])
    (h : ∀ w3, w2.grownBy w3 (some eb) → R (.returned (eFault n line 0)) w3) :
    bodyPostD Tryz.prog Tryz.f36 R (.panic (thrown n line)) { tmps := tmps, defers := [{ target := .fn (.func 107) #[.pointer (some ⟨eb, 0, none⟩)], args := #[] }] } w2 := by
  refine leaves_cons (f := 107) (args := #[.pointer (some ⟨eb, 0, none⟩)]) (by simp) (by simp [go_sem]) ?_
  refine (catch_fault n line eb v w2 hV hK).mono ?_
  rintro e2 u2 w3 ⟨rfl, rfl, hE⟩
  exact ⟨eFault n line 0, file_res hp (hE.1.cell 0), h w3 hE.2⟩
/-- nothing was wrong. -/
theorem end_idle {tmps : Array Value} {eb : Nat} {v : Value} {w2 : World} {R : Ending → World → Prop} (hp : tmps.getD 2 undef = .pointer (some ⟨eb, 0, none⟩)) (hc : w2.cell? ⟨eb, 0, none⟩ = some v) (h : R (.returned v) w2) :
    bodyPostD Tryz.prog Tryz.f36 R .ret { tmps := tmps, defers := [{ target := .fn (.func 107) #[.pointer (some ⟨eb, 0, none⟩)], args := #[] }] } w2 := by
  refine leaves_cons (f := 107) (args := #[.pointer (some ⟨eb, 0, none⟩)]) (by simp) (by simp [go_sem]) ?_
  refine (catch_idle eb w2).mono ?_
  rintro e2 u2 w3 ⟨rfl, rfl, rfl⟩
  exact ⟨v, file_res hp hc, h⟩
end Go.Proofs.YtnlkmljdcmfogaaGreatDoor
namespace Go.Proofs.YtnlkmljdcmfogaaGreatDoor
open Go Go.RowKit
namespace Ck
/-- what is told of args that are left, and the stages behind. -/
def restA (e : UInt8) (ss : List St) (gs : List Sg) : Option (Nat × Int) := match argsL e ss with
  | some x => some x
  | none => stagesL e [] gs
/-- what is told of steps that are left, and the stages behind. -/
def restS (e : UInt8) (ss : List St) (names : List (List UInt8)) (gs : List Sg) : Option (Nat × Int) := match stepsL e ss with
  | some x => some x
  | none => stagesL e names gs
theorem restA_nil (e : UInt8) (gs : List Sg) : restA e [] gs = stagesL e [] gs := rfl
theorem restA_op {e : UInt8} {s : St} {r : List St} {gs : List Sg} (h : s.op ≠ 1) : restA e (s :: r) gs = some (19, s.line) := by rw [restA, argsL, if_pos h]
theorem restA_bad {e : UInt8} {s : St} {r : List St} {gs : List Sg} (h : s.op = 1) (h2 : stepL s e ≠ 0) : restA e (s :: r) gs = some (stepL s e, s.line) := by rw [restA, argsL, if_neg (fun q => q h), if_pos h2]
theorem restA_ok {e : UInt8} {s : St} {r : List St} {gs : List Sg} (h : s.op = 1) (h2 : stepL s e = 0) : restA e (s :: r) gs = restA e r gs := by rw [restA, argsL, if_neg (fun q => q h), if_neg (fun q => q h2), restA]
theorem restS_nil (e : UInt8) (names : List (List UInt8)) (gs : List Sg) : restS e [] names gs = stagesL e names gs := rfl
theorem restS_bad {e : UInt8} {s : St} {r : List St} {names : List (List UInt8)} {gs : List Sg} (h2 : stepL s e ≠ 0) : restS e (s :: r) names gs = some (stepL s e, s.line) := by rw [restS, stepsL, if_pos h2]
theorem restS_ok {e : UInt8} {s : St} {r : List St} {names : List (List UInt8)} {gs : List Sg} (h2 : stepL s e = 0) : restS e (s :: r) names gs = restS e r names gs := by rw [restS, stepsL, if_neg (fun q => q h2), restS]
theorem stagesL_bad {e : UInt8} {names : List (List UInt8)} {s : Sg} {r : List Sg} {n : Nat} (h : stageL e names s = n) (h0 : n ≠ 0) : stagesL e names (s :: r) = some (n, s.line) := by rw [stagesL, h, if_pos h0]
theorem stagesL_ok {e : UInt8} {names : List (List UInt8)} {s : Sg} {r : List Sg} (h : stageL e names s = 0) : stagesL e names (s :: r) = restS e s.steps (names ++ [s.name]) r := by rw [stagesL, if_neg (fun q => q h)]; rfl
section
variable {e : UInt8} {names : List (List UInt8)} {s : Sg}
theorem sg_bad (h : (badT s.base || badT s.name) = true) : stageL e names s = 6 := by rw [stageL, if_pos h]
theorem sg_short (h : (badT s.base || badT s.name) = false) (h1 : s.base = []) : stageL e names s = 2 := by rw [stageL, if_neg (by rw [h]; exact Bool.false_ne_true), if_pos h1]
theorem sg_word (h : (badT s.base || badT s.name) = false) (h1 : s.base ≠ []) (h2 : wordL e s.base ≠ 0) : stageL e names s = wordL e s.base := by rw [stageL, if_neg (by rw [h]; exact Bool.false_ne_true), if_neg h1, if_pos h2]
theorem sg_name (h : (badT s.base || badT s.name) = false) (h1 : s.base ≠ []) (h2 : wordL e s.base = 0) (h3 : s.name ≠ []) (h4 : stageR s.name = false) : stageL e names s = 8 := by rw [stageL, if_neg (by rw [h]; exact Bool.false_ne_true), if_neg h1, if_neg (fun q => q h2), if_pos ⟨h3, h4⟩]
theorem sg_twice (h : (badT s.base || badT s.name) = false) (h1 : s.base ≠ []) (h2 : wordL e s.base = 0) (h3 : s.name ≠ []) (h4 : stageR s.name = true) (h5 : s.name ∈ names) : stageL e names s = 11 := by rw [stageL, if_neg (by rw [h]; exact Bool.false_ne_true), if_neg h1, if_neg (fun q => q h2), if_neg (fun q => by rw [h4] at q; exact Bool.noConfusion q.2), if_pos ⟨h3, h5⟩]
theorem sg_ok (h : (badT s.base || badT s.name) = false) (h1 : s.base ≠ []) (h2 : wordL e s.base = 0) (h4 : stageR s.name = true) (h5 : s.name ∉ names) : stageL e names s = 0 := by rw [stageL, if_neg (by rw [h]; exact Bool.false_ne_true), if_neg h1, if_neg (fun q => q h2), if_neg (fun q => by rw [h4] at q; exact Bool.noConfusion q.2), if_neg (fun q => h5 q.2)]
theorem sg_none (h : (badT s.base || badT s.name) = false) (h1 : s.base ≠ []) (h2 : wordL e s.base = 0) (h3 : s.name = []) : stageL e names s = 0 := by rw [stageL, if_neg (by rw [h]; exact Bool.false_ne_true), if_neg h1, if_neg (fun q => q h2), if_neg (fun q => q.1 h3), if_neg (fun q => q.1 h3)]
end
section
variable {f : Fl}
theorem file_esc (h : f.escape ≠ 92 ∧ f.escape ≠ 96) : fileL f = some (1, 0) := by rw [fileL, if_pos h]
theorem file_none (h : ¬ (f.escape ≠ 92 ∧ f.escape ≠ 96)) (h1 : f.stages = []) : fileL f = some (2, 0) := by rw [fileL, if_neg h, if_pos h1]
theorem file_many (h : ¬ (f.escape ≠ 92 ∧ f.escape ≠ 96)) (h1 : f.stages ≠ []) (h2 : 32 < f.stages.length ∨ 512 < countL f) : fileL f = some (5, 0) := by rw [fileL, if_neg h, if_neg h1, if_pos h2]
theorem file_go (h : ¬ (f.escape ≠ 92 ∧ f.escape ≠ 96)) (h1 : f.stages ≠ []) (h2 : ¬ (32 < f.stages.length ∨ 512 < countL f)) : fileL f = restA f.escape f.args f.stages := by (rw [fileL, if_neg h, if_neg h1, if_neg h2, restA]) <;> rfl
end
/-- names that are kept: those that are no empty text. -/
def keptN (l : List (List UInt8)) : List (List UInt8) := l.filter fun s => !s.isEmpty
theorem keptN_mem {l : List (List UInt8)} {s : List UInt8} (h : s ≠ []) : s ∈ keptN l ↔ s ∈ l := by
  unfold keptN
  rw [List.mem_filter]
  cases s with
  | nil => exact absurd rfl h
  | cons a r => simp
theorem keptN_snoc (l : List (List UInt8)) (s : List UInt8) : keptN (l ++ [s]) = if s = [] then keptN l else keptN l ++ [s] := by
  unfold keptN
  rw [List.filter_append]
  cases s <;> simp
end Ck
end Go.Proofs.YtnlkmljdcmfogaaGreatDoor
namespace Go.Proofs.YtnlkmljdcmfogaaGreatDoor
open Go Go.RowKit Go.WideMaps
/-- the block is a map that holds these names. -/
def NM (w : World) (b n : Nat) (l : List (List UInt8)) : Prop := ∃ D : DataW Unit, w.ownsMap Tryz.prog 9 (plainElem Tryz.prog 4) b n D ∧ Maps.IsMap D ∧ ∀ s : List UInt8, D.atKey (.string s) (.lit (.bool false)) = .lit (.bool (decide (s ∈ l)))
theorem NM.new (w : World) : NM (w.alloc (.map #[] 0)) w.heap.size 0 [] := ⟨.map [], World.ownsMap_made _ _ _ _, Maps.isMap_empty, fun s => by simp [DataW.atKey]⟩
theorem NM.lt {w : World} {b n : Nat} {l : List (List UInt8)} (h : NM w b n l) : b < w.heap.size := by
  obtain ⟨D, h, _⟩ := h
  exact h.lt
theorem NM.kept {w w' : World} {b n : Nat} {l : List (List UInt8)} {row : Option Nat} (h : NM w b n l) (hg : w.grownBy w' row) (hne : some b ≠ row) : NM w' b n l := by
  obtain ⟨D, h1, h2, h3⟩ := h
  exact ⟨D, h1.kept hg hne, h2, h3⟩
theorem NM.below {w w' : World} {b n B : Nat} {l : List (List UInt8)} (h : NM w b n l) (hb : Below B w w') (hB : b < B) : NM w' b n l := by
  obtain ⟨D, ⟨es, clock, h1, r⟩, h2, h3⟩ := h
  exact ⟨D, ⟨es, clock, (hb.block b hB).trans h1, r⟩, h2, h3⟩
theorem bool_inv {P : Program} {e : TypeId} (he : P.underlying e = some .bool) {v : Value} {z : DataW Unit × List MemPlace} (h : plainElem P e v = some z) : ∃ x, v = .bool x ∧ z.1 = .lit (.bool x) := by
  unfold plainElem at h
  rw [he] at h
  cases v <;> simp at h
  exact ⟨_, rfl, by rw [← h]⟩
theorem NM.look {w : World} {b n : Nat} {l : List (List UInt8)} (h : NM w b n l) (s : List UInt8) (hs : s.length ≤ 2000000) : (Instr.lookup 185 (.map (some b)) (.string (bs s)) false).run Tryz.prog w = .ok (.bool (decide (s ∈ l))) w := by
  obtain ⟨D, h1, h2, h3⟩ := h
  obtain ⟨v, ps, hrun, hv⟩ := h1.lookup (Maps.string_keyed Tryz.underlying9) Tryz.underlying185 (z := .bool false) (by kernel_rfl) (plainElem_bool Tryz.underlying4 false) (keyOf_string_mk Tryz.underlying9 (s := bs s) (by rw [bs_size]; unfold maxLen; omega))
  obtain ⟨x, rfl, hx⟩ := bool_inv Tryz.underlying4 hv
  have e : (bs s).data.toList = s := bl_bs s
  rw [e] at hx
  rw [hrun]
  have q := h3 s
  have hx' : D.atKey (.string s) (.lit (.bool false)) = .lit (.bool x) := hx
  rw [hx'] at q
  rw [Lit.bool.inj (DataW.lit.inj q)]
theorem wpList_nm {w : World} {ops : Array Oper} {rest : List Oper} {o : Oper} {a : Act} {Q : Exit → Act → World → Prop} (hg : o.guard = none) (m x v : Operand) (hop : o.op = Op.mapUpdate 185 m x v)
    (b n : Nat) (l : List (List UInt8)) (hm : a.eval m = .map (some b)) (h : NM w b n l) (hn : n < 100000000000000) (s : List UInt8) (hx : a.eval x = .string (bs s)) (hv : a.eval v = .bool true) (hs : s.length ≤ 2000000)
    (hK : ∀ w', NM w' b (n + 1) (l ++ [s]) → w.grownBy w' (some b) → wpList Tryz.prog ops Q rest (a.put o.dst undef) w') : wpList Tryz.prog ops Q (o :: rest) a w := by
  obtain ⟨D, h1, h2, h3⟩ := h
  have e : (bs s).data.toList = s := bl_bs s
  refine wpList_mapUpdate_own w hg m x v _ hop 9 4 (Maps.string_keyed Tryz.underlying9) Tryz.underlying185 _ b n D hm h1 (by unfold maxLen; omega) _ _ (.string s) hx hv (by
    have := keyOf_string_mk (P := Tryz.prog) Tryz.underlying9 (s := bs s) (by rw [bs_size]; unfold maxLen; omega)
    rwa [e] at this) (.lit (.bool true)) [] (plainElem_bool Tryz.underlying4 true) ?_
  intro w' g1 g2
  refine hK w' ⟨D.put (.string s) (.lit (.bool true)), g1, g1.isMap, fun d => ?_⟩ g2
  by_cases hd : d = s
  · subst hd
    rw [show decide (d ∈ l ++ [d]) = true by simp]
    exact Maps.atKey_put_same h2 (by simp [WideAt.IsKeyLit]) _ _
  · rw [show decide (d ∈ l ++ [s]) = decide (d ∈ l) by simp [hd], ← h3 d]
    exact Maps.atKey_put_other (fun e => hd (by injection e)) _ _
end Go.Proofs.YtnlkmljdcmfogaaGreatDoor
namespace Go.Proofs.YtnlkmljdcmfogaaGreatDoor
open Go Go.RowKit Go.Extern.Stop Go.Stop Go.Extern
theorem stop_bad (line : Int) (n : Nat) (w : World) (hv : ErrVar w) (h0 : n ≠ 0) : Calls Tryz.prog 109 #[.int .i64 line, errV n] w fun e w' => e = .panicked (thrown n line) ∧ Below w.heap.size w w' := by
  rw [errV, if_neg h0]
  exact stop_eno line n w hv
theorem stop_ok (line : Int) (w : World) : Calls Tryz.prog 109 #[.int .i64 line, errV 0] w fun e w' => e = .returned (.tuple #[]) ∧ Below w.heap.size w w' := stop_nil line w
theorem esc_test (e : UInt8) : (((e.toNat : Int) != 92) && ((e.toNat : Int) != 96)) = decide (e ≠ 92 ∧ e ≠ 96) := by
  have h : ∀ k : UInt8, ((e.toNat : Int) != (k.toNat : Int)) = decide (e ≠ k) := fun k => by
    rw [Bool.eq_iff_iff, decide_eq_true_eq, bne_iff_ne, Ne, Ne, ← UInt8.toNat_inj]
    omega
  rw [Bool.decide_and]
  exact congr (congrArg and (h 92)) (h 96)
/-- what stays while check.File walks: the file's block, the error's. -/
structure FIn (w : World) (cs : Array Value) (wx : World) : Prop where
  below : Below w.heap.size w wx
  size : w.heap.size + 2 ≤ wx.heap.size
  file : Blk wx w.heap.size 25 cs
  err : Blk wx (w.heap.size + 1) 40 #[.nilIface]
section
variable {w wx wy : World} {cs : Array Value}
theorem FIn.low (I : FIn w cs wx) {B : Nat} (k : Below B wx wy) (hB : w.heap.size + 2 ≤ B) : FIn w cs wy := ⟨I.below.trans (k.mono (by omega)), Nat.le_trans I.size k.size, I.file.below k (by omega), I.err.below k (by omega)⟩
theorem FIn.new (I : FIn w cs wx) (k : Below wx.heap.size wx wy) : FIn w cs wy := I.low k I.size
theorem FIn.alloc (I : FIn w cs wx) (o : Obj) : FIn w cs (wx.alloc o) := I.new ((Below.refl _ _).alloc (Nat.le_refl _) o)
theorem FIn.grown (I : FIn w cs wx) {b : Nat} (k : wx.grownBy wy (some b)) (hb : w.heap.size + 2 ≤ b) : FIn w cs wy := I.low ((Fx.of_grown k).to_below I.size (fun c e => by injection e with e; omega)) (Nat.le_refl _)
/-- a stop ends the walk. -/
theorem FIn.bad (I : FIn w cs wx) (hV : ErrVar w) {tmps : Array Value} {n line : Int} {x : Option (Nat × Int)} (hp : tmps.getD 2 undef = .pointer (some ⟨w.heap.size + 1, 0, none⟩)) (hx : eFault n line 0 = filV x) :
    bodyPostD Tryz.prog Tryz.f36 (fun r w' => r = .returned (filV x) ∧ Below w.heap.size w w') (.panic (thrown n line)) { tmps := tmps, defers := [{ target := .fn (.func 107) #[.pointer (some ⟨w.heap.size + 1, 0, none⟩)], args := #[] }] } wx :=
  end_fault hp (hV.below I.below hV.lt) I.err fun w3 g => ⟨congrArg Ending.returned hx, I.below.grown g I.below.size (fun k e => by cases e; omega)⟩
end
end Go.Proofs.YtnlkmljdcmfogaaGreatDoor
