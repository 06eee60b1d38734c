/- errors.As at the target *api.Fault: by contracts: nil; a number of package api (it is none). -/
import Derived.Test.YtpgnfianffjpnaaDoorErrIs
import Derived.Below
namespace Go.Proofs.YtpgnfianffjpnaaDoor
open Go.RowKit Go.Extern.Stop Go.Stop Go.Extern

namespace As
theorem valueOfP (t : Addr) (w : World) : (ReflectliteValue.unpack (.iface 77 (.pointer (some t)))).run Tryd.prog w
    = .ok (.agg #[.pointer (some ⟨4, 77, none⟩), .pointer (some ⟨w.heap.size, 0, none⟩), .int .u64 150]) (w.alloc (.cells #[.pointer (some t)] 77)) := by kernel_rfl
def typeFn : Array Value → Sem Value := ReflectliteValue.methodAny (ReflectliteValue.valueError "reflectlite.Value.Type" 0) fun t _ _ _ => ReflectliteType.toType t
theorem typeP (a : Addr) (w : World) : (typeFn #[.agg #[.pointer (some ⟨4, 77, none⟩), .pointer (some a), .int .u64 150]]).run Tryd.prog w
    = .ok (.iface 127 (.agg #[.pointer (some ⟨4, 77, none⟩)])) w := by kernel_rfl
def kindFn : Array Value → Sem Value := ReflectliteType.abiMethod fun t => do pure (.int .u8 (← Rtype.kind t))
theorem kindP (w : World) : (kindFn #[.pointer (some ⟨4, 77, none⟩)]).run Tryd.prog w = .ok (.int .u8 22) w := by kernel_rfl
theorem kindF (w : World) : (kindFn #[.pointer (some ⟨4, 55, none⟩)]).run Tryd.prog w = .ok (.int .u8 25) w := by kernel_rfl
def nilFn : Array Value → Sem Value := ReflectliteValue.method (ReflectliteValue.valueError "reflectlite.Value.IsNil" 0) ReflectliteValue.isNil
theorem rlm (z : Sem Value) (f : TypeId → Addr → Nat → Nat → Sem Value) (v : Value) :
    ReflectliteValue.method z f #[v] = (do match ← ReflectliteValue.parts v with | none => z | some (t, a, fl) => f t a fl (fl % 32)) := rfl
theorem partsP (a : Addr) (w : World) : (ReflectliteValue.parts (.agg #[.pointer (some ⟨4, 77, none⟩), .pointer (some a), .int .u64 150])).run Tryd.prog w = .ok (some (77, a, 150)) w := by kernel_rfl
theorem isNilP (a p : Addr) (W : World) (ha : W.cell? a = some (.pointer (some p))) :
    (nilFn #[.agg #[.pointer (some ⟨4, 77, none⟩), .pointer (some a), .int .u64 150]]).run Tryd.prog W = .ok (.bool false) W := by
  unfold nilFn
  rw [rlm]
  simp only [Sem.run_bind, partsP, Result.andThen]
  simp [ReflectliteValue.isNil, loadVar, isAgg, underlying, Tryd.underlying77, ha, Result.andThen]
def elemFn : Array Value → Sem Value := ReflectliteType.method ReflectliteType.elem
theorem elemP (w : World) : (elemFn #[.agg #[.pointer (some ⟨4, 77, none⟩)]]).run Tryd.prog w = .ok (.iface 127 (.agg #[.pointer (some ⟨4, 55, none⟩)])) w := by kernel_rfl
def implFn : Array Value → Sem Value := ReflectliteType.relation "Implements" ReflectliteType.implements_
theorem implF (w : World) : (implFn #[.agg #[.pointer (some ⟨4, 55, none⟩)], .iface 127 (.agg #[.pointer (some ⟨4, 24, none⟩)])]).run Tryd.prog w = .ok (.bool true) w := by kernel_rfl
def assignFn : Array Value → Sem Value := ReflectliteType.relation "AssignableTo" ReflectliteType.assignableTo
theorem assignE (w : World) : (assignFn #[.agg #[.pointer (some ⟨4, 40, none⟩)], .iface 127 (.agg #[.pointer (some ⟨4, 55, none⟩)])]).run Tryd.prog w = .ok (.bool false) w := by kernel_rfl
theorem noAs (v : Value) (w : World) : (Instr.typeAssert (.iface 40 v) 24 132 true).run Tryd.prog w = .ok (.tuple #[.nilIface, .bool false]) w := run_typeAssert_lacksB Tryd.underlying132 (by kernel_rfl) (by kernel_rfl) v _ w
theorem x6 : ∀ (args : Array Value) (w : World), Sem.run Tryd.prog (callFunc 50 args) w = ((((fun args => ReflectliteValue.unpack (args.getD 0 (.tuple #[])))) args).run Tryd.prog w).andThen fun v w' => Result.ok (Next.value v) w' := @run_callFunc_extern Tryd.prog 50 _ (fun args => ReflectliteValue.unpack (args.getD 0 (.tuple #[]))) Tryd.func50 (by kernel_rfl) (by kernel_rfl) (by kernel_rfl) (by kernel_rfl)
theorem x7 : ∀ (args : Array Value) (w : World), Sem.run Tryd.prog (callFunc 51 args) w = (((typeFn) args).run Tryd.prog w).andThen fun v w' => Result.ok (Next.value v) w' := @run_callFunc_extern Tryd.prog 51 _ typeFn Tryd.func51 (by kernel_rfl) (by kernel_rfl) (by kernel_rfl) (by kernel_rfl)
theorem x8 : ∀ (args : Array Value) (w : World), Sem.run Tryd.prog (callFunc 52 args) w = (((nilFn) args).run Tryd.prog w).andThen fun v w' => Result.ok (Next.value v) w' := @run_callFunc_extern Tryd.prog 52 _ nilFn Tryd.func52 (by kernel_rfl) (by kernel_rfl) (by kernel_rfl) (by kernel_rfl)
theorem x27 : ∀ (args : Array Value) (w : World), Sem.run Tryd.prog (callFunc 96 args) w = (((kindFn) args).run Tryd.prog w).andThen fun v w' => Result.ok (Next.value v) w' := @run_callFunc_extern Tryd.prog 96 _ kindFn Tryd.func96 (by kernel_rfl) (by kernel_rfl) (by kernel_rfl) (by kernel_rfl)
theorem x37 : ∀ (args : Array Value) (w : World), Sem.run Tryd.prog (callFunc 109 args) w = (((elemFn) args).run Tryd.prog w).andThen fun v w' => Result.ok (Next.value v) w' := @run_callFunc_extern Tryd.prog 109 _ elemFn Tryd.func109 (by kernel_rfl) (by kernel_rfl) (by kernel_rfl) (by kernel_rfl)
theorem x38 : ∀ (args : Array Value) (w : World), Sem.run Tryd.prog (callFunc 110 args) w = (((implFn) args).run Tryd.prog w).andThen fun v w' => Result.ok (Next.value v) w' := @run_callFunc_extern Tryd.prog 110 _ implFn Tryd.func110 (by kernel_rfl) (by kernel_rfl) (by kernel_rfl) (by kernel_rfl)
theorem x10 : ∀ (args : Array Value) (w : World), Sem.run Tryd.prog (callFunc 66 args) w = (((ReflectliteType.typeOf) args).run Tryd.prog w).andThen fun v w' => Result.ok (Next.value v) w' := @run_callFunc_extern Tryd.prog 66 _ ReflectliteType.typeOf Tryd.func66 (by kernel_rfl) (by kernel_rfl) (by kernel_rfl) (by kernel_rfl)
theorem x35 : ∀ (args : Array Value) (w : World), Sem.run Tryd.prog (callFunc 107 args) w = (((assignFn) args).run Tryd.prog w).andThen fun v w' => Result.ok (Next.value v) w' := @run_callFunc_extern Tryd.prog 107 _ assignFn Tryd.func107 (by kernel_rfl) (by kernel_rfl) (by kernel_rfl) (by kernel_rfl)
end As

theorem below_of_below' {B : Nat} {a b c : World} (h : Below B a b) (k : Below b.heap.size b c) (hB : B ≤ b.heap.size) : Below B a c := h.trans (k.mono hB)
/-- package errors' variable holds what its initialiser lays. -/
def ErrVar (w : World) : Prop := w.cell? ⟨0, 0, none⟩ = some (.iface 127 (.agg #[.pointer (some ⟨4, 24, none⟩)]))
theorem ErrVar.lt {w : World} (h : ErrVar w) : 0 < w.heap.size := World.block_lt_of_cell? w _ h
theorem ErrVar.below {w w' : World} {B : Nat} (h : ErrVar w) (hb : Below B w w') (hB : 0 < B) : ErrVar w' := (hb.cell (p := ⟨0, 0, none⟩) hB).trans h

set_option maxHeartbeats 4000000 in
/-- errors.As(a number, &f). -/
theorem as_eno (n : Int) (t : Addr) (w : World) (hg : ErrVar w) :
    Calls Tryd.prog 35 #[eno n, .iface 77 (.pointer (some t))] w fun e w' => e = .returned (.bool false) ∧ Below w.heap.size w w' := by
  have hlt := hg.lt
  unfold ErrVar at hg
  have h6 := As.x6
  have h7 := As.x7
  have h8 := As.x8
  have h27 := As.x27
  have h37 := As.x37
  have h38 := As.x38
  have h10 := As.x10
  have h35 := As.x35
  have tO := Is.typeOf
  have a25 := As.assignE
  have f6 := As.valueOfP
  have f7 := As.typeP
  have k27 := As.kindP
  have k25 := As.kindF
  have e27 := As.elemP
  have i25 := As.implF
  have nA := As.noAs
  have nU := Is.noUnwrap
  have nV := Is.noUnwraps
  have n8 := As.isNilP ⟨w.heap.size, 0, none⟩ t ((w.alloc (.cells #[.pointer (some t)] 77)).alloc (.cells #[.pointer (some ⟨4, 77, none⟩), .pointer (some ⟨w.heap.size, 0, none⟩), .int .u64 150] 101)) (by simp)
  have hg2 : ((w.alloc (.cells #[.pointer (some t)] 77)).alloc (.cells #[.pointer (some ⟨4, 77, none⟩), .pointer (some ⟨w.heap.size, 0, none⟩), .int .u64 150] 101)).cell? ⟨0, 0, none⟩ = some (.iface 127 (.agg #[.pointer (some ⟨4, 24, none⟩)])) := by
    rw [World.cell?_alloc_lt _ _ ⟨0, 0, none⟩ (by first | (simp; done) | (simp; omega)), World.cell?_alloc_lt _ _ ⟨0, 0, none⟩ hlt]; exact hg
  go_enter Tryd.func35, Tryd.ntmps35
  go_wp2
  refine wp_loop_rounds 1 ?_
  rw [rounds_succ]
  go_wp2
  go_ret
  exact ⟨rfl, (((Below.refl _ _).alloc (Nat.le_refl _) _).alloc (by simp) _).alloc (by simp; omega) _⟩
end Go.Proofs.YtpgnfianffjpnaaDoor
