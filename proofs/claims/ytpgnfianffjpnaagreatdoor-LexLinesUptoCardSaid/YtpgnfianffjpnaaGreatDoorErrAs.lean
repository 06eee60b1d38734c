/- errors.As at the target *api.Fault: by contracts: nil; a number of package api (it is none). -/
import Derived.Test.YtpgnfianffjpnaaGreatDoorErrIs
import Derived.Below
namespace Go.Proofs.YtpgnfianffjpnaaGreatDoor
open Go.RowKit Go.Extern.Stop Go.Stop Go.Extern

namespace As
theorem valueOfP (t : Addr) (w : World) : (ReflectliteValue.unpack (.iface 170 (.pointer (some t)))).run Tryz.prog w
    = .ok (.agg #[.pointer (some ⟨4, 170, none⟩), .pointer (some ⟨w.heap.size, 0, none⟩), .int .u64 150]) (w.alloc (.cells #[.pointer (some t)] 170)) := by kernel_rfl
def typeFn : Array Value → Sem Value := ReflectliteValue.methodAny (ReflectliteValue.valueError "reflectlite.Value.Type" 0) fun t _ _ _ => ReflectliteType.toType t
theorem typeP (a : Addr) (w : World) : (typeFn #[.agg #[.pointer (some ⟨4, 170, none⟩), .pointer (some a), .int .u64 150]]).run Tryz.prog w
    = .ok (.iface 281 (.agg #[.pointer (some ⟨4, 170, none⟩)])) w := by kernel_rfl
def kindFn : Array Value → Sem Value := ReflectliteType.abiMethod fun t => do pure (.int .u8 (← Rtype.kind t))
theorem kindP (w : World) : (kindFn #[.pointer (some ⟨4, 170, none⟩)]).run Tryz.prog w = .ok (.int .u8 22) w := by kernel_rfl
theorem kindF (w : World) : (kindFn #[.pointer (some ⟨4, 150, none⟩)]).run Tryz.prog w = .ok (.int .u8 25) w := by kernel_rfl
def nilFn : Array Value → Sem Value := ReflectliteValue.method (ReflectliteValue.valueError "reflectlite.Value.IsNil" 0) ReflectliteValue.isNil
theorem rlm (z : Sem Value) (f : TypeId → Addr → Nat → Nat → Sem Value) (v : Value) :
    ReflectliteValue.method z f #[v] = (do match ← ReflectliteValue.parts v with | none => z | some (t, a, fl) => f t a fl (fl % 32)) := rfl
theorem partsP (a : Addr) (w : World) : (ReflectliteValue.parts (.agg #[.pointer (some ⟨4, 170, none⟩), .pointer (some a), .int .u64 150])).run Tryz.prog w = .ok (some (170, a, 150)) w := by kernel_rfl
theorem isNilP (a p : Addr) (W : World) (ha : W.cell? a = some (.pointer (some p))) :
    (nilFn #[.agg #[.pointer (some ⟨4, 170, none⟩), .pointer (some a), .int .u64 150]]).run Tryz.prog W = .ok (.bool false) W := by
  unfold nilFn
  rw [rlm]
  simp only [Sem.run_bind, partsP, Result.andThen]
  simp [ReflectliteValue.isNil, loadVar, isAgg, underlying, Tryz.underlying170, ha, Result.andThen]
def elemFn : Array Value → Sem Value := ReflectliteType.method ReflectliteType.elem
theorem elemP (w : World) : (elemFn #[.agg #[.pointer (some ⟨4, 170, none⟩)]]).run Tryz.prog w = .ok (.iface 281 (.agg #[.pointer (some ⟨4, 150, none⟩)])) w := by kernel_rfl
def implFn : Array Value → Sem Value := ReflectliteType.relation "Implements" ReflectliteType.implements_
theorem implF (w : World) : (implFn #[.agg #[.pointer (some ⟨4, 150, none⟩)], .iface 281 (.agg #[.pointer (some ⟨4, 26, none⟩)])]).run Tryz.prog w = .ok (.bool true) w := by kernel_rfl
def assignFn : Array Value → Sem Value := ReflectliteType.relation "AssignableTo" ReflectliteType.assignableTo
theorem assignE (w : World) : (assignFn #[.agg #[.pointer (some ⟨4, 92, none⟩)], .iface 281 (.agg #[.pointer (some ⟨4, 150, none⟩)])]).run Tryz.prog w = .ok (.bool false) w := by kernel_rfl
theorem noAs (v : Value) (w : World) : (Instr.typeAssert (.iface 92 v) 26 301 true).run Tryz.prog w = .ok (.tuple #[.nilIface, .bool false]) w := run_typeAssert_lacksB Tryz.underlying301 (by kernel_rfl) (by kernel_rfl) v _ w
theorem x6 : ∀ (args : Array Value) (w : World), Sem.run Tryz.prog (callFunc 146 args) w = ((((fun args => ReflectliteValue.unpack (args.getD 0 (.tuple #[])))) args).run Tryz.prog w).andThen fun v w' => Result.ok (Next.value v) w' := @run_callFunc_extern Tryz.prog 146 _ (fun args => ReflectliteValue.unpack (args.getD 0 (.tuple #[]))) Tryz.func146 (by kernel_rfl) (by kernel_rfl) (by kernel_rfl) (by kernel_rfl)
theorem x7 : ∀ (args : Array Value) (w : World), Sem.run Tryz.prog (callFunc 147 args) w = (((typeFn) args).run Tryz.prog w).andThen fun v w' => Result.ok (Next.value v) w' := @run_callFunc_extern Tryz.prog 147 _ typeFn Tryz.func147 (by kernel_rfl) (by kernel_rfl) (by kernel_rfl) (by kernel_rfl)
theorem x8 : ∀ (args : Array Value) (w : World), Sem.run Tryz.prog (callFunc 148 args) w = (((nilFn) args).run Tryz.prog w).andThen fun v w' => Result.ok (Next.value v) w' := @run_callFunc_extern Tryz.prog 148 _ nilFn Tryz.func148 (by kernel_rfl) (by kernel_rfl) (by kernel_rfl) (by kernel_rfl)
theorem x27 : ∀ (args : Array Value) (w : World), Sem.run Tryz.prog (callFunc 192 args) w = (((kindFn) args).run Tryz.prog w).andThen fun v w' => Result.ok (Next.value v) w' := @run_callFunc_extern Tryz.prog 192 _ kindFn Tryz.func192 (by kernel_rfl) (by kernel_rfl) (by kernel_rfl) (by kernel_rfl)
theorem x37 : ∀ (args : Array Value) (w : World), Sem.run Tryz.prog (callFunc 205 args) w = (((elemFn) args).run Tryz.prog w).andThen fun v w' => Result.ok (Next.value v) w' := @run_callFunc_extern Tryz.prog 205 _ elemFn Tryz.func205 (by kernel_rfl) (by kernel_rfl) (by kernel_rfl) (by kernel_rfl)
theorem x38 : ∀ (args : Array Value) (w : World), Sem.run Tryz.prog (callFunc 206 args) w = (((implFn) args).run Tryz.prog w).andThen fun v w' => Result.ok (Next.value v) w' := @run_callFunc_extern Tryz.prog 206 _ implFn Tryz.func206 (by kernel_rfl) (by kernel_rfl) (by kernel_rfl) (by kernel_rfl)
theorem x10 : ∀ (args : Array Value) (w : World), Sem.run Tryz.prog (callFunc 108 args) w = (((ReflectliteType.typeOf) args).run Tryz.prog w).andThen fun v w' => Result.ok (Next.value v) w' := @run_callFunc_extern Tryz.prog 108 _ ReflectliteType.typeOf Tryz.func108 (by kernel_rfl) (by kernel_rfl) (by kernel_rfl) (by kernel_rfl)
theorem x35 : ∀ (args : Array Value) (w : World), Sem.run Tryz.prog (callFunc 203 args) w = (((assignFn) args).run Tryz.prog w).andThen fun v w' => Result.ok (Next.value v) w' := @run_callFunc_extern Tryz.prog 203 _ assignFn Tryz.func203 (by kernel_rfl) (by kernel_rfl) (by kernel_rfl) (by kernel_rfl)
end As

theorem below_of_below' {B : Nat} {a b c : World} (h : Below B a b) (k : Below b.heap.size b c) (hB : B ≤ b.heap.size) : Below B a c := h.trans (k.mono hB)
/-- package errors' variable holds what its initialiser lays. -/
def ErrVar (w : World) : Prop := w.cell? ⟨0, 0, none⟩ = some (.iface 281 (.agg #[.pointer (some ⟨4, 26, none⟩)]))
theorem ErrVar.lt {w : World} (h : ErrVar w) : 0 < w.heap.size := World.block_lt_of_cell? w _ h
theorem ErrVar.below {w w' : World} {B : Nat} (h : ErrVar w) (hb : Below B w w') (hB : 0 < B) : ErrVar w' := (hb.cell (p := ⟨0, 0, none⟩) hB).trans h

set_option maxHeartbeats 4000000 in
/-- errors.As(a number, &f). -/
theorem as_eno (n : Int) (t : Addr) (w : World) (hg : ErrVar w) :
    Calls Tryz.prog 104 #[eno n, .iface 170 (.pointer (some t))] w fun e w' => e = .returned (.bool false) ∧ Below w.heap.size w w' := by
  have hlt := hg.lt
  unfold ErrVar at hg
  have h6 := As.x6
  have h7 := As.x7
  have h8 := As.x8
  have h27 := As.x27
  have h37 := As.x37
  have h38 := As.x38
  have h10 := As.x10
  have h35 := As.x35
  have tO := Is.typeOf
  have a25 := As.assignE
  have f6 := As.valueOfP
  have f7 := As.typeP
  have k27 := As.kindP
  have k25 := As.kindF
  have e27 := As.elemP
  have i25 := As.implF
  have nA := As.noAs
  have nU := Is.noUnwrap
  have nV := Is.noUnwraps
  have n8 := As.isNilP ⟨w.heap.size, 0, none⟩ t ((w.alloc (.cells #[.pointer (some t)] 170)).alloc (.cells #[.pointer (some ⟨4, 170, none⟩), .pointer (some ⟨w.heap.size, 0, none⟩), .int .u64 150] 267)) (by simp)
  have hg2 : ((w.alloc (.cells #[.pointer (some t)] 170)).alloc (.cells #[.pointer (some ⟨4, 170, none⟩), .pointer (some ⟨w.heap.size, 0, none⟩), .int .u64 150] 267)).cell? ⟨0, 0, none⟩ = some (.iface 281 (.agg #[.pointer (some ⟨4, 26, none⟩)])) := by
    rw [World.cell?_alloc_lt _ _ ⟨0, 0, none⟩ (by first | (simp; done) | (simp; omega)), World.cell?_alloc_lt _ _ ⟨0, 0, none⟩ hlt]; exact hg
  go_enter Tryz.func104, Tryz.ntmps104
  go_wp2
  refine wp_loop_rounds 1 ?_
  rw [rounds_succ]
  go_wp2
  go_ret
  exact ⟨rfl, (((Below.refl _ _).alloc (Nat.le_refl _) _).alloc (by simp) _).alloc (by simp; omega) _⟩
end Go.Proofs.YtpgnfianffjpnaaGreatDoor
