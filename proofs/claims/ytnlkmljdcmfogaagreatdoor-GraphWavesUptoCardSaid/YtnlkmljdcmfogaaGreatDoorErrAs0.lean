/- errors.As at the target *api.Fault: by contracts: nil; a number of package api (it is none). stratakit.Num, by contracts over any error of which errors.Is and errors.As are known. errors.Is, errors.As for an api.Fault; stratakit.Num, Place, At of one. -/
import Derived.Test.YtnlkmljdcmfogaaGreatDoorExT20
import Derived.Below
import Derived.Test.YtnlkmljdcmfogaaGreatDoorOwn0
import Derived.Laws.Tables
import Derived.Laws.Cells
import Derived.Deep.RegionHeld3
import Derived.Deep.DeepCutAuto
namespace Go.Proofs.YtnlkmljdcmfogaaGreatDoor
open Go.RowKit Go.Extern.Stop Go.Stop Go.Extern

namespace As
theorem valueOfP (t : Addr) (w : World) : (ReflectliteValue.unpack (.iface 182 (.pointer (some t)))).run Tryz.prog w
    = .ok (.agg #[.pointer (some ⟨4, 182, none⟩), .pointer (some ⟨w.heap.size, 0, none⟩), .int .u64 150]) (w.alloc (.cells #[.pointer (some t)] 182)) := by kernel_rfl
def typeFn : Array Value → Sem Value := ReflectliteValue.methodAny (ReflectliteValue.valueError "reflectlite.Value.Type" 0) fun t _ _ _ => ReflectliteType.toType t
theorem typeP (a : Addr) (w : World) : (typeFn #[.agg #[.pointer (some ⟨4, 182, none⟩), .pointer (some a), .int .u64 150]]).run Tryz.prog w
    = .ok (.iface 357 (.agg #[.pointer (some ⟨4, 182, none⟩)])) w := by kernel_rfl
def kindFn : Array Value → Sem Value := ReflectliteType.abiMethod fun t => do pure (.int .u8 (← Rtype.kind t))
theorem kindP (w : World) : (kindFn #[.pointer (some ⟨4, 182, none⟩)]).run Tryz.prog w = .ok (.int .u8 22) w := by kernel_rfl
theorem kindF (w : World) : (kindFn #[.pointer (some ⟨4, 179, none⟩)]).run Tryz.prog w = .ok (.int .u8 25) w := by kernel_rfl
def nilFn : Array Value → Sem Value := ReflectliteValue.method (ReflectliteValue.valueError "reflectlite.Value.IsNil" 0) ReflectliteValue.isNil
theorem rlm (z : Sem Value) (f : TypeId → Addr → Nat → Nat → Sem Value) (v : Value) :
    ReflectliteValue.method z f #[v] = (do match ← ReflectliteValue.parts v with | none => z | some (t, a, fl) => f t a fl (fl % 32)) := rfl
theorem partsP (a : Addr) (w : World) : (ReflectliteValue.parts (.agg #[.pointer (some ⟨4, 182, none⟩), .pointer (some a), .int .u64 150])).run Tryz.prog w = .ok (some (182, a, 150)) w := by kernel_rfl
theorem isNilP (a p : Addr) (W : World) (ha : W.cell? a = some (.pointer (some p))) :
    (nilFn #[.agg #[.pointer (some ⟨4, 182, none⟩), .pointer (some a), .int .u64 150]]).run Tryz.prog W = .ok (.bool false) W := by
  unfold nilFn
  rw [rlm]
  simp only [Sem.run_bind, partsP, Result.andThen]
  simp [ReflectliteValue.isNil, loadVar, isAgg, underlying, Tryz.underlying182, ha, Result.andThen]
def elemFn : Array Value → Sem Value := ReflectliteType.method ReflectliteType.elem
theorem elemP (w : World) : (elemFn #[.agg #[.pointer (some ⟨4, 182, none⟩)]]).run Tryz.prog w = .ok (.iface 357 (.agg #[.pointer (some ⟨4, 179, none⟩)])) w := by kernel_rfl
def implFn : Array Value → Sem Value := ReflectliteType.relation "Implements" ReflectliteType.implements_
theorem implF (w : World) : (implFn #[.agg #[.pointer (some ⟨4, 179, none⟩)], .iface 357 (.agg #[.pointer (some ⟨4, 40, none⟩)])]).run Tryz.prog w = .ok (.bool true) w := by kernel_rfl
def assignFn : Array Value → Sem Value := ReflectliteType.relation "AssignableTo" ReflectliteType.assignableTo
theorem assignE (w : World) : (assignFn #[.agg #[.pointer (some ⟨4, 114, none⟩)], .iface 357 (.agg #[.pointer (some ⟨4, 179, none⟩)])]).run Tryz.prog w = .ok (.bool false) w := by kernel_rfl
theorem noAs (v : Value) (w : World) : (Instr.typeAssert (.iface 114 v) 40 362 true).run Tryz.prog w = .ok (.tuple #[.nilIface, .bool false]) w := run_typeAssert_lacksB Tryz.underlying362 (by kernel_rfl) (by kernel_rfl) v _ w
theorem x6 : ∀ (args : Array Value) (w : World), Sem.run Tryz.prog (callFunc 168 args) w = ((((fun args => ReflectliteValue.unpack (args.getD 0 (.tuple #[])))) args).run Tryz.prog w).andThen fun v w' => Result.ok (Next.value v) w' := @run_callFunc_extern Tryz.prog 168 _ (fun args => ReflectliteValue.unpack (args.getD 0 (.tuple #[]))) Tryz.func168 (by kernel_rfl) (by kernel_rfl) (by kernel_rfl) (by kernel_rfl)
theorem x7 : ∀ (args : Array Value) (w : World), Sem.run Tryz.prog (callFunc 169 args) w = (((typeFn) args).run Tryz.prog w).andThen fun v w' => Result.ok (Next.value v) w' := @run_callFunc_extern Tryz.prog 169 _ typeFn Tryz.func169 (by kernel_rfl) (by kernel_rfl) (by kernel_rfl) (by kernel_rfl)
theorem x8 : ∀ (args : Array Value) (w : World), Sem.run Tryz.prog (callFunc 170 args) w = (((nilFn) args).run Tryz.prog w).andThen fun v w' => Result.ok (Next.value v) w' := @run_callFunc_extern Tryz.prog 170 _ nilFn Tryz.func170 (by kernel_rfl) (by kernel_rfl) (by kernel_rfl) (by kernel_rfl)
theorem x27 : ∀ (args : Array Value) (w : World), Sem.run Tryz.prog (callFunc 300 args) w = (((kindFn) args).run Tryz.prog w).andThen fun v w' => Result.ok (Next.value v) w' := @run_callFunc_extern Tryz.prog 300 _ kindFn Tryz.func300 (by kernel_rfl) (by kernel_rfl) (by kernel_rfl) (by kernel_rfl)
theorem x37 : ∀ (args : Array Value) (w : World), Sem.run Tryz.prog (callFunc 312 args) w = (((elemFn) args).run Tryz.prog w).andThen fun v w' => Result.ok (Next.value v) w' := @run_callFunc_extern Tryz.prog 312 _ elemFn Tryz.func312 (by kernel_rfl) (by kernel_rfl) (by kernel_rfl) (by kernel_rfl)
theorem x38 : ∀ (args : Array Value) (w : World), Sem.run Tryz.prog (callFunc 313 args) w = (((implFn) args).run Tryz.prog w).andThen fun v w' => Result.ok (Next.value v) w' := @run_callFunc_extern Tryz.prog 313 _ implFn Tryz.func313 (by kernel_rfl) (by kernel_rfl) (by kernel_rfl) (by kernel_rfl)
theorem x10 : ∀ (args : Array Value) (w : World), Sem.run Tryz.prog (callFunc 229 args) w = (((ReflectliteType.typeOf) args).run Tryz.prog w).andThen fun v w' => Result.ok (Next.value v) w' := @run_callFunc_extern Tryz.prog 229 _ ReflectliteType.typeOf Tryz.func229 (by kernel_rfl) (by kernel_rfl) (by kernel_rfl) (by kernel_rfl)
theorem x35 : ∀ (args : Array Value) (w : World), Sem.run Tryz.prog (callFunc 310 args) w = (((assignFn) args).run Tryz.prog w).andThen fun v w' => Result.ok (Next.value v) w' := @run_callFunc_extern Tryz.prog 310 _ assignFn Tryz.func310 (by kernel_rfl) (by kernel_rfl) (by kernel_rfl) (by kernel_rfl)
end As

theorem below_of_below' {B : Nat} {a b c : World} (h : Below B a b) (k : Below b.heap.size b c) (hB : B ≤ b.heap.size) : Below B a c := h.trans (k.mono hB)
/-- package errors' variable holds what its initialiser lays. -/
def ErrVar (w : World) : Prop := w.cell? ⟨0, 0, none⟩ = some (.iface 357 (.agg #[.pointer (some ⟨4, 40, none⟩)]))
theorem ErrVar.lt {w : World} (h : ErrVar w) : 0 < w.heap.size := World.block_lt_of_cell? w _ h
theorem ErrVar.below {w w' : World} {B : Nat} (h : ErrVar w) (hb : Below B w w') (hB : 0 < B) : ErrVar w' := (hb.cell (p := ⟨0, 0, none⟩) hB).trans h

set_option maxHeartbeats 4000000 in
/-- errors.As(a number, &f). -/
theorem as_eno (n : Int) (t : Addr) (w : World) (hg : ErrVar w) :
    Calls Tryz.prog 108 #[eno n, .iface 182 (.pointer (some t))] w fun e w' => e = .returned (.bool false) ∧ Below w.heap.size w w' := by
  have hlt := hg.lt
  unfold ErrVar at hg
  have h6 := As.x6
  have h7 := As.x7
  have h8 := As.x8
  have h27 := As.x27
  have h37 := As.x37
  have h38 := As.x38
  have h10 := As.x10
  have h35 := As.x35
  have tO := Is.typeOf
  have a25 := As.assignE
  have f6 := As.valueOfP
  have f7 := As.typeP
  have k27 := As.kindP
  have k25 := As.kindF
  have e27 := As.elemP
  have i25 := As.implF
  have nA := As.noAs
  have nU := Is.noUnwrap
  have nV := Is.noUnwraps
  have n8 := As.isNilP ⟨w.heap.size, 0, none⟩ t ((w.alloc (.cells #[.pointer (some t)] 182)).alloc (.cells #[.pointer (some ⟨4, 182, none⟩), .pointer (some ⟨w.heap.size, 0, none⟩), .int .u64 150] 294)) (by simp)
  have hg2 : ((w.alloc (.cells #[.pointer (some t)] 182)).alloc (.cells #[.pointer (some ⟨4, 182, none⟩), .pointer (some ⟨w.heap.size, 0, none⟩), .int .u64 150] 294)).cell? ⟨0, 0, none⟩ = some (.iface 357 (.agg #[.pointer (some ⟨4, 40, none⟩)])) := by
    rw [World.cell?_alloc_lt _ _ ⟨0, 0, none⟩ (by first | (simp; done) | (simp; omega)), World.cell?_alloc_lt _ _ ⟨0, 0, none⟩ hlt]; exact hg
  go_enter Tryz.func108, Tryz.ntmps108
  go_wp2
  refine wp_loop_rounds 1 ?_
  rw [rounds_succ]
  go_wp2
  go_ret
  exact ⟨rfl, (((Below.refl _ _).alloc (Nat.le_refl _) _).alloc (by simp) _).alloc (by simp; omega) _⟩
end Go.Proofs.YtnlkmljdcmfogaaGreatDoor
namespace Go.Proofs.YtnlkmljdcmfogaaGreatDoor
open Go.RowKit

/-- errors.Is finds just the number k in it. -/
def IsNum (E : Value) (k : Int) : Prop := ∀ (b : Int) (w : World), Calls Tryz.prog 179 #[E, eno b] w fun e w' => e = .returned (.bool (k == b)) ∧ Below w.heap.size w w'
/-- errors.As finds no api.Fault in it. -/
def IsPlain (E : Value) : Prop := ∀ (t : Addr) (w : World), ErrVar w → Calls Tryz.prog 108 #[E, .iface 182 (.pointer (some t))] w fun e w' => e = .returned (.bool false) ∧ Below w.heap.size w w'
theorem isNum_eno (k : Int) : IsNum (eno k) k := fun b w => (is_eno k b w).mono fun _ _ ⟨h, h'⟩ => ⟨h, by rw [h']; exact Below.refl _ _⟩
theorem isPlain_eno (k : Int) : IsPlain (eno k) := fun t w h => as_eno k t w h
/-- how many numbers were asked for: what was found. -/
def found (k j : Int) : Int := if k < j then k else 0

theorem ret_int {k : IntKind} {a b : Int} (h : a = b) : Ending.returned (.int k a) = .returned (.int k b) := by rw [h]
theorem val_int {k : IntKind} {a b : Int} (h : a = b) : Value.int k a = .int k b := by rw [h]

theorem num_nil (w : World) : Calls Tryz.prog 124 #[.nilIface] w fun e w' => e = .returned (.int .i64 0) ∧ w = w' := by
  go_enter Tryz.func124, Tryz.ntmps124
  go_wp2_with fail
  go_ret
  exact ⟨rfl, rfl⟩

set_option maxHeartbeats 2000000 in
theorem num_of (T : TypeId) (v : Value) (k : Int) (h : IsNum (.iface T v) k) (h1 : 1 ≤ k) (h2 : k ≤ 32) (w : World) :
    Calls Tryz.prog 124 #[.iface T v] w fun e w' => e = .returned (.int .i64 k) ∧ Below w.heap.size w w' := by
  have H := Lib.hid h
  clear h
  go_enter Tryz.func124, Tryz.ntmps124
  go_wp2_with fail
  go_loopw [3, 4] (fun x n wr => ∃ j : Int, 1 ≤ j ∧ j ≤ 33 ∧ n = .int .i64 j ∧ x = .int .i64 (found k j) ∧ Below w.heap.size w wr) (fun _ n _ => (33 - intOf n).toNat)
  case atStart => exact ⟨1, by omega, by omega, rfl, by rw [found, if_neg (by omega)], Below.refl _ _⟩
  case round =>
    obtain ⟨j, hj1, hj2, rfl, rfl, hbel⟩ := hrel
    have hsz := hbel.size
    by_cases hj : j ≤ 32
    · rcases (show j < k ∨ j = k ∨ k < j by omega) with hc | hc | hc
      · have hb : (k == j) = false := by simp; omega
        have HF : Hid (found k (j + 1) = found k j) := by show _ = _; rw [found, found, if_neg (by omega), if_neg (by omega)]
        go_wp2_with (go_at_call 179; refine (H.out _ _).mono ?_; rintro e w1 ⟨rfl, hb1⟩)
        go_roundw
        case rel => exact ⟨j + 1, by omega, by omega, rfl, by rw [HF.out], below_of_below' hbel hb1 hsz⟩
        case measure => simp [intOf]; omega
      · subst hc
        have hb : (j == j) = true := by simp
        have hf0 : found j j = 0 := by rw [found, if_neg (by omega)]
        have HF : Hid (found j (j + 1) = j) := by show _ = _; rw [found, if_pos (by omega)]
        rw [hf0]
        clear hf0
        go_wp2_with (go_at_call 179; refine (H.out _ _).mono ?_; rintro e w1 ⟨rfl, hb1⟩)
        go_roundw
        case rel => exact ⟨j + 1, by omega, by omega, rfl, by rw [HF.out], below_of_below' hbel hb1 hsz⟩
        case measure => simp [intOf]; omega
      · have hb : (k == j) = false := by simp; omega
        have HF : Hid (found k (j + 1) = found k j) := by show _ = _; rw [found, found, if_pos (by omega), if_pos (by omega)]
        go_wp2_with (go_at_call 179; refine (H.out _ _).mono ?_; rintro e w1 ⟨rfl, hb1⟩)
        go_roundw
        case rel => exact ⟨j + 1, by omega, by omega, rfl, by rw [HF.out], below_of_below' hbel hb1 hsz⟩
        case measure => simp [intOf]; omega
    · have hf : found k j = k := by rw [found, if_pos (by omega)]
      rw [hf]
      have hk0 : (k == 0) = false := by simp; omega
      clear hf
      go_wp2_with (go_at_call 179; refine (H.out _ _).mono ?_; rintro e w1 ⟨rfl, hb1⟩)
      go_ret
      exact ⟨rfl, below_of_below' hbel hb1 hsz⟩

end Go.Proofs.YtnlkmljdcmfogaaGreatDoor
namespace Go.Proofs.YtnlkmljdcmfogaaGreatDoor
open Go.RowKit Go.Extern.Stop Go.Stop Go.Extern

/-- the error strata/api.Fault. -/
abbrev eFault (no : Int) (line : Int) (at_ : Int) : Value := .iface 179 (.agg #[.int .i64 no, .int .i64 line, .int .i64 at_])

namespace IsFault
theorem noIs (v : Value) (w : World) : (Instr.typeAssert (.iface 179 v) 40 395 true).run Tryz.prog w = .ok (.tuple #[.nilIface, .bool false]) w := run_typeAssert_lacksB Tryz.underlying395 (by kernel_rfl) (by kernel_rfl) v _ w
theorem hasUnwrap (v : Value) (w : World) : (Instr.typeAssert (.iface 179 v) 40 365 true).run Tryz.prog w = .ok (.tuple #[.iface 179 v, .bool true]) w := run_typeAssert_hasB Tryz.underlying365 (by kernel_rfl) v _ w
end IsFault

theorem unwrapFault (no : Int) (line : Int) (at_ : Int) (w : World) : Calls Tryz.prog 305 #[.agg #[.int .i64 no, .int .i64 line, .int .i64 at_]] w fun e w' => e = .returned (eno no) ∧ w' = w.alloc (.cells #[.int .i64 no, .int .i64 line, .int .i64 at_] 179) := by
  go_enter Tryz.func305, Tryz.ntmps305
  go_wp2
  go_ret
  exact ⟨rfl, rfl⟩

set_option maxHeartbeats 2000000 in
theorem isFault (no : Int) (line : Int) (at_ : Int) (b : Int) (w : World) :
    Calls Tryz.prog 179 #[eFault no line at_, eno b] w fun e w' => e = .returned (.bool (no == b)) ∧ Below w.heap.size w w' := by
  obtain ⟨i, hi, hcmp⟩ := Option.map_eq_some_iff.1 Is.info
  have h8 := @run_callFunc_extern Tryz.prog 229 _ ReflectliteType.typeOf Tryz.func229 (by kernel_rfl) (by kernel_rfl) (by kernel_rfl) (by kernel_rfl)
  have h32 := @run_callFunc_extern Tryz.prog 311 _ Is.cmpFn Tryz.func311 (by kernel_rfl) (by kernel_rfl) (by kernel_rfl) (by kernel_rfl)
  have tT := Is.typeOf
  have cT := Is.comparable
  have n1 := Is.noIs
  have n2 := Is.noUnwrap
  have n3 := Is.noUnwraps
  have n4 := IsFault.noIs
  have n5 := IsFault.hasUnwrap
  have heq := fun W => run_eql_iface_int (P := Tryz.prog) W no b Tryz.underlying40 Tryz.underlying114 hi hcmp
  have hty := run_eql_iface_types (P := Tryz.prog) 179 114 (.agg #[.int .i64 no, .int .i64 line, .int .i64 at_]) (.int .i64 b) Tryz.underlying40 (by decide)
  by_cases hab : no = b
  · have hb : (no == b) = true := by simp [hab]
    clear hab
    go_enter Tryz.func179, Tryz.ntmps179
    go_wp2_with (first | (go_at_call 305; refine (unwrapFault _ _ _ _).mono ?_; rintro e w' ⟨rfl, rfl⟩) | go_in)
    refine wp_loop_rounds 2 ?_
    rw [rounds_succ]
    go_wp2_with (first | (go_at_call 305; refine (unwrapFault _ _ _ _).mono ?_; rintro e w' ⟨rfl, rfl⟩) | go_in)
    rw [rounds_succ]
    go_wp2
    go_ret
    exact ⟨by rw [hb]; rfl, (Below.refl _ _).alloc (Nat.le_refl _) _⟩
  · have hb : (no == b) = false := by simp [hab]
    clear hab
    go_enter Tryz.func179, Tryz.ntmps179
    go_wp2_with (first | (go_at_call 305; refine (unwrapFault _ _ _ _).mono ?_; rintro e w' ⟨rfl, rfl⟩) | go_in)
    refine wp_loop_rounds 2 ?_
    rw [rounds_succ]
    go_wp2_with (first | (go_at_call 305; refine (unwrapFault _ _ _ _).mono ?_; rintro e w' ⟨rfl, rfl⟩) | go_in)
    rw [rounds_succ]
    go_wp2
    go_ret
    exact ⟨by rw [hb]; rfl, (Below.refl _ _).alloc (Nat.le_refl _) _⟩

namespace AsFault
theorem typeOf (v : Value) (w : World) : (ReflectliteType.typeOf #[.iface 179 v]).run Tryz.prog w = .ok (.iface 357 (.agg #[.pointer (some ⟨4, 179, none⟩)])) w := by kernel_rfl
theorem assign (w : World) : (As.assignFn #[.agg #[.pointer (some ⟨4, 179, none⟩)], .iface 357 (.agg #[.pointer (some ⟨4, 179, none⟩)])]).run Tryz.prog w = .ok (.bool true) w := by kernel_rfl
theorem valueOf (no line at_ : Int) (w : World) : (ReflectliteValue.unpack (.iface 179 (.agg #[.int .i64 no, .int .i64 line, .int .i64 at_]))).run Tryz.prog w
    = .ok (.agg #[.pointer (some ⟨4, 179, none⟩), .pointer (some ⟨w.heap.size, 0, none⟩), .int .u64 153]) (w.alloc (.cells #[.int .i64 no, .int .i64 line, .int .i64 at_] 179)) := by kernel_rfl
theorem elemOf (w : World) : (Rtype.elem? 182).run Tryz.prog w = .ok (some 179) w := by kernel_rfl
theorem mk (p : Addr) (w : World) : (ReflectliteValue.mk 179 p ReflectliteValue.flagAddr).run Tryz.prog w = .ok (.agg #[.pointer (some ⟨4, 179, none⟩), .pointer (some p), .int .u64 409]) w := by kernel_rfl
def elemVFn : Array Value → Sem Value := ReflectliteValue.method (ReflectliteValue.valueError "reflectlite.Value.Elem" 0) ReflectliteValue.elem
theorem elemV (a p : Addr) (W : World) (ha : W.cell? a = some (.pointer (some p))) :
    (elemVFn #[.agg #[.pointer (some ⟨4, 182, none⟩), .pointer (some a), .int .u64 150]]).run Tryz.prog W = .ok (.agg #[.pointer (some ⟨4, 179, none⟩), .pointer (some p), .int .u64 409]) W := by
  unfold elemVFn
  rw [As.rlm]
  simp only [Sem.run_bind, As.partsP, Result.andThen]
  simp [ReflectliteValue.elem, loadVar, isAgg, underlying, Tryz.underlying182, ha, Result.andThen, elemOf, mk]
def setFn : Array Value → Sem Value := ReflectliteValue.set
theorem rls (v x : Value) : ReflectliteValue.set #[v, x] = (do
    let (some (dst, a, fl), some (src, b, _)) := (← ReflectliteValue.parts v, ← ReflectliteValue.parts x)
      | unsupported (.noEntry "extern/(internal/reflectlite.Value).Set.zeroValue")
    if fl / ReflectliteValue.flagAddr % 2 == 0 then unsupported (.noEntry "extern/(internal/reflectlite.Value).Set.unaddressable")
    let val ← loadVar src b
    if ← Rtype.directlyAssignable dst src then storeVar dst a val
    else if ← Rtype.implements dst src then
      if (← Rtype.kind src) == 20 then
        match val with
        | .nilIface => unsupported (.noEntry "extern/reflectlite: a nil value of one interface type handed on as a value of another")
        | _ => storeVar dst a val
      else storeVar dst a (.iface src val)
    else panicString ("reflectlite.Set: value of type " ++ (← Rtype.spelt src) ++ " is not assignable to type " ++ (← Rtype.spelt dst))
    pure (.tuple #[])) := rfl
theorem parts9 (a : Addr) (w : World) : (ReflectliteValue.parts (.agg #[.pointer (some ⟨4, 179, none⟩), .pointer (some a), .int .u64 409])).run Tryz.prog w = .ok (some (179, a, 409)) w := by kernel_rfl
theorem parts3 (a : Addr) (w : World) : (ReflectliteValue.parts (.agg #[.pointer (some ⟨4, 179, none⟩), .pointer (some a), .int .u64 153])).run Tryz.prog w = .ok (some (179, a, 153)) w := by kernel_rfl
theorem direct (w : World) : (Rtype.directlyAssignable 179 179).run Tryz.prog w = .ok true w := by kernel_rfl
theorem setV (tb b : Nat) (a0 a1 a2 : Value) (no line at_ : Int) (W : World) (hb : Blk W b 179 #[.int .i64 no, .int .i64 line, .int .i64 at_]) (ht : Blk W tb 179 #[a0, a1, a2]) :
    (setFn #[.agg #[.pointer (some ⟨4, 179, none⟩), .pointer (some ⟨tb, 0, none⟩), .int .u64 409], .agg #[.pointer (some ⟨4, 179, none⟩), .pointer (some ⟨b, 0, none⟩), .int .u64 153]]).run Tryz.prog W
      = .ok (.tuple #[]) (W.setRow tb #[.int .i64 no, .int .i64 line, .int .i64 at_]) := by
  have hl : (loadCells ⟨b, 0, none⟩ 3).run Tryz.prog W = .ok #[.int .i64 no, .int .i64 line, .int .i64 at_] W :=
    run_loadCells_list (P := Tryz.prog) (w := W) ⟨b, 0, none⟩ [.int .i64 no, .int .i64 line, .int .i64 at_] (fun j v hj => by
      have hc := hb.cell j
      have ea : (⟨b, 0, none⟩ : Addr).add j = ⟨b, j, none⟩ := by unfold Addr.add; split <;> simp_all
      rw [ea, hc]
      simpa using hj)
  have hs : (storeCells ⟨tb, 0, none⟩ [.int .i64 no, .int .i64 line, .int .i64 at_] 0).run Tryz.prog W = .ok () (W.setRow tb #[.int .i64 no, .int .i64 line, .int .i64 at_]) := by
    have := run_storeCells_from (P := Tryz.prog) tb 179 [.int .i64 no, .int .i64 line, .int .i64 at_] 0 #[a0, a1, a2] W ht rfl (by simp [Value.oneCell'])
    simpa using this
  unfold setFn
  rw [rls]
  simp only [Sem.run_bind, parts9, parts3, Result.andThen]
  simp [ReflectliteValue.flagAddr, loadVar, hl, Result.andThen, direct, storeVar, Value.cells, hs]
theorem xElem : ∀ (args : Array Value) (w : World), Sem.run Tryz.prog (callFunc 230 args) w = (((elemVFn) args).run Tryz.prog w).andThen fun v w' => Result.ok (Next.value v) w' := @run_callFunc_extern Tryz.prog 230 _ elemVFn Tryz.func230 (by kernel_rfl) (by kernel_rfl) (by kernel_rfl) (by kernel_rfl)
theorem xSet : ∀ (args : Array Value) (w : World), Sem.run Tryz.prog (callFunc 231 args) w = (((setFn) args).run Tryz.prog w).andThen fun v w' => Result.ok (Next.value v) w' := @run_callFunc_extern Tryz.prog 231 _ setFn Tryz.func231 (by kernel_rfl) (by kernel_rfl) (by kernel_rfl) (by kernel_rfl)
end AsFault
/-- the target holds the error. -/
def Hit (w w' : World) (tb : Nat) (no line at_ : Int) : Prop := Blk w' tb 179 #[.int .i64 no, .int .i64 line, .int .i64 at_] ∧ w.grownBy w' (some tb)
theorem Hit.mk {w W : World} {tb : Nat} {no line at_ : Int} {cs : Array Value} (hg : w.grownBy W none) (hb : Blk W tb 179 cs) : Hit w (W.setRow tb #[.int .i64 no, .int .i64 line, .int .i64 at_]) tb no line at_ := by
  refine ⟨setRow_heap W tb _ _ _ _ hb, hg.os, hg.tape, hg.output, by rw [setRow_size]; exact hg.size, fun k hk hne => ?_⟩
  rw [← hg.block k hk (by simp)]
  simp [World.setRow, Array.getElem?_modify, show tb ≠ k from fun e => hne (by rw [e])]
set_option maxHeartbeats 4000000 in
theorem as_hit (no line at_ : Int) (tb : Nat) (a0 a1 a2 : Value) (w : World) (hg : ErrVar w) (ht : Blk w tb 179 #[a0, a1, a2]) :
    Calls Tryz.prog 108 #[eFault no line at_, .iface 182 (.pointer (some ⟨tb, 0, none⟩))] w fun e w' => e = .returned (.bool true) ∧ Hit w w' tb no line at_ := by
  have hlt := hg.lt
  unfold ErrVar at hg
  have htl := ht.lt
  have h6 := As.x6
  have h7 := As.x7
  have h8 := As.x8
  have h27 := As.x27
  have h37 := As.x37
  have h38 := As.x38
  have h10 := As.x10
  have h35 := As.x35
  have h11 := AsFault.xElem
  have h12 := AsFault.xSet
  have tO := AsFault.typeOf
  have a25 := AsFault.assign
  have v25 := AsFault.valueOf
  have f6 := As.valueOfP
  have f7 := As.typeP
  have k27 := As.kindP
  have k25 := As.kindF
  have e27 := As.elemP
  have i25 := As.implF
  have n8 := As.isNilP ⟨w.heap.size, 0, none⟩ ⟨tb, 0, none⟩ ((w.alloc (.cells #[.pointer (some ⟨tb, 0, none⟩)] 182)).alloc (.cells #[.pointer (some ⟨4, 182, none⟩), .pointer (some ⟨w.heap.size, 0, none⟩), .int .u64 150] 294)) (by simp)
  have hg2 : ((w.alloc (.cells #[.pointer (some ⟨tb, 0, none⟩)] 182)).alloc (.cells #[.pointer (some ⟨4, 182, none⟩), .pointer (some ⟨w.heap.size, 0, none⟩), .int .u64 150] 294)).cell? ⟨0, 0, none⟩ = some (.iface 357 (.agg #[.pointer (some ⟨4, 40, none⟩)])) := by
    rw [World.cell?_alloc_lt _ _ ⟨0, 0, none⟩ (by first | (simp; done) | (simp; omega)), World.cell?_alloc_lt _ _ ⟨0, 0, none⟩ hlt]; exact hg
  have el := AsFault.elemV ⟨w.heap.size, 0, none⟩ ⟨tb, 0, none⟩ (((w.alloc (.cells #[.pointer (some ⟨tb, 0, none⟩)] 182)).alloc (.cells #[.pointer (some ⟨4, 182, none⟩), .pointer (some ⟨w.heap.size, 0, none⟩), .int .u64 150] 294)).alloc (.cells #[.pointer (some ⟨4, 182, none⟩), .pointer (some ⟨w.heap.size, 0, none⟩), .int .u64 150] 294)) (by rw [World.cell?_alloc_lt _ _ ⟨w.heap.size, 0, none⟩ (by simp; omega)]; simp)
  have hT := (((ht.alloc (.cells #[.pointer (some ⟨tb, 0, none⟩)] 182)).alloc (.cells #[.pointer (some ⟨4, 182, none⟩), .pointer (some ⟨w.heap.size, 0, none⟩), .int .u64 150] 294)).alloc (.cells #[.pointer (some ⟨4, 182, none⟩), .pointer (some ⟨w.heap.size, 0, none⟩), .int .u64 150] 294)).alloc (.cells #[.int .i64 no, .int .i64 line, .int .i64 at_] 179)
  have hS := Blk.new (((w.alloc (.cells #[.pointer (some ⟨tb, 0, none⟩)] 182)).alloc (.cells #[.pointer (some ⟨4, 182, none⟩), .pointer (some ⟨w.heap.size, 0, none⟩), .int .u64 150] 294)).alloc (.cells #[.pointer (some ⟨4, 182, none⟩), .pointer (some ⟨w.heap.size, 0, none⟩), .int .u64 150] 294)) 179 #[.int .i64 no, .int .i64 line, .int .i64 at_]
  have st := AsFault.setV tb _ a0 a1 a2 no line at_ _ hS hT
  simp only [World.size_alloc] at st
  have hfin := Lib.hid (Hit.mk (w := w) (no := no) (line := line) (at_ := at_) (grown_of_below ((((Below.refl w.heap.size w).alloc (Nat.le_refl _) (.cells #[.pointer (some ⟨tb, 0, none⟩)] 182)).alloc (by simp) (.cells #[.pointer (some ⟨4, 182, none⟩), .pointer (some ⟨w.heap.size, 0, none⟩), .int .u64 150] 294)).alloc (by simp; omega) (.cells #[.pointer (some ⟨4, 182, none⟩), .pointer (some ⟨w.heap.size, 0, none⟩), .int .u64 150] 294) |>.alloc (by simp; omega) (.cells #[.int .i64 no, .int .i64 line, .int .i64 at_] 179)) none) hT)
  clear hS hT ht
  go_enter Tryz.func108, Tryz.ntmps108
  go_wp2
  refine wp_loop_rounds 1 ?_
  rw [rounds_succ]
  go_wp2
  go_ret
  exact ⟨rfl, hfin.out⟩
end Go.Proofs.YtnlkmljdcmfogaaGreatDoor
