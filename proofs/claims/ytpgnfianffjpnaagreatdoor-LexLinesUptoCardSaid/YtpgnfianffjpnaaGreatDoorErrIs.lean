/- errors.Is at a target that is a number of package api: by contracts, for an error that is such a number, and for one that wraps it. -/
import Derived.Test.YtpgnfianffjpnaaGreatDoorProg
import Derived.WalkKit
import Derived.LaidEql
import Derived.Stop.Asserts
import Derived.RowKitTokens
import Derived.Lib.Hide
import Derived.Handy
namespace Go.Proofs.YtpgnfianffjpnaaGreatDoor
open Go.RowKit Go.Extern.Stop Go.Stop Go.Extern

section
variable {P : Program} (w : World)
theorem run_equalIn_iface_int (d : Nat) {ti tn : TypeId} {ms : Array (String × TypeId)} {i : TypeInfo} {k : IntKind} (a b : Int)
    (hi : P.underlying ti = some (.interface ms)) (hn : P.underlying tn = some (.int k)) (hinfo : P.info? tn = some i) (hcomp : i.comparable = true) :
    (Op.equalIn (d + 2) ti (.iface tn (.int k a)) (.iface tn (.int k b))).run P w = .ok (a == b) w := by
  simp [Op.equalIn, run_underlying hi, run_underlying hn, typeInfo, hinfo, hcomp]
theorem run_eql_iface_int {ti tn : TypeId} {ms : Array (String × TypeId)} {i : TypeInfo} {k : IntKind} (a b : Int)
    (hi : P.underlying ti = some (.interface ms)) (hn : P.underlying tn = some (.int k)) (hinfo : P.info? tn = some i) (hcomp : i.comparable = true) :
    (binOp .eql ti (.iface tn (.int k a)) (.iface tn (.int k b))).run P w = .ok (.bool (a == b)) w := by
  simp only [binOp]
  simp [Op.equal, Op.maxDepth, run_equalIn_iface_int w 9998 a b hi hn hinfo hcomp]
end

/-- the error that is a number. -/
abbrev eno (n : Int) : Value := .iface 92 (.int .i64 n)

namespace Is
theorem typeOf (v : Value) (w : World) : (ReflectliteType.typeOf #[.iface 92 v]).run Tryz.prog w = .ok (.iface 281 (.agg #[.pointer (some ⟨4, 92, none⟩)])) w := by kernel_rfl
def cmpFn : Array Value → Sem Value := ReflectliteType.method fun t => do Rtype.noPackHeld "Comparable" t; pure (.bool (← typeInfo t).comparable)
theorem comparable (w : World) : (cmpFn #[.agg #[.pointer (some ⟨4, 92, none⟩)]]).run Tryz.prog w = .ok (.bool true) w := by kernel_rfl
theorem info : (Tryz.prog.info? 92).map (·.comparable) = some true := by kernel_rfl
theorem noIs (v : Value) (w : World) : (Instr.typeAssert (.iface 92 v) 26 283 true).run Tryz.prog w = .ok (.tuple #[.nilIface, .bool false]) w := run_typeAssert_lacksB Tryz.underlying283 (by kernel_rfl) (by kernel_rfl) v _ w
theorem noUnwrap (v : Value) (w : World) : (Instr.typeAssert (.iface 92 v) 26 286 true).run Tryz.prog w = .ok (.tuple #[.nilIface, .bool false]) w := run_typeAssert_lacksB Tryz.underlying286 (by kernel_rfl) (by kernel_rfl) v _ w
theorem noUnwraps (v : Value) (w : World) : (Instr.typeAssert (.iface 92 v) 26 287 true).run Tryz.prog w = .ok (.tuple #[.nilIface, .bool false]) w := run_typeAssert_lacksB Tryz.underlying287 (by kernel_rfl) (by kernel_rfl) v _ w
end Is

set_option maxHeartbeats 1000000 in
/-- errors.Is(a number, a number). -/
theorem is_eno (a b : Int) (w : World) :
    Calls Tryz.prog 44 #[eno a, eno b] w fun e w' => e = .returned (.bool (a == b)) ∧ w = w' := by
  obtain ⟨i, hi, hcmp⟩ := Option.map_eq_some_iff.1 Is.info
  have h8 := @run_callFunc_extern Tryz.prog 108 _ ReflectliteType.typeOf Tryz.func108 (by kernel_rfl) (by kernel_rfl) (by kernel_rfl) (by kernel_rfl)
  have h32 := @run_callFunc_extern Tryz.prog 204 _ Is.cmpFn Tryz.func204 (by kernel_rfl) (by kernel_rfl) (by kernel_rfl) (by kernel_rfl)
  have tT := Is.typeOf
  have cT := Is.comparable
  have n1 := Is.noIs
  have n2 := Is.noUnwrap
  have n3 := Is.noUnwraps
  have heq := run_eql_iface_int (P := Tryz.prog) w a b Tryz.underlying26 Tryz.underlying92 hi hcmp
  by_cases hab : a = b
  · have hb : (a == b) = true := by simp [hab]
    clear hab
    go_enter Tryz.func44, Tryz.ntmps44
    go_wp2
    refine wp_loop_rounds 1 ?_
    rw [rounds_succ]
    go_wp2
    go_ret
    exact ⟨by rw [hb]; rfl, rfl⟩
  · have hb : (a == b) = false := by simp [hab]
    clear hab
    go_enter Tryz.func44, Tryz.ntmps44
    go_wp2
    refine wp_loop_rounds 1 ?_
    rw [rounds_succ]
    go_wp2
    go_ret
    exact ⟨by rw [hb]; rfl, rfl⟩
end Go.Proofs.YtpgnfianffjpnaaGreatDoor
