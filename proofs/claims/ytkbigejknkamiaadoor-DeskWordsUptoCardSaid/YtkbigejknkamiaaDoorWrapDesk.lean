/- errors.Is for an error of the type strata/desk.fault, which wraps a number of package api. -/
import Derived.Test.YtkbigejknkamiaaDoorErrAs
import Derived.Below
namespace Go.Proofs.YtkbigejknkamiaaDoor
open Go.RowKit Go.Extern.Stop Go.Stop Go.Extern

/-- the error strata/desk.fault. -/
abbrev eDesk (at_ : ByteArray) (no : Int) : Value := .iface 41 (.agg #[.string at_, .int .i64 no])

namespace IsDesk
theorem noIs (v : Value) (w : World) : (Instr.typeAssert (.iface 41 v) 26 81 true).run Tryd.prog w = .ok (.tuple #[.nilIface, .bool false]) w := run_typeAssert_lacksB Tryd.underlying81 (by kernel_rfl) (by kernel_rfl) v _ w
theorem hasUnwrap (v : Value) (w : World) : (Instr.typeAssert (.iface 41 v) 26 76 true).run Tryd.prog w = .ok (.tuple #[.iface 41 v, .bool true]) w := run_typeAssert_hasB Tryd.underlying76 (by kernel_rfl) v _ w
end IsDesk

theorem unwrapDesk (at_ : ByteArray) (no : Int) (w : World) : Calls Tryd.prog 47 #[.agg #[.string at_, .int .i64 no]] w fun e w' => e = .returned (eno no) ∧ w' = w.alloc (.cells #[.string at_, .int .i64 no] 41) := by
  go_enter Tryd.func47, Tryd.ntmps47
  go_wp2
  go_ret
  exact ⟨rfl, rfl⟩

set_option maxHeartbeats 2000000 in
theorem isDesk (at_ : ByteArray) (no : Int) (b : Int) (w : World) :
    Calls Tryd.prog 18 #[eDesk at_ no, eno b] w fun e w' => e = .returned (.bool (no == b)) ∧ Below w.heap.size w w' := by
  obtain ⟨i, hi, hcmp⟩ := Option.map_eq_some_iff.1 Is.info
  have h8 := @run_callFunc_extern Tryd.prog 24 _ ReflectliteType.typeOf Tryd.func24 (by kernel_rfl) (by kernel_rfl) (by kernel_rfl) (by kernel_rfl)
  have h32 := @run_callFunc_extern Tryd.prog 55 _ Is.cmpFn Tryd.func55 (by kernel_rfl) (by kernel_rfl) (by kernel_rfl) (by kernel_rfl)
  have tT := Is.typeOf
  have cT := Is.comparable
  have n1 := Is.noIs
  have n2 := Is.noUnwrap
  have n3 := Is.noUnwraps
  have n4 := IsDesk.noIs
  have n5 := IsDesk.hasUnwrap
  have heq := fun W => run_eql_iface_int (P := Tryd.prog) W no b Tryd.underlying26 Tryd.underlying39 hi hcmp
  have hty := run_eql_iface_types (P := Tryd.prog) 41 39 (.agg #[.string at_, .int .i64 no]) (.int .i64 b) Tryd.underlying26 (by decide)
  by_cases hab : no = b
  · have hb : (no == b) = true := by simp [hab]
    clear hab
    go_enter Tryd.func18, Tryd.ntmps18
    go_wp2_with (first | (go_at_call 47; refine (unwrapDesk _ _ _).mono ?_; rintro e w' ⟨rfl, rfl⟩) | go_in)
    refine wp_loop_rounds 2 ?_
    rw [rounds_succ]
    go_wp2_with (first | (go_at_call 47; refine (unwrapDesk _ _ _).mono ?_; rintro e w' ⟨rfl, rfl⟩) | go_in)
    rw [rounds_succ]
    go_wp2
    go_ret
    exact ⟨by rw [hb]; rfl, (Below.refl _ _).alloc (Nat.le_refl _) _⟩
  · have hb : (no == b) = false := by simp [hab]
    clear hab
    go_enter Tryd.func18, Tryd.ntmps18
    go_wp2_with (first | (go_at_call 47; refine (unwrapDesk _ _ _).mono ?_; rintro e w' ⟨rfl, rfl⟩) | go_in)
    refine wp_loop_rounds 2 ?_
    rw [rounds_succ]
    go_wp2_with (first | (go_at_call 47; refine (unwrapDesk _ _ _).mono ?_; rintro e w' ⟨rfl, rfl⟩) | go_in)
    rw [rounds_succ]
    go_wp2
    go_ret
    exact ⟨by rw [hb]; rfl, (Below.refl _ _).alloc (Nat.le_refl _) _⟩

namespace AsDesk
theorem typeOf (v : Value) (w : World) : (ReflectliteType.typeOf #[.iface 41 v]).run Tryd.prog w = .ok (.iface 69 (.agg #[.pointer (some ⟨1, 41, none⟩)])) w := by kernel_rfl
theorem assign (w : World) : (As.assignFn #[.agg #[.pointer (some ⟨1, 41, none⟩)], .iface 69 (.agg #[.pointer (some ⟨1, 43, none⟩)])]).run Tryd.prog w = .ok (.bool false) w := by kernel_rfl
theorem noAs (v : Value) (w : World) : (Instr.typeAssert (.iface 41 v) 26 73 true).run Tryd.prog w = .ok (.tuple #[.nilIface, .bool false]) w := run_typeAssert_lacksB Tryd.underlying73 (by kernel_rfl) (by kernel_rfl) v _ w
end AsDesk

set_option maxHeartbeats 4000000 in
/-- errors.As of such an error, &f: it is no api.Fault. -/
theorem asDesk (at_ : ByteArray) (no : Int) (t : Addr) (w : World) (hg : ErrVar w) :
    Calls Tryd.prog 14 #[eDesk at_ no, .iface 46 (.pointer (some t))] w fun e w' => e = .returned (.bool false) ∧ Below w.heap.size w w' := by
  have hlt := hg.lt
  unfold ErrVar at hg
  have h6 := As.x6
  have h7 := As.x7
  have h8 := As.x8
  have h27 := As.x27
  have h37 := As.x37
  have h38 := As.x38
  have h10 := As.x10
  have h35 := As.x35
  have tO := Is.typeOf
  have tO2 := AsDesk.typeOf
  have a25 := As.assignE
  have a26 := AsDesk.assign
  have f6 := As.valueOfP
  have f7 := As.typeP
  have k27 := As.kindP
  have k25 := As.kindF
  have e27 := As.elemP
  have i25 := As.implF
  have nA := As.noAs
  have nA2 := AsDesk.noAs
  have nU := Is.noUnwrap
  have nU2 := IsDesk.hasUnwrap
  have nV := Is.noUnwraps
  have n8 := As.isNilP ⟨w.heap.size, 0, none⟩ t ((w.alloc (.cells #[.pointer (some t)] 46)).alloc (.cells #[.pointer (some ⟨1, 46, none⟩), .pointer (some ⟨w.heap.size, 0, none⟩), .int .u64 150] 56)) (by simp)
  have hg2 : ((w.alloc (.cells #[.pointer (some t)] 46)).alloc (.cells #[.pointer (some ⟨1, 46, none⟩), .pointer (some ⟨w.heap.size, 0, none⟩), .int .u64 150] 56)).cell? ⟨0, 0, none⟩ = some (.iface 69 (.agg #[.pointer (some ⟨1, 26, none⟩)])) := by
    rw [World.cell?_alloc_lt _ _ ⟨0, 0, none⟩ (by first | (simp; done) | (simp; omega)), World.cell?_alloc_lt _ _ ⟨0, 0, none⟩ hlt]; exact hg
  go_enter Tryd.func14, Tryd.ntmps14
  go_wp2
  refine wp_loop_rounds 2 ?_
  rw [rounds_succ]
  go_wp2_with (first | (go_at_call 47; refine (unwrapDesk _ _ _).mono ?_; rintro e w' ⟨rfl, rfl⟩) | go_in)
  rw [rounds_succ]
  go_wp2
  go_ret
  exact ⟨rfl, ((((Below.refl _ _).alloc (Nat.le_refl _) _).alloc (by simp) _).alloc (by simp; omega) _).alloc (by simp; omega) _⟩
end Go.Proofs.YtkbigejknkamiaaDoor
