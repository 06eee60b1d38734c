/- expand's read tells a text more, walked. (Printed by wip/gentell.py.) errors.Is at a target that is a number of package api: by contracts, for an error that is such a number, and for one that wraps it. -/
import Derived.Test.YtnlkmljdcmfogaaGreatDoorExR0
import Derived.Test.YtnlkmljdcmfogaaGreatDoorRely0
import Derived.Test.YtnlkmljdcmfogaaGreatDoorProg
import Derived.WalkKit
import Derived.LaidEql
import Derived.Stop.Asserts
import Derived.RowKitTokens
import Derived.Lib.Hide
import Derived.Handy
namespace Go.Proofs.YtnlkmljdcmfogaaGreatDoor
open Go Go.RowKit
/-- the values of tell's region. -/
def VT (R : Nat) (s : List UInt8) (p q : Nat) (A : Option Addr) (n c N : Nat) : Nat → Value → World → Prop
  | 0, u, _ => u = .slice A n c
  | 1, u, _ => u = .pointer (some ⟨R, 0, none⟩)
  | 2, u, _ => u = .pointer (some ⟨R, 0, none⟩)
  | 3, u, _ => u = .pointer (some ⟨R, 0, none⟩)
  | 4, u, _ => u = .string (bs s)
  | 5, u, _ => u = .int .i64 (q : Int)
  | 6, u, _ => u = .pointer (some ⟨R, 0, none⟩)
  | 7, u, _ => u = .pointer (some ⟨R, 0, none⟩)
  | 8, u, _ => u = .pointer (some ⟨R, 1, none⟩)
  | 9, u, _ => u = .int .i64 (p : Int)
  | 10, u, _ => u = .string (bs (chunk s q p))
  | 11, u, _ => u = litV (chunk s q p)
  | 12, u, w => ∃ g, u = .slice (some ⟨g, 0, none⟩) 1 1 ∧ N ≤ g ∧ Blk w g 401 #[litV (chunk s q p)]
  | _, _, _ => True
theorem VT.keep {R : Nat} {s : List UInt8} {p q : Nat} {A : Option Addr} {n c N : Nat} {w : World} (o : Obj) (j : Nat) (u : Value) (H : VT R s p q A n c N j u w) : VT R s p q A n c N j u (w.alloc o) := by
  unfold VT at H ⊢
  split at H <;> first | exact H | (obtain ⟨g, e, hg, hb⟩ := H; exact ⟨g, e, hg, hb.alloc o⟩) | trivial
set_option maxRecDepth 100000 in
set_option maxHeartbeats 1000000 in
/-- tell: a text more. -/
theorem tell_yes {w : World} {R h : Nat} {s : List UInt8} {e : UInt8} {p q : Nat} {v : Value} {xs0 : List Value} {ts : List Ex.Tk} (H : RS w R h s e p q v xs0 ts) (hpq : q < p) (hp : p ≤ s.length) (hs : s.length ≤ exMax) (hx : xs0.length ≤ exMax) :
    Calls Tryz.prog 264 #[.pointer (some ⟨h, 0, none⟩), .pointer (some ⟨h + 2, 0, none⟩), .pointer (some ⟨h + 1, 0, none⟩)] w fun r w' => r = .returned (.tuple #[]) ∧ ∃ v', RS w' R h s e p q v' (xs0 ++ [litV (chunk s q p)]) (ts ++ (chunk s q p).map .b) ∧ Below (h + 1) w w' := by
  have b0 : w.cell? ⟨h, 0, none⟩ = some (.pointer (some ⟨R, 0, none⟩)) := H.box.cell 0
  have b1 : w.cell? ⟨R, 1, none⟩ = some (.int .i64 (p : Int)) := Blk.cell H.rd 1
  have b2 : w.cell? ⟨h + 2, 0, none⟩ = some (.int .i64 (q : Int)) := H.fb.cell 0
  have t0 : decide ((q : Int) < (p : Int)) = true := by rw [decide_eq_true_eq]; omega
  have t1 : decide (q < p) = true := by rw [decide_eq_true_eq]; omega
  have SL := Lib.hid (slice_bs s q p (by omega) hp)
  have HS := Lib.hid H
  clear H
  go_enter Tryz.func264, Tryz.ntmps264
  go_wp2_with fail
  go_quiet (fail)
  go_wp2_with fail
  have H1 := HS.out.drewN nq
  have hB1 := below_drewN (Below.refl (h + 1) w) nq
  obtain ⟨w1, hw1⟩ : ∃ w1, w.drewN nq = w1 := ⟨_, rfl⟩
  rw [hw1] at H1 hB1
  rw [hw1]
  clear b0 b1 b2 hw1 HS
  obtain ⟨A, c, rfl⟩ := ownk_form H1.own
  have hx2 : xs0.length ≤ 2000000 := hx
  have HS := Lib.hid H1
  have HV0 : Hid (PL w1 (fun b => b < h + 3 ∨ (Value.slice A xs0.length c).ownBlock = some b) ((chunk s q p).map .b) [litV (chunk s q p)]) := Lib.hid (PL.one (PV.lit 0 (by unfold chunk; rw [List.length_take, List.length_drop]; omega)))
  clear H1 hx
  refine' wp_region_rely_tail 13 (fun wx => Below w1.heap.size w1 wx) (VT R s p q A xs0.length c w1.heap.size) ?F ?hF (by kernel_rfl) (by kernel_rfl) (by kernel_rfl) (by decide) (by kernel_rfl) (by kernel_rfl) (by kernel_rfl) (Below.refl _ _).drew ?hsteps ?hT
  case hF =>
    intro xs
    refine (frameX_eq _ _ _).trans ?_
    simp only [frameL, Act.put, List.setIfInBounds_toArray, List.set_cons_zero, List.set_cons_succ, Nat.reduceAdd, Nat.zero_add]
    exact rfl
  case hsteps =>
    simp only [List.take_succ_cons, List.take_zero]
    refine Steps.cons (n := []) (k := 1) rfl (by kernel_rfl) (fun xs wx hS hV K hK => ?_) ?_
    · clear hV
      have HX := HS.out.new hS
      have c := (show wx.cell? ⟨h + 1, 0, none⟩ = some (.slice A xs0.length c) from HX.lb.cell 0)
      go_simp
      exact hK.out _ _ hS rfl (fun _ _ h => h)
    refine Steps.cons (n := []) (k := 2) rfl (by kernel_rfl) (fun xs wx hS hV K hK => ?_) ?_
    · clear hV
      have HX := HS.out.new hS
      have c := (show wx.cell? ⟨h, 0, none⟩ = some (.pointer (some ⟨R, 0, none⟩)) from HX.box.cell 0)
      go_simp
      exact hK.out _ _ hS rfl (fun _ _ h => h)
    refine Steps.cons (n := [1]) (k := 3) rfl (by kernel_rfl) (fun xs wx hS hV K hK => ?_) ?_
    · obtain ⟨d1, -⟩ := hV
      replace d1 : xs 1 = .pointer (some ⟨R, 0, none⟩) := d1
      rw [d1] at hK ⊢
      go_simp
      exact hK.out _ _ hS rfl (fun _ _ h => h)
    refine Steps.cons (n := [2]) (k := 4) rfl (by kernel_rfl) (fun xs wx hS hV K hK => ?_) ?_
    · obtain ⟨d2, -⟩ := hV
      replace d2 : xs 2 = .pointer (some ⟨R, 0, none⟩) := d2
      rw [d2] at hK ⊢
      go_simp
      exact hK.out _ _ hS rfl (fun _ _ h => h)
    refine Steps.cons (n := [3]) (k := 5) rfl (by kernel_rfl) (fun xs wx hS hV K hK => ?_) ?_
    · obtain ⟨d3, -⟩ := hV
      replace d3 : xs 3 = .pointer (some ⟨R, 0, none⟩) := d3
      rw [d3] at hK ⊢
      have HX := HS.out.new hS
      have c := (show wx.cell? ⟨R, 0, none⟩ = some (.string (bs s)) from Blk.cell HX.rd 0)
      go_simp
      exact hK.out _ _ hS rfl (fun _ _ h => h)
    refine Steps.cons (n := []) (k := 6) rfl (by kernel_rfl) (fun xs wx hS hV K hK => ?_) ?_
    · clear hV
      have HX := HS.out.new hS
      have c := (show wx.cell? ⟨h + 2, 0, none⟩ = some (.int .i64 (q : Int)) from HX.fb.cell 0)
      go_simp
      exact hK.out _ _ hS rfl (fun _ _ h => h)
    refine Steps.cons (n := []) (k := 7) rfl (by kernel_rfl) (fun xs wx hS hV K hK => ?_) ?_
    · clear hV
      have HX := HS.out.new hS
      have c := (show wx.cell? ⟨h, 0, none⟩ = some (.pointer (some ⟨R, 0, none⟩)) from HX.box.cell 0)
      go_simp
      exact hK.out _ _ hS rfl (fun _ _ h => h)
    refine Steps.cons (n := [6]) (k := 8) rfl (by kernel_rfl) (fun xs wx hS hV K hK => ?_) ?_
    · obtain ⟨d6, -⟩ := hV
      replace d6 : xs 6 = .pointer (some ⟨R, 0, none⟩) := d6
      rw [d6] at hK ⊢
      go_simp
      exact hK.out _ _ hS rfl (fun _ _ h => h)
    refine Steps.cons (n := [7]) (k := 9) rfl (by kernel_rfl) (fun xs wx hS hV K hK => ?_) ?_
    · obtain ⟨d7, -⟩ := hV
      replace d7 : xs 7 = .pointer (some ⟨R, 0, none⟩) := d7
      rw [d7] at hK ⊢
      go_simp
      exact hK.out _ _ hS rfl (fun _ _ h => h)
    refine Steps.cons (n := [8]) (k := 10) rfl (by kernel_rfl) (fun xs wx hS hV K hK => ?_) ?_
    · obtain ⟨d8, -⟩ := hV
      replace d8 : xs 8 = .pointer (some ⟨R, 1, none⟩) := d8
      rw [d8] at hK ⊢
      have HX := HS.out.new hS
      have c := (show wx.cell? ⟨R, 1, none⟩ = some (.int .i64 (p : Int)) from Blk.cell HX.rd 1)
      go_simp
      exact hK.out _ _ hS rfl (fun _ _ h => h)
    refine Steps.cons (n := [4, 5, 9]) (k := 11) rfl (by kernel_rfl) (fun xs wx hS hV K hK => ?_) ?_
    · obtain ⟨d4, d5, d9, -⟩ := hV
      replace d4 : xs 4 = .string (bs s) := d4
      replace d5 : xs 5 = .int .i64 (q : Int) := d5
      replace d9 : xs 9 = .int .i64 (p : Int) := d9
      rw [d4, d5, d9] at hK ⊢
      have HX := HS.out.new hS
      have c := SL.out
      go_simp
      exact hK.out _ _ hS rfl (fun _ _ h => h)
    refine Steps.cons (n := [10]) (k := 12) rfl (by kernel_rfl) (fun xs wx hS hV K hK => ?_) ?_
    · obtain ⟨d10, -⟩ := hV
      replace d10 : xs 10 = .string (bs (chunk s q p)) := d10
      rw [d10] at hK ⊢
      go_simp
      exact hK.out _ _ hS rfl (fun _ _ h => h)
    refine Steps.cons (n := [11]) (k := 13) rfl (by kernel_rfl) (fun xs wx hS hV K hK => ?_) ?_
    · obtain ⟨d11, -⟩ := hV
      replace d11 : xs 11 = litV (chunk s q p) := d11
      rw [d11] at hK ⊢
      go_simp
      exact hK.out _ _ (hS.alloc hS.size _) ⟨_, rfl, hS.size, Blk.new _ _ _⟩ (VT.keep _)
    exact Steps.nil
  case hT =>
    intro xs w2 hS hV
    have d0 : xs 0 = .slice A xs0.length c := hV 0 (by decide)
    obtain ⟨g, d12, hg, hb⟩ : ∃ g, xs 12 = .slice (some ⟨g, 0, none⟩) 1 1 ∧ w1.heap.size ≤ g ∧ Blk w2 g 401 #[litV (chunk s q p)] := hV 12 (by decide)
    simp only [List.drop_succ_cons, List.drop_zero]
    rw [d0, d12]
    have H2 := HS.out.new hS
    have hown := H2.own
    have hsz := H2.size
    have HB := Lib.hid hb
    have H2H := Lib.hid H2
    have hnews : Hid (∀ j u, [litV (chunk s q p)][j]? = some u → w2.cell? ((⟨g, 0, none⟩ : Addr).add j) = some u) := Lib.hid fun j u hu => by
      have := HB.out.cell j
      rw [Addr.add_lit, Nat.zero_add, this]
      simpa using hu
    have hne : ∀ g, (Value.slice A xs0.length c).ownBlock = some g → h + 3 ≤ g := fun g hg => (hown.lt g hg).1
    have HNE := Lib.hid hne
    have HBS := Lib.hid hS
    clear hV d0 d12 hb H2 hne hS
    go_wp2_with (refine wpList_appk rfl _ _ _ rfl pieceK (h + 3) _ _ _ rfl hown _ 1 1 [litV (chunk s q p)] rfl rfl hnews.out (by simp [litV, Value.oneCell']) (by omega) (by omega) (Below.refl (h + 3) w2) hsz ?_; intro v1 w8 ho1 hb1 hg1 hat1; obtain ⟨B1, q1, rfl⟩ := ownk_form ho1; have hbx1 := hg1.block (h + 1) (by omega) (fun e => by have := HNE.out _ e.symm; omega); have hbx2 : Blk w8 (h + 1) 374 #[.slice A xs0.length c] := hbx1.trans H2H.out.lb; have k0 : w8.cell? ⟨h + 1, 0, none⟩ = some (.slice A xs0.length c) := hbx2.cell 0; have f0 := hbx2.frozen 0; clear hbx1)
    have hP := H2H.out.push hg1 (by rw [List.length_append]; exact ho1) (hat1.imp id fun e => ⟨_, Nat.le_refl _, e⟩) (HV0.out.fx (S := fun _ => False) (Fx.new HBS.out) (fun b _ h => h.elim False.elim id))
    have hB8 := (hB1.trans ((HBS.out.mono (by have := HS.out.size; omega)).trans (hb1.mono (by omega)))).setCell (p := ⟨h + 1, 0, none⟩) (Nat.le_refl _) (.slice B1 (xs0.length + 1) q1)
    go_end0
    exact ⟨rfl, _, hP, hB8⟩
/-- tell. -/
theorem tell_any {w : World} {R h : Nat} {s : List UInt8} {e : UInt8} {p q : Nat} {v : Value} {xs0 : List Value} {ts : List Ex.Tk} (H : RS w R h s e p q v xs0 ts) (hpq : q ≤ p) (hp : p ≤ s.length) (hs : s.length ≤ exMax) (hx : xs0.length ≤ exMax) :
    Calls Tryz.prog 264 #[.pointer (some ⟨h, 0, none⟩), .pointer (some ⟨h + 2, 0, none⟩), .pointer (some ⟨h + 1, 0, none⟩)] w fun r w' => r = .returned (.tuple #[]) ∧ ∃ v' xs', RS w' R h s e p q v' xs' (ts ++ (chunk s q p).map .b) ∧ xs'.length + q ≤ xs0.length + p ∧ Below (h + 1) w w' := by
  rcases Nat.lt_or_ge q p with hlt | hge
  · refine (tell_yes H hlt hp hs hx).mono ?_
    rintro r w' ⟨hr, v', h1, h2⟩
    exact ⟨hr, v', _, h1, by simp only [List.length_append, List.length_cons, List.length_nil]; omega, h2⟩
  · refine (tell_no H hge).mono ?_
    rintro r w' ⟨hr, n, rfl⟩
    have e0 : chunk s q p = [] := by unfold chunk; rw [show p - q = 0 by omega, List.take_zero]
    rw [e0, List.map_nil, List.append_nil]
    exact ⟨hr, v, xs0, H.drewN n, by omega, below_drewN (Below.refl _ _) n⟩
end Go.Proofs.YtnlkmljdcmfogaaGreatDoor
namespace Go.Proofs.YtnlkmljdcmfogaaGreatDoor
open Go.RowKit Go.Extern.Stop Go.Stop Go.Extern

section
variable {P : Program} (w : World)
theorem run_equalIn_iface_int (d : Nat) {ti tn : TypeId} {ms : Array (String × TypeId)} {i : TypeInfo} {k : IntKind} (a b : Int)
    (hi : P.underlying ti = some (.interface ms)) (hn : P.underlying tn = some (.int k)) (hinfo : P.info? tn = some i) (hcomp : i.comparable = true) :
    (Op.equalIn (d + 2) ti (.iface tn (.int k a)) (.iface tn (.int k b))).run P w = .ok (a == b) w := by
  simp [Op.equalIn, run_underlying hi, run_underlying hn, typeInfo, hinfo, hcomp]
theorem run_eql_iface_int {ti tn : TypeId} {ms : Array (String × TypeId)} {i : TypeInfo} {k : IntKind} (a b : Int)
    (hi : P.underlying ti = some (.interface ms)) (hn : P.underlying tn = some (.int k)) (hinfo : P.info? tn = some i) (hcomp : i.comparable = true) :
    (binOp .eql ti (.iface tn (.int k a)) (.iface tn (.int k b))).run P w = .ok (.bool (a == b)) w := by
  simp only [binOp]
  simp [Op.equal, Op.maxDepth, run_equalIn_iface_int w 9998 a b hi hn hinfo hcomp]
end

/-- the error that is a number. -/
abbrev eno (n : Int) : Value := .iface 114 (.int .i64 n)

namespace Is
theorem typeOf (v : Value) (w : World) : (ReflectliteType.typeOf #[.iface 114 v]).run Tryz.prog w = .ok (.iface 357 (.agg #[.pointer (some ⟨4, 114, none⟩)])) w := by kernel_rfl
def cmpFn : Array Value → Sem Value := ReflectliteType.method fun t => do Rtype.noPackHeld "Comparable" t; pure (.bool (← typeInfo t).comparable)
theorem comparable (w : World) : (cmpFn #[.agg #[.pointer (some ⟨4, 114, none⟩)]]).run Tryz.prog w = .ok (.bool true) w := by kernel_rfl
theorem info : (Tryz.prog.info? 114).map (·.comparable) = some true := by kernel_rfl
theorem noIs (v : Value) (w : World) : (Instr.typeAssert (.iface 114 v) 40 395 true).run Tryz.prog w = .ok (.tuple #[.nilIface, .bool false]) w := run_typeAssert_lacksB Tryz.underlying395 (by kernel_rfl) (by kernel_rfl) v _ w
theorem noUnwrap (v : Value) (w : World) : (Instr.typeAssert (.iface 114 v) 40 365 true).run Tryz.prog w = .ok (.tuple #[.nilIface, .bool false]) w := run_typeAssert_lacksB Tryz.underlying365 (by kernel_rfl) (by kernel_rfl) v _ w
theorem noUnwraps (v : Value) (w : World) : (Instr.typeAssert (.iface 114 v) 40 367 true).run Tryz.prog w = .ok (.tuple #[.nilIface, .bool false]) w := run_typeAssert_lacksB Tryz.underlying367 (by kernel_rfl) (by kernel_rfl) v _ w
end Is

set_option maxHeartbeats 1000000 in
/-- errors.Is(a number, a number). -/
theorem is_eno (a b : Int) (w : World) :
    Calls Tryz.prog 179 #[eno a, eno b] w fun e w' => e = .returned (.bool (a == b)) ∧ w = w' := by
  obtain ⟨i, hi, hcmp⟩ := Option.map_eq_some_iff.1 Is.info
  have h8 := @run_callFunc_extern Tryz.prog 229 _ ReflectliteType.typeOf Tryz.func229 (by kernel_rfl) (by kernel_rfl) (by kernel_rfl) (by kernel_rfl)
  have h32 := @run_callFunc_extern Tryz.prog 311 _ Is.cmpFn Tryz.func311 (by kernel_rfl) (by kernel_rfl) (by kernel_rfl) (by kernel_rfl)
  have tT := Is.typeOf
  have cT := Is.comparable
  have n1 := Is.noIs
  have n2 := Is.noUnwrap
  have n3 := Is.noUnwraps
  have heq := run_eql_iface_int (P := Tryz.prog) w a b Tryz.underlying40 Tryz.underlying114 hi hcmp
  by_cases hab : a = b
  · have hb : (a == b) = true := by simp [hab]
    clear hab
    go_enter Tryz.func179, Tryz.ntmps179
    go_wp2
    refine wp_loop_rounds 1 ?_
    rw [rounds_succ]
    go_wp2
    go_ret
    exact ⟨by rw [hb]; rfl, rfl⟩
  · have hb : (a == b) = false := by simp [hab]
    clear hab
    go_enter Tryz.func179, Tryz.ntmps179
    go_wp2
    refine wp_loop_rounds 1 ?_
    rw [rounds_succ]
    go_wp2
    go_ret
    exact ⟨by rw [hb]; rfl, rfl⟩
end Go.Proofs.YtnlkmljdcmfogaaGreatDoor
