/- What the walks over a block of bytes need: a new block, a text copied into it. -/
import Derived.Test.YtfhfahlocpmdkaaDoorUsD
import Derived.Lib.BufferWrite
import Derived.Laws.CopyOwn
import Derived.Deep.RegionLaw
namespace Go.Proofs.YtfhfahlocpmdkaaDoor
open Go.RowKit

theorem zs_cells (n : Nat) : (bc (Us.zs n)).toArray = Array.replicate n (.int .u8 0) := by
  simp [bc, Us.zs]
theorem wpList_alloc_bytes {P : Program} {W : World} {ops : Array Oper} {rest : List Oper} {o : Oper} {a : Act} {Q : Exit → Act → World → Prop} (hgd : o.guard = none) (t : TypeId) (n : Nat)
    (ho : o.op = .alloc t) (hz : (P.info? t).map (·.zero) = some (some (.agg (Array.replicate n (.int .u8 0)))))
    (g : Nat) (hg : W.heap.size = g)
    (h : ∀ w0 w', Hid (w0 = W) → Bytes w0 w' g t (Us.zs n) → wpList P ops Q rest (a.put o.dst (.pointer (some ⟨g, 0, none⟩))) w') : wpList P ops Q (o :: rest) a W := by
  subst hg
  obtain ⟨i, hi, hz⟩ := Option.map_eq_some_iff.1 hz
  refine wpList_plain hgd fun K hK => ?_
  have hb : Bytes W (W.alloc (.cells (Array.replicate n (.int .u8 0)) t)) W.heap.size t (Us.zs n) := by
    refine ⟨?_, (Below.refl _ _).alloc (Nat.le_refl _) _⟩
    rw [zs_cells]
    exact Blk.new _ _ _
  have hr : (Instr.alloc t true (.tuple #[])).run P W = .ok (.pointer (some ⟨W.heap.size, 0, none⟩)) (W.alloc (.cells (Array.replicate n (.int .u8 0)) t)) := by
    simp [Instr.alloc, zeroValue, typeInfo, hi, hz, newVar, newRow, Value.cells]
  unfold Oper.wp execOp
  simp only [ho, Sem.run_bind, Sem.run_pure, Result.andThen_ok, hr]
  exact hK _ _ (h _ _ rfl hb)

theorem run_copy_bytes {P : Program} (w w0 : World) (dT sT ty elem : TypeId) (g off dLen dCap : Nat) (x : ByteArray) (t : TypeId) (L : List UInt8)
    (hu : P.underlying dT = some (.slice elem)) (hsz : (P.info? elem).map (·.size) = some 1) (hB : Bytes w0 w g t L) (hle : x.size ≤ dLen) (hfit : off + x.size ≤ L.length) :
    ∃ w', (Builtin.copy_ #[dT, sT] ty #[.slice (some ⟨g, off, none⟩) dLen dCap, .string x]).run P w = .ok (goInt x.size) w' ∧ Bytes w0 w' g t (Us.put L off (bl x)) ∧ w'.heap.size = w.heap.size := by
  have hrun := Lib.run_copy_row_string (P := P) w dT sT ty elem g off dLen dCap x (bc L).toArray t hu hsz hB.blk hle (by simp [bc]; exact hfit)
  refine ⟨_, hrun, ⟨?_, below_setRow hB.below (Nat.le_refl g) _⟩, by simp [World.setRow]⟩
  have hs : (bl x).length = x.size := bl_length x
  have e : (bc (Us.put L off (bl x))).toArray = ((bc L).toArray.toList.take off ++ Lib.byteCells x.data.toList ++ (bc L).toArray.toList.drop (off + x.size)).toArray := by
    congr 1
    show bc (Us.put L off (bl x)) = _
    rw [Us.put, bc_append, bc_append, hs]
    simp [bc, Lib.byteCells, bl, List.map_take, List.map_drop]
  rw [e]
  exact setRow_heap w g _ _ t _ hB.blk
theorem wpList_copy_str {P : Program} {W w0 : World} {ops : Array Oper} {rest : List Oper} {o : Oper} {a : Act} {Q : Exit → Act → World → Prop} (hgd : o.guard = none) (d s : Operand) (dT sT : TypeId)
    (ho : o.op = .call { callee := .builtin .copy, args := #[d, s], argTypes := #[dT, sT] }) (elem : TypeId) (hu : P.underlying dT = some (.slice elem)) (hsz : (P.info? elem).map (·.size) = some 1)
    (g off dLen dCap : Nat) (hd : a.eval d = .slice (some ⟨g, off, none⟩) dLen dCap) (x : ByteArray) (hs : a.eval s = .string x) (t : TypeId) (L : List UInt8) (hB : Bytes w0 W g t L) (hle : x.size ≤ dLen) (hfit : off + x.size ≤ L.length)
    (h : ∀ w', Bytes w0 w' g t (Us.put L off (bl x)) → w'.heap.size = W.heap.size → wpList P ops Q rest (a.put o.dst (goInt x.size)) w') : wpList P ops Q (o :: rest) a W := by
  refine wpList_plain hgd fun K hK => ?_
  obtain ⟨w', hrun, h1, h2⟩ := run_copy_bytes (P := P) W w0 dT sT o.type elem g off dLen dCap x t L hu hsz hB hle hfit
  unfold Oper.wp
  simp [execOp, ho, resolve, invoke, builtin, hd, hs, hrun, Result.andThen]
  exact hK _ _ (h w' h1 h2)
theorem step_copy_str {P : Program} {W w0 : World} {ops : Array Oper} {o : Oper} {a : Act} {K : Act → World → Prop} {Q : Exit → Act → World → Prop} {E : Prop} (hgd : o.guard = none) (d s : Operand) (dT sT : TypeId)
    (ho : o.op = .call { callee := .builtin .copy, args := #[d, s], argTypes := #[dT, sT] }) (elem : TypeId) (hu : P.underlying dT = some (.slice elem)) (hsz : (P.info? elem).map (·.size) = some 1)
    (g off dLen dCap : Nat) (hd : a.eval d = .slice (some ⟨g, off, none⟩) dLen dCap) (x : ByteArray) (hs : a.eval s = .string x) (t : TypeId) (L : List UInt8) (hB : Bytes w0 W g t L) (hle : x.size ≤ dLen) (hfit : off + x.size ≤ L.length)
    (h : ∀ w', Bytes w0 w' g t (Us.put L off (bl x)) → w'.heap.size = W.heap.size → K (a.put o.dst (goInt x.size)) w') :
    if Region.wanted o (yielded ops a.tmps) = true then Oper.wp P o a W K Q else E := by
  have hw : Region.wanted o (yielded ops a.tmps) = true := by simp [Region.wanted, hgd]
  rw [if_pos hw]
  obtain ⟨w', hrun, h1, h2⟩ := run_copy_bytes (P := P) W w0 dT sT o.type elem g off dLen dCap x t L hu hsz hB hle hfit
  unfold Oper.wp
  simp [execOp, ho, resolve, invoke, builtin, hd, hs, hrun, Result.andThen]
  exact h w' h1 h2

theorem number_int (g at_ d : Nat) (ai di : Int) (ha : ai = (at_ : Int)) (hd : di = (d : Int)) (x : Int) (t : TypeId) (L : List UInt8) (w0 w : World) (hL : L.length = 512) (hB : Bytes w0 w g t L) (h : at_ + d ≤ 512) (h0 : 0 ≤ x) (hx : x ≤ 8589934591) :
    Calls Tryd.prog 43 #[.pointer (some ⟨g, 0, none⟩), .int .i64 ai, .int .i64 di, .int .i64 x] w fun e w' => e = .returned (.tuple #[]) ∧ ∃ L', Bytes w0 w' g t L' ∧ L'.length = 512 ∧ Hid (L' = Us.put L at_ (Us.oct d x.toNat)) := by
  subst ha hd
  have hx0 : ((x.toNat : Nat) : Int) = x := Int.toNat_of_nonneg h0
  have := number_any g at_ d x.toNat t L w0 w hL hB h (by omega)
  rw [hx0] at this
  exact this.mono fun e w' ⟨h1, h2⟩ => ⟨h1, _, h2, by rw [Us.put_length _ _ _ (by rw [Us.oct_length]; omega)]; exact hL, rfl⟩
theorem set_put (L : List UInt8) (i : Nat) (c : UInt8) (h : i < L.length) : L.set i c = Us.put L i [c] := by
  rw [Us.put, List.set_eq_take_append_cons_drop, if_pos h]; rfl
theorem run_str_bytes {P : Program} {w0 w : World} {g : Nat} {T t e : TypeId} {L : List UInt8} (ht : P.underlying t = some (.slice e)) (he : P.underlying e = some (.int .u8)) (h : Bytes w0 w g T L) (n : Nat) (hn : n = L.length) (cap : Nat) :
    ∀ dst, P.underlying dst = some .string → (convert t dst (.slice (some ⟨g, 0, none⟩) n cap)).run P w = .ok (.string (bs L)) w := by
  intro dst hd
  subst hn
  have hx := run_convert_bytes_arg (P := P) w t e ht he g 0 L.length cap (L.map fun b => (b.toNat : Int)) (by simp) (fun i hi => by
    rw [Nat.zero_add]
    rw [h.cell i hi]
    simp [List.getD, hi]) dst hd
  rw [hx]
  congr 2
  have hf : ((fun n : Int => UInt8.ofNat n.toNat) ∘ fun b : UInt8 => (b.toNat : Int)) = id := by funext b; simp
  simp [strOfNums, bs, hf]
theorem zero_block : (Tryd.prog.info? 67).map (·.zero) = some (some (.agg (Array.replicate 512 (.int .u8 0)))) := by kernel_rfl
theorem one_u8 : (Tryd.prog.info? 5).map (·.size) = some 1 := by kernel_rfl
/-- the generic copy's answer, its list named. -/
theorem bytes_named {w0 w : World} {g : Nat} {t : TypeId} {L : List UInt8} {off : Nat} {cs : List UInt8} (h : Bytes w0 w g t (Us.put L off cs)) (hL : L.length = 512) (hc : off + cs.length ≤ 512) : ∃ L', Bytes w0 w g t L' ∧ L'.length = 512 ∧ Hid (L' = Us.put L off cs) :=
  ⟨_, h, by rw [Us.put_length _ _ _ (by omega)]; exact hL, rfl⟩
theorem good_bounds {h : Us.Hd} (hg : Us.goodNums h = true) : (0 ≤ h.mode ∧ h.mode ≤ 8589934591) ∧ (0 ≤ h.uid ∧ h.uid ≤ 8589934591) ∧ (0 ≤ h.gid ∧ h.gid ≤ 8589934591) ∧ (0 ≤ h.size ∧ h.size ≤ 8589934591) ∧ (0 ≤ h.time ∧ h.time ≤ 8589934591) ∧ (0 ≤ h.major ∧ h.major ≤ 8589934591) ∧ (0 ≤ h.minor ∧ h.minor ≤ 8589934591) := by
  simp only [Us.goodNums, Us.in_, Bool.and_eq_true, decide_eq_true_eq] at hg
  omega
theorem Bytes.drew {w0 w : World} {g : Nat} {t : TypeId} {L : List UInt8} (h : Bytes w0 w g t L) : Bytes w0 w.drew g t L := ⟨h.blk, h.below.drew⟩
theorem bad_false {h : Us.Hd} (hb : Us.badText h = false) : (bs h.user).size ≤ 31 ∧ (bs h.group).size ≤ 31 := by
  simp only [Us.badText, Bool.or_eq_false_iff, decide_eq_false_iff_not] at hb
  rw [bs_size, bs_size]
  omega
end Go.Proofs.YtfhfahlocpmdkaaDoor
