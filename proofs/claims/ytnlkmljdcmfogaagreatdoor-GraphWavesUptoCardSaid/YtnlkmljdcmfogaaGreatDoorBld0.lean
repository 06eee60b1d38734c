/- strings.Builder of the call's own: WriteString, String. expand's pieces put into a builder, the map empty, walked. expand.Word, Doc without variables; check.word: walked. -/
import Derived.Test.YtnlkmljdcmfogaaGreatDoorProg
import Derived.Ground.NamesProg
import Derived.Test.YtnlkmljdcmfogaaGreatDoorOwn0
import Derived.Shelf.Abstract
import Derived.Shelf.RegionOpen
import Derived.Shelf.Strings.BuilderK
import Derived.WalkKit
import Derived.Lib.Builder
import Derived.Test.YtnlkmljdcmfogaaGreatDoorGwU0
import Derived.Maps.Own
import Derived.StringKeys
import Derived.Deep.QuietTactic
import Derived.BigQuiet
import Derived.Deep.RegionWith
import Derived.Deep.DeepCutAuto
import Derived.Test.YtnlkmljdcmfogaaGreatDoorExW
import Derived.Test.YtnlkmljdcmfogaaGreatDoorLxA0
namespace Go.Proofs.YtnlkmljdcmfogaaGreatDoor
open Go Go.RowKit Go.Shelf
def Tryz.lays169_ren : Go.Shelf.Ren := ⟨fun | 169 => 239 | n => n, fun | 70 => 377 | 9 => 9 | 0 => 0 | 72 => 379 | 37 => 199 | 127 => 405 | 3 => 3 | 5 => 5 | n => n, fun | n => n⟩
theorem Tryz.lays169 : Go.Proofs.Lays.n169 Tryz.prog Tryz.lays169_ren := {
  mixed := by kernel_rfl
  f169 := Tryz.func239.trans (congrArg some (by kernel_rfl))
  t0 := Tryz.underlying0
  a0 := Tryz.isAgg0
  z0 := Tryz.sizeOf0
  v0 := Tryz.zeroValue0
  t3 := Tryz.underlying3
  a3 := Tryz.isAgg3
  z3 := Tryz.sizeOf3
  v3 := Tryz.zeroValue3
  t9 := Tryz.underlying9
  a9 := Tryz.isAgg9
  z9 := Tryz.sizeOf9
  v9 := Tryz.zeroValue9
  t37 := Tryz.underlying199
  a37 := Tryz.isAgg199
  z37 := Tryz.sizeOf199
  v37 := Tryz.zeroValue199
  t70 := Tryz.underlying377
  a70 := Tryz.isAgg377
  z70 := Tryz.sizeOf377
  v70 := Tryz.zeroValue377
  t72 := Tryz.underlying379
  a72 := Tryz.isAgg379
  z72 := Tryz.sizeOf379
  v72 := Tryz.zeroValue379
  t127 := Tryz.underlying405
  a127 := Tryz.isAgg405
  z127 := Tryz.sizeOf405
  v127 := Tryz.zeroValue405 }
theorem xtra169 : Builder.Extra Tryz.prog Tryz.lays169_ren where
  sizeBuilder := by kernel_rfl
  liesBuilder := by kernel_rfl
  t5 := Tryz.underlying5
  a5 := Tryz.isAgg5
  z5 := Tryz.sizeOf5
  v5 := Tryz.zeroValue5
  infoByte := by kernel_rfl
  cellsByte := by kernel_rfl
  sizeByte := by kernel_rfl
  neB5 := by decide
/-- a builder at b that holds a text; its blocks are B's or above. -/
def Bd (w : World) (B b : Nat) (l : List UInt8) : Prop := Lib.IsBuilderF 379 5 B b (Lib.byteCells l) w
theorem Bd.fresh (w : World) : Bd (w.alloc (.cells #[.pointer none, .slice none 0 0] 379)) w.heap.size w.heap.size [] := Lib.IsBuilderF.of (Lib.fresh_isBuilder 379 5 w)
theorem Bd.keep {w w' : World} {B b : Nat} {l : List UInt8} (h : Bd w B b l) (hk : ∀ k, B ≤ k → k < w.heap.size → w'.heap[k]? = w.heap[k]?) : Bd w' B b l := by
  have key : ∀ p, Lib.BuilderAtF 379 5 B b p (Lib.byteCells l) w → Lib.BuilderAtF 379 5 B b p (Lib.byteCells l) w' := by
    rintro p ⟨hB, v, hb, ho, hne⟩
    have lt : ∀ {k : Nat} {o : Obj}, w.heap[k]? = some o → k < w.heap.size := fun {k o} e => by
      rcases Nat.lt_or_ge k w.heap.size with h1 | h1
      · exact h1
      · rw [Array.getElem?_eq_none h1] at e; cases e
    refine ⟨hB, v, (hk b hB (lt hb)).trans hb, ⟨ho.1, ?_⟩, hne⟩
    rcases ho.2 with h1 | ⟨g, cap, cur, fz, h1, h2, h3, h4⟩
    · exact .inl h1
    · exact .inr ⟨g, cap, cur, fz, h1, h2, (hk g h2 (lt h3)).trans h3, h4⟩
  rcases h with h | h
  · exact .inl (key _ h)
  · exact .inr (key _ h)
theorem Bd.new {w w' : World} {B b : Nat} {l : List UInt8} (h : Bd w B b l) (hb : Below w.heap.size w w') : Bd w' B b l := h.keep fun k _ hk => hb.block k hk
theorem Bd.row {w w' : World} {B b r : Nat} {l : List UInt8} (h : Bd w B b l) (hg : w.grownBy w' (some r)) (hr : r < B) : Bd w' B b l := h.keep fun k hk hl => hg.block k hl (fun e => by injection e with e; omega)
theorem sizeBd : (Tryz.prog.info? 379).map (·.size) = some 2 := by kernel_rfl
theorem liesBd : liesAt Tryz.prog Tryz.prog.depth 379 (2 / Tryz.prog.cellsOf 379) 0 379 1 = true := by kernel_rfl
set_option maxHeartbeats 1000000 in
set_option maxRecDepth 100000 in
theorem copyCheck_used (b : Nat) (w : World) (h0 : w.cell? ⟨b, 0, none⟩ = some (.pointer (some ⟨b, 0, none⟩))) :
    Calls Tryz.prog 325 #[.pointer (some ⟨b, 0, none⟩)] w fun e w' => e = .returned (.tuple #[]) ∧ w' = w := by
  obtain ⟨j, hj, _⟩ := Option.map_eq_some_iff.1 sizeBd
  have hq := fun w : World => Lib.run_neq_ptr_same (P := Tryz.prog) w ⟨b, 0, none⟩ Tryz.underlying377 hj
  go_enter Tryz.func325, Tryz.ntmps325
  go_wp2_with fail
  go_end0
  exact ⟨rfl, rfl⟩
set_option maxHeartbeats 1000000 in
set_option maxRecDepth 100000 in
theorem copyCheck_fresh (b : Nat) (w : World) (h0 : w.cell? ⟨b, 0, none⟩ = some (.pointer none)) (hsh : w.shape? b = some (379, 2)) (hfz : w.frozen? ⟨b, 0, none⟩ = false) :
    Calls Tryz.prog 325 #[.pointer (some ⟨b, 0, none⟩)] w fun e w' => e = .returned (.tuple #[]) ∧ w' = w.setCell ⟨b, 0, none⟩ (.pointer (some ⟨b, 0, none⟩)) := by
  obtain ⟨j, hj, hjs⟩ := Option.map_eq_some_iff.1 sizeBd
  go_enter Tryz.func325, Tryz.ntmps325
  go_wp2_with fail
  rw [Lib.run_to_unsafe w ⟨b, 0, none⟩ Tryz.underlying377 Tryz.underlying291 hj (by rw [hjs]; decide) hsh (Nat.zero_lt_succ 1)]
  simp only [Result.andThen]
  rw [Oper.upon_value]
  go_wp2_with fail
  rw [run_callFunc_extern Tryz.func326 (by kernel_rfl) (by kernel_rfl) (by kernel_rfl) (e := Extern.AbiNoEscape.same) (by kernel_rfl)]
  rw [Lib.run_noEscape]
  simp only [Result.andThen]
  rw [Oper.upon_value]
  go_wp2_with fail
  rw [Lib.run_from_unsafe w ⟨b, 0, none⟩ Tryz.underlying291 Tryz.underlying377 hj hsh liesBd]
  simp only [Result.andThen]
  rw [Oper.upon_value]
  go_wp2_with fail
  go_end0
  exact ⟨rfl, rfl⟩
theorem copyCheck_any (B b : Nat) (l : List Value) (w : World) (h : Lib.IsBuilderF 379 5 B b l w) :
    Calls Tryz.prog 325 #[.pointer (some ⟨b, 0, none⟩)] w fun e w' => e = .returned (.tuple #[]) ∧ Lib.BuilderAtF 379 5 B b (.pointer (some ⟨b, 0, none⟩)) l w' ∧ Below B w w' := by
  rcases h with h | h
  · refine (copyCheck_fresh b w h.cell0 h.shape h.frozen0).mono ?_
    rintro e w' ⟨rfl, rfl⟩
    exact ⟨rfl, h.used _, (Below.refl B w).setCell (p := ⟨b, 0, none⟩) h.1 _⟩
  · refine (copyCheck_used b w h.cell0).mono ?_
    rintro e w' ⟨rfl, rfl⟩
    exact ⟨rfl, h, Below.refl B _⟩
theorem infoB : (Tryz.prog.info? 5).map (fun i => (i.zero, i.size, i.bytes)) = some (some (.int .u8 0), 1, 1) := by kernel_rfl
set_option maxHeartbeats 2000000 in
set_option maxRecDepth 100000 in
theorem write_any (B b : Nat) (l : List UInt8) (s : List UInt8) (w : World) (h : Bd w B b l) (hlen : l.length + s.length ≤ 140737488355328) (hBw : B ≤ w.heap.size) :
    Calls Tryz.prog 324 #[.pointer (some ⟨b, 0, none⟩), .string (bs s)] w fun e w' => e = .returned (.tuple #[.int .i64 (s.length : Int), .nilIface]) ∧ Bd w' B b (l ++ s) ∧ Below B w w' := by
  obtain ⟨i0, hi, hz0, hz1, hz2⟩ := info_parts infoB
  have hsz : (bs s).size = s.length := bs_size s
  have HSZ := Lib.hid hsz
  have hl2 : (Lib.byteCells l).length = l.length := Lib.byteCells_length l
  have HL2 := Lib.hid hl2
  have hlen2 : (Lib.byteCells l).length + (bs s).size ≤ 140737488355328 := by rw [hl2, hsz]; exact hlen
  clear hsz hl2 hlen
  go_enter Tryz.func324, Tryz.ntmps324
  go_wp2_with fail
  refine (copyCheck_any B b _ _ h).mono ?_
  rintro e w1 ⟨rfl, h1, hb1⟩
  obtain ⟨hB, v, hbk, hown, hne⟩ := h1
  have c0 : w1.cell? ⟨b, 0, none⟩ = some (.pointer (some ⟨b, 0, none⟩)) := by rw [Lib.cell_of_heap hbk]; rfl
  have c1 : w1.cell? ⟨b, 1, none⟩ = some v := by rw [Lib.cell_of_heap hbk]; rfl
  go_wp2_with (at_builtin; refine Lib.wpList_append_own_stringF _ rfl _ _ 199 9 rfl B 5 i0 Tryz.underlying199 Tryz.underlying9 hi hz0 hz1 hz2 _ _ _ rfl hown (bs s) rfl ?c3 ?c4 ?c5 ?_)
  case c3 => unfold maxLen; omega
  case c4 => omega
  case c5 => have := hb1.size; omega
  intro v' w2 hown' hgrow _
  have hlt : b < w1.heap.size := by
    rcases Nat.lt_or_ge b w1.heap.size with h' | h'
    · exact h'
    · simp [Array.getElem?_eq_none h'] at hbk
  have hb2 : w2.heap[b]? = some (.cells #[.pointer (some ⟨b, 0, none⟩), v] 379 (0, 0)) := by
    rw [hgrow.block b hlt (fun e => hne e.symm)]
    exact hbk
  have d0 : w2.cell? ⟨b, 0, none⟩ = some (.pointer (some ⟨b, 0, none⟩)) := by rw [Lib.cell_of_heap hb2]; rfl
  have d1 : w2.cell? ⟨b, 1, none⟩ = some v := by rw [Lib.cell_of_heap hb2]; rfl
  have f1 : w2.frozen? ⟨b, 1, none⟩ = false := Lib.frozen_of_heap hb2 1
  obtain ⟨ao, n', cap, rfl⟩ : ∃ ao n' cap, v' = .slice ao n' cap := by
    rcases hown'.2 with ⟨hv, _⟩ | ⟨g, cap, cur, fz, hv, _⟩
    · exact ⟨_, _, _, hv⟩
    · exact ⟨_, _, _, hv⟩
  go_wp2_with fail
  go_ret2
  refine ⟨by rw [← HSZ.out]; rfl, .inr ?_, ?_⟩
  · have hcells : Lib.byteCells (l ++ s) = Lib.byteCells l ++ Lib.strCells (bs s) := by rw [Lib.byteCells_append]; rfl
    rw [hcells]
    exact Lib.BuilderAtF.put (T := 379) (e := 5) hB hb2 (bs' := Lib.byteCells l ++ Lib.strCells (bs s)) (by rw [List.length_append, Lib.strCells_length]; exact hown') (by decide)
  · exact (hb1.grown hgrow (by have := hb1.size; omega) (fun k hk => (hown.lt k hk).1)).setCell (p := ⟨b, 1, none⟩) hB _
theorem string_any (B b : Nat) (l : List UInt8) (w : World) (h : Bd w B b l) (hBw : B ≤ w.heap.size) :
    Calls Tryz.prog 239 #[.pointer (some ⟨b, 0, none⟩)] w fun e w' => e = .returned (.string (bs l)) ∧ Bd w' B b l ∧ Below B w w' := by
  refine (Any.Builder_String_any_k Tryz.lays169 xtra169 B b l w h hBw).mono ?_
  rintro e w' ⟨rfl, h1, h2, _⟩
  exact ⟨rfl, h1, h2⟩
end Go.Proofs.YtnlkmljdcmfogaaGreatDoor
namespace Go.Proofs.YtnlkmljdcmfogaaGreatDoor
open Go Go.RowKit Go.Shelf Go.Maps Go.WideMaps
/-- the map is empty. -/
def EM (w : World) (M : Nat) : Prop := w.heap[M]? = some (.map #[] 0)
theorem EM.below {w w' : World} {M B : Nat} (h : EM w M) (hb : Below B w w') (hM : M < B) : EM w' M := (hb.block M hM).trans h
theorem keyS : Keyed Tryz.prog 9 := string_keyed Tryz.underlying9
theorem zeroS (w : World) : (zeroValue 9).run Tryz.prog w = .ok (.string ⟨#[]⟩) w := by kernel_rfl
set_option maxRecDepth 100000 in
theorem plain_nil {v : Value} {ps : List MemPlace} {d : DataW Unit} (hd : d = .lit (.string [])) (hv : plainElem (H := Unit) Tryz.prog 9 v = some (d, ps)) : v = .string ⟨#[]⟩ := by
  subst hd
  unfold plainElem at hv
  rw [Tryz.underlying9] at hv
  cases v with
  | string s =>
    have h2 : (if s.size ≤ maxLen then some ((DataW.lit (.string s.data.toList) : DataW Unit), ([] : List MemPlace)) else none) = some (DataW.lit (.string []), ps) := hv
    split at h2
    · injection h2 with h2
      injection h2 with h2 _
      injection h2 with h2
      injection h2 with h2
      have : s = ⟨#[]⟩ := ByteArray.ext (Array.toList_inj.1 h2)
      rw [this]
    · cases h2
  | _ => cases hv
theorem EM.look {w : World} {M : Nat} (h : EM w M) (k : List UInt8) (hk : k.length ≤ exMax) : (Instr.lookup 188 (.map (some M)) (.string (bs k)) false).run Tryz.prog w = .ok (.string ⟨#[]⟩) w := by
  have hown : w.ownsMap (H := Unit) Tryz.prog 9 (plainElem Tryz.prog 9) M 0 (.map []) := ⟨#[], 0, h, ⟨by simp, MapKept.stamped_empty 0, by simp⟩, Nat.le_refl _, rfl⟩
  have hkl : (bs k).size ≤ maxLen := by rw [bs_size]; unfold maxLen; unfold exMax at hk; omega
  obtain ⟨v, ps, hr, hv⟩ := hown.lookup keyS Tryz.underlying188 (zeroS w) (plainElem_string Tryz.underlying9 (s := ⟨#[]⟩) (Nat.zero_le _)) (keyOf_string_mk Tryz.underlying9 hkl)
  have hv2 : v = .string ⟨#[]⟩ := plain_nil rfl hv
  rw [hv2] at hr
  exact hr
theorem ownF_form {w : World} {base k n : Nat} {e : TypeId} {v : Value} {xs : List Value} (h : w.ownsRowF base e k v n xs) : ∃ A c, v = .slice A n c := by
  rcases h.2 with ⟨rfl, rfl⟩ | ⟨g, cap, cur, fz, rfl, _⟩
  · exact ⟨_, _, rfl⟩
  · exact ⟨_, _, rfl⟩
theorem len_any {B b : Nat} {l : List UInt8} {w : World} (h : Bd w B b l) : Calls Tryz.prog 323 #[.pointer (some ⟨b, 0, none⟩)] w fun e w' => e = .returned (.int .i64 (l.length : Int)) ∧ w = w' := by
  have key : ∃ A c, w.cell? ⟨b, 1, none⟩ = some (.slice A (Lib.byteCells l).length c) := by
    rcases h with h | h
    · obtain ⟨hB, v, hb, ho, hne⟩ := h
      obtain ⟨A, c, rfl⟩ := ownF_form ho
      exact ⟨A, c, by rw [Lib.cell_of_heap hb]; rfl⟩
    · obtain ⟨hB, v, hb, ho, hne⟩ := h
      obtain ⟨A, c, rfl⟩ := ownF_form ho
      exact ⟨A, c, by rw [Lib.cell_of_heap hb]; rfl⟩
  obtain ⟨A, c, c1⟩ := key
  rw [Lib.byteCells_length] at c1
  clear h
  go_enter Tryz.func323, Tryz.ntmps323
  go_wp2_with fail
  go_ret
  exact ⟨rfl, rfl⟩
/-- what putting answers. -/
def PutAns (w : World) (B b : Nat) (r : Ending) (w' : World) : Prop := ∃ (q : Bool) (l : List UInt8), r = .returned (.bool q) ∧ Bd w' B b l ∧ l.length ≤ 65536 ∧ Below B w w'
set_option maxRecDepth 100000 in
set_option maxHeartbeats 1000000 in
theorem litPut_any (s : List UInt8) (hs : s.length ≤ exMax) {B b : Nat} {l : List UInt8} {w : World} (h : Bd w B b l) (hl : l.length ≤ 65536) (hB : B ≤ w.heap.size) (M : Value) : Calls Tryz.prog 322 #[.string (bs s), .pointer (some ⟨b, 0, none⟩), M] w (PutAns w B b) := by
  have hz : (bs s).size ≤ 2000000 := by rw [bs_size]; exact hs
  have HZ : Hid ((bs s).size = s.length) := Lib.hid (bs_size s)
  have H := Lib.hid h
  clear h
  obtain ⟨t, et⟩ : ∃ t, decide ((65536 : Int) < (l.length : Int) + ((bs s).size : Int)) = t := ⟨_, rfl⟩
  cases t with
  | true =>
    go_enter Tryz.func322, Tryz.ntmps322
    go_wp2_with fail
    refine (len_any H.out).mono ?_
    rintro e w1 ⟨rfl, rfl⟩
    go_wp2_with fail
    go_ret
    exact ⟨false, l, rfl, H.out, hl, Below.refl _ _⟩
  | false =>
    have hle : l.length + s.length ≤ 65536 := by have := of_decide_eq_false et; have := HZ.out; omega
    go_enter Tryz.func322, Tryz.ntmps322
    go_wp2_with fail
    refine (len_any H.out).mono ?_
    rintro e w1 ⟨rfl, rfl⟩
    go_wp2_with fail
    refine (write_any B b l s _ H.out (by omega) hB).mono ?_
    rintro e w1 ⟨rfl, h1, p1⟩
    go_wp2_with fail
    go_ret
    exact ⟨true, l ++ s, rfl, h1, by rw [List.length_append]; exact hle, p1⟩
theorem mLit (s : List UInt8) (w : World) : (method 547 398 (.string (bs s)) "strata/expand.put").run Tryz.prog w = .ok (322, .string (bs s)) w := by kernel_rfl
theorem mVar (x y z : Value) (w : World) : (method 547 412 (.agg #[x, y, z]) "strata/expand.put").run Tryz.prog w = .ok (328, .agg #[x, y, z]) w := by kernel_rfl
/-- what is known of a variable's put. -/
def VarPut (d : Nat) : Prop := ∀ (B b M : Nat) (w : World) (n : List UInt8) (op : UInt8) (A : Option Addr) (m c : Nat) (ts : List Ex.Tk) (l : List UInt8), Bd w B b l → l.length ≤ 65536 → B ≤ w.heap.size → EM w M → M < B → PV w (fun g => B ≤ g) d ts (varV n op (.slice A m c)) →
  Calls Tryz.prog 328 #[.agg #[.string (bs n), .int .u8 (op.toNat : Int), .slice A m c], .pointer (some ⟨b, 0, none⟩), .map (some M)] w (PutAns w B b)
def AllPut (d : Nat) : Prop := ∀ (B b M : Nat) (w : World) (A : Option Addr) (m c : Nat) (xs : List Value) (ts : List Ex.Tk) (l : List UInt8), Bd w B b l → l.length ≤ 65536 → B ≤ w.heap.size → EM w M → M < B → Rx w (fun g => B ≤ g) A m xs → m ≤ exMax → PVs (PV w (fun g => B ≤ g) d) ts xs →
  Calls Tryz.prog 238 #[.slice A m c, .pointer (some ⟨b, 0, none⟩), .map (some M)] w (PutAns w B b)
theorem PVs.get {V : List Ex.Tk → Value → Prop} : ∀ {xs : List Value} {ts : List Ex.Tk} (_ : PVs V ts xs) (i : Nat) (hi : i < xs.length), ∃ t, V t xs[i]
  | [], _, _, i, hi => absurd hi (by simp)
  | _ :: _, _, ⟨a, _, _, k1, _⟩, 0, _ => ⟨a, k1⟩
  | _ :: _, _, ⟨_, _, _, _, k2⟩, i + 1, hi => PVs.get k2 i (by simpa using hi)
theorem PV.form {w : World} {X : Nat → Prop} {d : Nat} {ts : List Ex.Tk} {v : Value} (h : PV w X d ts v) : (∃ s, s.length ≤ exMax ∧ v = litV s) ∨ ∃ n op A m c, v = varV n op (.slice A m c) := by
  cases d with
  | zero => obtain ⟨s, _, h1, rfl⟩ := h; exact .inl ⟨s, h1, rfl⟩
  | succ d =>
    rcases h with ⟨s, _, h1, rfl⟩ | ⟨n, op, l, A, m, c, xs, _, _, rfl, _⟩
    · exact .inl ⟨s, h1, rfl⟩
    · exact .inr ⟨n, op, A, m, c, rfl⟩
set_option maxRecDepth 100000 in
set_option maxHeartbeats 1000000 in
/-- a loop over pieces. -/
theorem all_step {d : Nat} (HV0 : VarPut d) : AllPut d := by
  intro B b M w A m c xs ts l h hl hB hM hMB hr hm hp
  have HR := Lib.hid hr
  have HB := Lib.hid h
  have HP := Lib.hid hp
  have HE := Lib.hid hM
  have HV := Lib.hid HV0
  have hm2 : m ≤ 2000000 := hm
  clear hr h hp hM HV0
  go_enter Tryz.func238, Tryz.ntmps238
  go_wp2_with fail
  go_loopw [11] (fun t11 wr => ∃ (i : Nat) (l' : List UInt8), i ≤ m ∧ t11 = .int .i64 (i : Int) ∧ Hid (Bd wr B b l') ∧ l'.length ≤ 65536 ∧ Hid (Below B w wr)) (fun t11 _ => m - (intOf t11).toNat)
  case atStart => exact ⟨0, l, by omega, rfl, HB, hl, Lib.hid (Below.refl _ _)⟩
  case round =>
    rename World => wr
    obtain ⟨i, l', hi, rfl, HBi, hli, HW⟩ := hrel
    rcases Nat.lt_or_ge i m with hin | hin
    · have i0 : decide ((i : Int) < (m : Int)) = true := by rw [decide_eq_true_eq]; omega
      have i1 : (i : Int) < (m : Int) := by omega
      have j0 : (0 : Int) ≤ (i : Int) := by omega
      obtain ⟨g, rfl, hg, hgl, hcell⟩ := HR.out.2 (by omega)
      have hxl : i < xs.length := by rw [HR.out.1]; exact hin
      have c0 : wr.cell? ⟨g, i, none⟩ = some xs[i] := (HW.out.cell (p := ⟨g, i, none⟩) (by show g < B; exact Nat.lt_of_not_le hg)).trans (hcell i _ (List.getElem?_eq_getElem hxl))
      obtain ⟨t, ht⟩ := HP.out.get i hxl
      obtain ⟨v, hv⟩ : ∃ v, xs[i] = v := ⟨_, rfl⟩
      rw [hv] at c0 ht
      have hBr : B ≤ wr.heap.size := Nat.le_trans hB HW.out.size
      rcases ht.form with ⟨s, hs, rfl⟩ | ⟨n, op, A2, m2, c2, rfl⟩
      · have hml := mLit s
        replace c0 : wr.cell? ⟨g, i, none⟩ = some (.iface 398 (.string (bs s))) := c0
        clear hv ht hcell hg hgl hxl
        go_wp2_with fail
        refine (litPut_any s hs HBi.out hli hBr _).mono ?_
        rintro r w5 ⟨q, l5, rfl, h5, hl5, p5⟩
        have HW5 := Lib.hid (HW.out.trans p5)
        have HB5 := Lib.hid h5
        clear h5 p5
        cases q with
        | false =>
          go_wp2_with fail
          go_ret
          exact ⟨false, l5, rfl, HB5.out, hl5, HW5.out⟩
        | true =>
          go_wp2_with fail
          go_roundw
          case rel => exact ⟨i + 1, l5, by omega, by go_num, HB5, hl5, HW5⟩
          case measure => simp [intOf]; omega
      · have hmv := mVar (.string (bs n)) (.int .u8 (op.toNat : Int)) (.slice A2 m2 c2)
        replace c0 : wr.cell? ⟨g, i, none⟩ = some (.iface 412 (.agg #[.string (bs n), .int .u8 (op.toNat : Int), .slice A2 m2 c2])) := c0
        have hcall := HV.out _ _ _ _ _ _ _ _ _ _ _ HBi.out hli hBr (HE.out.below HW.out hMB) hMB (PV.fx (X' := fun g => B ≤ g) (Fx.of_below HW.out) (fun b _ h => h.elim id id) ht)
        have HC := Lib.hid hcall
        clear hv ht hcell hg hgl hxl hcall
        go_wp2_with fail
        refine HC.out.mono ?_
        rintro r w5 ⟨q, l5, rfl, h5, hl5, p5⟩
        have HW5 := Lib.hid (HW.out.trans p5)
        have HB5 := Lib.hid h5
        clear h5 p5
        cases q with
        | false =>
          go_wp2_with fail
          go_ret
          exact ⟨false, l5, rfl, HB5.out, hl5, HW5.out⟩
        | true =>
          go_wp2_with fail
          go_roundw
          case rel => exact ⟨i + 1, l5, by omega, by go_num, HB5, hl5, HW5⟩
          case measure => simp [intOf]; omega
    · have i0 : decide ((i : Int) < (m : Int)) = false := by rw [decide_eq_false_iff_not]; omega
      go_wp2_with fail
      go_ret
      exact ⟨true, l', rfl, HBi.out, hli, HW.out⟩
theorem litPut_nil {B b : Nat} {l : List UInt8} {w : World} (h : Bd w B b l) (hl : l.length ≤ 65536) (hB : B ≤ w.heap.size) (M : Value) : Calls Tryz.prog 322 #[.string ⟨#[]⟩, .pointer (some ⟨b, 0, none⟩), M] w (PutAns w B b) := litPut_any [] (Nat.zero_le _) h hl hB M
set_option maxRecDepth 100000 in
set_option maxHeartbeats 1000000 in
theorem var_step {d : Nat} (HA0 : AllPut d) : VarPut (d + 1) := by
  intro B b M w n op A m c ts l h hl hB hM hMB hp
  obtain ⟨l2, xs, hn, hr, hm, hps⟩ : ∃ l2 xs, n.length ≤ exMax ∧ Rx w (fun g => B ≤ g) A m xs ∧ m ≤ exMax ∧ PVs (PV w (fun g => B ≤ g) d) l2 xs := by
    rcases hp with ⟨s, _, _, e⟩ | ⟨n', op', l2, A', m', c', xs, _, hn, e, hr, hm, hps⟩
    · injection e with e1 _
      exact absurd e1 (by decide)
    · injection e with _ e
      injection e with e
      have e2 := congrArg Array.toList e
      simp only at e2
      injection e2 with q1 e2
      injection e2 with q2 e2
      injection e2 with q3 _
      injection q3 with q4 q5 q6
      subst q4 q5 q6
      injection q1 with q1
      have hnn : n = n' := by have := congrArg bl q1; exact this
      exact ⟨l2, xs, by rw [hnn]; exact hn, hr, hm, hps⟩
  have hal := (Below.refl w.heap.size w).alloc (Nat.le_refl _) (.cells #[.string (bs n), .int .u8 (op.toNat : Int), .slice A m c] 412)
  have HK := Lib.hid (Blk.new w 412 #[.string (bs n), .int .u8 (op.toNat : Int), .slice A m c])
  obtain ⟨w1, hw1⟩ : ∃ x, w.alloc (.cells #[.string (bs n), .int .u8 (op.toNat : Int), .slice A m c] 412) = x := ⟨_, rfl⟩
  rw [hw1] at hal HK
  have hBl : Below B w w1 := hal.mono hB
  have HB1 := Lib.hid (h.new hal)
  have HM1 := Lib.hid (hM.below hBl hMB)
  have HLK := Lib.hid (EM.look HM1.out n hn)
  have HR1 := Lib.hid (hr.fx (X' := fun g => B ≤ g) (Fx.of_below hBl) (fun b _ h => h.elim id id))
  have HP1 := Lib.hid (hps.mono fun _ _ => PV.fx (X' := fun g => B ≤ g) (Fx.of_below hBl) (fun b _ h => h.elim id id))
  have HBl := Lib.hid hBl
  have HW1 := Lib.hid hw1
  have hB1 : B ≤ w1.heap.size := Nat.le_trans hB hBl.size
  have HA := Lib.hid HA0
  have ho : op.toNat < 256 := UInt8.toNat_lt _
  obtain ⟨x1, e1⟩ : ∃ x, ((op.toNat : Int) == 43) = x := ⟨_, rfl⟩
  obtain ⟨x2, e2⟩ : ∃ x, ((op.toNat : Int) == 0) = x := ⟨_, rfl⟩
  have e3 : ((op.toNat : Int) != 43) = !x1 := by rw [bne, e1]
  clear h hM hp hr hps hal hw1 hBl HA0
  go_enter Tryz.func328, Tryz.ntmps328
  go_upto_region 1 with fail
  rw [HW1.out]
  have b0 : w1.cell? ⟨w.heap.size, 0, none⟩ = some (.string (bs n)) := HK.out.cell 0
  have b1 : w1.cell? ⟨w.heap.size, 1, none⟩ = some (.int .u8 (op.toNat : Int)) := HK.out.cell 1
  have b2 : w1.cell? ⟨w.heap.size, 2, none⟩ = some (.slice A m c) := HK.out.cell 2
  have hlk := HLK.out
  cases x1 with
  | true =>
    go_wp2_with fail
    go_ret
    exact ⟨true, l, rfl, HB1.out, hl, HBl.out⟩
  | false =>
    cases x2 with
    | true =>
      go_wp2_with fail
      refine (litPut_nil HB1.out hl hB1 _).mono ?_
      rintro r w5 ⟨q, l5, rfl, h5, hl5, p5⟩
      go_wp2_with fail
      go_ret
      exact ⟨q, l5, rfl, h5, hl5, HBl.out.trans p5⟩
    | false =>
      go_wp2_with fail
      refine (HA.out _ _ _ _ _ _ _ _ _ _ HB1.out hl hB1 HM1.out hMB HR1.out hm HP1.out).mono ?_
      rintro r w5 ⟨q, l5, rfl, h5, hl5, p5⟩
      go_wp2_with fail
      go_ret
      exact ⟨q, l5, rfl, h5, hl5, HBl.out.trans p5⟩
theorem var_zero : VarPut 0 := by
  intro B b M w n op A m c ts l h hl hB hM hMB hp
  obtain ⟨s, _, _, e⟩ := hp
  injection e with e1 _
  exact absurd e1 (by decide)
theorem all_any : ∀ d, AllPut d
  | 0 => all_step var_zero
  | d + 1 => all_step (var_step (all_any d))
end Go.Proofs.YtnlkmljdcmfogaaGreatDoor
namespace Go.Proofs.YtnlkmljdcmfogaaGreatDoor
open Go Go.RowKit
def errV (n : Nat) : Value := if n = 0 then .nilIface else eno (n : Int)
theorem errV_z {z : Nat} (h : z = 4 ∨ z = 18) : errV z = eno (z : Int) := by
  unfold errV
  rw [if_neg (by omega)]
theorem Rx.own2 {w : World} {base n c : Nat} {e : TypeId} {A : Option Addr} {xs : List Value} (h : w.ownsRow base e 1 (.slice A n c) n xs) : Rx w (fun b => w.heap.size ≤ b) A n xs := by
  refine ⟨by have := h.1; omega, fun hn => ?_⟩
  obtain ⟨g, cap, hv, hb, hlt⟩ := h.form hn
  have hA : A = some ⟨g, 0, none⟩ := by injection hv
  subst hA
  exact ⟨g, rfl, by omega, hlt, fun j u hu => by have := h.cells (g := g) rfl j u hu; rwa [Addr.add_lit, Nat.zero_add] at this⟩
/-- what expand answers, no variable being told. -/
def TdAns (w : World) (x : Ex.R) (r : Ending) (w' : World) : Prop := ∃ (t : ByteArray) (n : Nat), r = .returned (.tuple #[.string t, errV n]) ∧ (match x with | .inl z => n = z | .inr _ => n = 0 ∨ n = 5) ∧ Below w.heap.size w w'
set_option maxRecDepth 100000 in
set_option maxHeartbeats 1000000 in
theorem told_any (s : List UInt8) (e : UInt8) (k : Ex.Kd) (hs : s.length ≤ exMax) (w : World) : Calls Tryz.prog 181 #[.string (bs s), .int .u8 (e.toNat : Int), .int .i64 (kdI k), .slice none 0 0] w (TdAns w (Ex.readL e k s)) := by
  obtain ⟨x, hx⟩ : ∃ x, Hid (Ex.readL e k s = x) := ⟨_, Lib.hid rfl⟩
  rw [hx.out]
  obtain ⟨K, hK⟩ : ∃ K, Hid (kdI k = K) := ⟨_, Lib.hid rfl⟩
  rw [hK.out]
  have hb : e.toNat < 256 := UInt8.toNat_lt _
  have hal := (Below.refl w.heap.size w).alloc (Nat.le_refl _) (.cells #[.string (bs s), .int .i64 0, .int .u8 (e.toNat : Int)] 373)
  have hrd := Blk.new w 373 #[.string (bs s), .int .i64 0, .int .u8 (e.toNat : Int)]
  obtain ⟨w1, hw1⟩ : ∃ x, w.alloc (.cells #[.string (bs s), .int .i64 0, .int .u8 (e.toNat : Int)] 373) = x := ⟨_, rfl⟩
  rw [hw1] at hal hrd
  have HW1 := Lib.hid hw1
  have HB1 := Lib.hid hal
  have HRD : Hid (Rdr w1 w.heap.size s 0 e) := Lib.hid hrd
  have hcall := read_any hs (s.length + 1) k w.heap.size 0 w1 (by omega) (Nat.zero_le _) HRD.out
  rw [List.drop_zero, hx.out, hK.out] at hcall
  have HC := Lib.hid hcall
  have hsz1 : w.heap.size < w1.heap.size := Blk.lt hrd
  clear hw1 hal hrd hcall
  go_enter Tryz.func181, Tryz.ntmps181
  go_upto_region 2 with fail
  rw [HW1.out]
  go_wp2_with fail
  cases x with
  | inl z =>
    have hz := Ex.readL_err hx.out
    refine HC.out.mono ?_
    rintro r w2 ⟨rfl, k2⟩
    have HB2 := Lib.hid ((Fx.of_below HB1.out).then k2 (fun b hb h => by have h2 : b = w.heap.size := h; omega) |>.to_below (Nat.le_refl _) (fun b h => h))
    clear k2
    go_wp2_with fail
    go_ret2
    exact ⟨_, z, by rw [errV_z hz]; rfl, rfl, HB2.out⟩
  | inr pr =>
    obtain ⟨l, t⟩ := pr
    refine HC.out.mono ?_
    rintro r w2 ⟨v, xs, rfl, ho, hp, hrd2, hlen, k2⟩
    obtain ⟨A, c, rfl⟩ := ownk_form ho
    have HB2 := Lib.hid ((Fx.of_below HB1.out).then k2 (fun b hb h => by have h2 : b = w.heap.size := h; omega) |>.to_below (Nat.le_refl _) (fun b h => h))
    have HO2 := Lib.hid ho
    have HP2 := Lib.hid hp
    have hxs : xs.length ≤ exMax := by unfold exMax at hs ⊢; omega
    clear k2 ho hp hrd2
    have hmm := @run_makeMap Tryz.prog
    go_wp2_with fail
    go_loopw [15, 33] (fun _ t33 wr => t33 = .int .i64 0 ∧ w2.alloc (.map #[] 0) = wr) (fun _ _ _ => 0)
    case atStart => exact ⟨rfl, rfl⟩
    case round =>
      obtain ⟨rfl, rfl⟩ := hrel
      have hem := heap_alloc_new w2 (.map #[] 0)
      have b3 := (Below.refl w2.heap.size w2).alloc (Nat.le_refl _) (.map #[] 0)
      obtain ⟨w3, hw3⟩ : ∃ x, w2.alloc (.map #[] 0) = x := ⟨_, rfl⟩
      have hz3 : w3.heap.size = w2.heap.size + 1 := by rw [← hw3, World.size_alloc]
      rw [hw3] at hem b3
      rw [hw3]
      have b4 := (Below.refl w3.heap.size w3).alloc (Nat.le_refl _) (.cells #[.pointer none, .slice none 0 0] 379)
      have hbd := Bd.fresh w3
      obtain ⟨w4, hw4⟩ : ∃ x, w3.alloc (.cells #[.pointer none, .slice none 0 0] 379) = x := ⟨_, rfl⟩
      have hz4 : w4.heap.size = w3.heap.size + 1 := by rw [← hw4, World.size_alloc]
      rw [hw4] at b4 hbd
      have HW4 := Lib.hid hw4
      have HZ3 := Lib.hid hz3
      have hB4 : w3.heap.size ≤ w4.heap.size := by omega
      have hMB : w2.heap.size < w3.heap.size := by omega
      have HEM : Hid (EM w4 w2.heap.size) := Lib.hid (EM.below (w := w3) hem b4 hMB)
      have b24 : Below w2.heap.size w2 w4 := b3.trans (b4.mono (by omega))
      have HRX : Hid (Rx w4 (fun g => w3.heap.size ≤ g) A xs.length xs) := Lib.hid ((Rx.own2 HO2.out).fx (S := fun _ => False) (Fx.new b24) (fun b _ h => h.elim False.elim fun h => by have h2 : w3.heap.size ≤ b := h; show w2.heap.size ≤ b; omega))
      have HPX : Hid (PL w4 (fun g => w3.heap.size ≤ g) l xs) := Lib.hid (HP2.out.fx (S := fun _ => False) (Fx.new b24) (fun b hb h => h.elim False.elim fun h => by have h2 : w3.heap.size ≤ b := h; omega))
      have HBD := Lib.hid hbd
      have HB4 := Lib.hid (HB2.out.trans (b24.mono HB2.out.size))
      have hsz4 : w.heap.size ≤ w3.heap.size := by have := HB2.out.size; omega
      obtain ⟨d, hd⟩ := HPX.out
      have HCA := Lib.hid (all_any d _ _ _ _ _ _ c _ _ _ HBD.out (by simp) hB4 HEM.out hMB HRX.out hxs hd)
      clear hem b3 hw3 hz3 b4 hbd hw4 hz4 b24 hd hmm
      go_upto_region 12 with fail
      rw [HW4.out]
      go_wp2_with fail
      refine HCA.out.mono ?_
      rintro r w5 ⟨q, l5, rfl, h5, hl5, p5⟩
      have HB5 := Lib.hid (HB4.out.trans (p5.mono hsz4))
      have HBD5 := Lib.hid h5
      have hB5 : w3.heap.size ≤ w5.heap.size := Nat.le_trans hB4 p5.size
      clear h5 p5
      cases q with
      | false =>
        go_wp2_with fail
        go_ret2
        exact ⟨_, 5, rfl, .inr rfl, HB5.out⟩
      | true =>
        go_wp2_with fail
        refine (string_any _ _ _ _ HBD5.out hB5).mono ?_
        rintro r w6 ⟨rfl, h6, p6⟩
        have HB6 := Lib.hid (HB5.out.trans (p6.mono hsz4))
        clear h6 p6
        go_wp2_with fail
        go_ret2
        exact ⟨_, 0, rfl, .inl rfl, HB6.out⟩
set_option maxRecDepth 100000 in
theorem exWord_any (s : List UInt8) (e : UInt8) (hs : s.length ≤ exMax) (w : World) : Calls Tryz.prog 114 #[.string (bs s), .int .u8 (e.toNat : Int), .slice none 0 0] w (TdAns w (Ex.readL e .plain s)) := by
  have HC := Lib.hid (told_any s e .plain hs w)
  have hb : e.toNat < 256 := UInt8.toNat_lt _
  go_enter Tryz.func114, Tryz.ntmps114
  go_wp2_with fail
  refine HC.out.mono ?_
  rintro r w1 ⟨t, n, rfl, hn, p1⟩
  have HN := Lib.hid (And.intro hn p1)
  clear hn p1
  go_wp2_with fail
  go_ret2
  exact ⟨t, n, rfl, HN.out.1, HN.out.2⟩
set_option maxRecDepth 100000 in
theorem exDoc_any (s : List UInt8) (e : UInt8) (hs : s.length ≤ exMax) (w : World) : Calls Tryz.prog 178 #[.string (bs s), .int .u8 (e.toNat : Int), .slice none 0 0] w (TdAns w (Ex.readL e .document s)) := by
  have HC := Lib.hid (told_any s e .document hs w)
  have hb : e.toNat < 256 := UInt8.toNat_lt _
  go_enter Tryz.func178, Tryz.ntmps178
  go_wp2_with fail
  refine HC.out.mono ?_
  rintro r w1 ⟨t, n, rfl, hn, p1⟩
  have HN := Lib.hid (And.intro hn p1)
  clear hn p1
  go_wp2_with fail
  go_ret2
  exact ⟨t, n, rfl, HN.out.1, HN.out.2⟩
/-- one number: what is told of it, the sizes let by. -/
theorem td_num {e : UInt8} {k : Ex.Kd} {s : List UInt8} {n : Nat} (h : match Ex.readL e k s with | .inl z => n = z | .inr _ => n = 0 ∨ n = 5) : (n = 0 ∧ Ck.errR (Ex.readL e k s) = 0) ∨ (n = 5 ∧ Ck.errR (Ex.readL e k s) = 0) ∨ (n ≠ 0 ∧ n ≠ 5 ∧ Ck.errR (Ex.readL e k s) = n) := by
  cases hx : Ex.readL e k s with
  | inl z =>
    rw [hx] at h
    have h : n = z := h
    have := Ex.readL_err hx
    exact .inr (.inr ⟨by omega, by omega, h.symm⟩)
  | inr pr =>
    rw [hx] at h
    have h : n = 0 ∨ n = 5 := h
    rcases h with h | h
    · exact .inl ⟨h, rfl⟩
    · exact .inr (.inl ⟨h, rfl⟩)
set_option maxRecDepth 100000 in
set_option maxHeartbeats 1000000 in
theorem word_any (s : List UInt8) (e : UInt8) (hs : s.length ≤ exMax) (w : World) {n : Nat} (H : Hid (Ck.wordL e s = n)) : Calls Tryz.prog 112 #[.string (bs s), .int .u8 (e.toNat : Int)] w fun r w' => r = .returned (errV n) ∧ Below w.heap.size w w' := by
  have HC := Lib.hid (exWord_any s e hs w)
  have hb : e.toNat < 256 := UInt8.toNat_lt _
  go_enter Tryz.func112, Tryz.ntmps112
  go_wp2_with fail
  refine HC.out.mono ?_
  rintro r w1 ⟨t, m, rfl, hn, p1⟩
  have HP := Lib.hid p1
  have hc := td_num hn
  rw [show Ck.errR (Ex.readL e .plain s) = n from H.out] at hc
  clear hn p1 HC
  rcases hc with ⟨rfl, rfl⟩ | ⟨rfl, rfl⟩ | ⟨h0, h5, rfl⟩
  · rw [show errV 0 = .nilIface from rfl]
    go_wp2_with fail
    go_ret
    exact ⟨rfl, HP.out⟩
  · rw [show errV 5 = eno 5 from rfl]
    go_wp2_with fail
    refine (is_eno 5 5 _).mono ?_
    rintro r w2 ⟨rfl, rfl⟩
    go_wp2_with fail
    go_ret
    exact ⟨rfl, HP.out⟩
  · have hE : errV n = eno (n : Int) := by unfold errV; rw [if_neg h0]
    have HE := Lib.hid hE
    rw [hE]
    clear hE
    have hne : ((n : Int) == 5) = false := by rw [beq_eq_false_iff_ne]; omega
    go_wp2_with fail
    refine (is_eno (n : Int) 5 _).mono ?_
    rintro r w2 ⟨rfl, rfl⟩
    go_wp2_with fail
    go_ret
    exact ⟨by rw [HE.out]; rfl, HP.out⟩
end Go.Proofs.YtnlkmljdcmfogaaGreatDoor
