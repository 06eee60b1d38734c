/- graph.Make's functions of a reference; graph.vars where there are none: walked. References in a map of the call's own; graph.Make's second function, walked. utf8.ValidString against the spec's characters. -/
import Derived.Test.YtnlkmljdcmfogaaGreatDoorGwE0
import Derived.Test.YtnlkmljdcmfogaaGreatDoorGwW
import Derived.Maps.OwnSet
import Derived.Maps.Views
import Derived.Maps.Keyed
import Derived.DeepKeys4
import Derived.Carry
import Derived.Test.YtnlkmljdcmfogaaGreatDoorCkLt0
import Derived.Test.YtnlkmljdcmfogaaGreatDoorCkM0
import Derived.Test.YtnlkmljdcmfogaaGreatDoorApartK
import Derived.StringKeys
import Derived.Test.YtnlkmljdcmfogaaGreatDoorProg
import Derived.Ground.NamesProg
import Derived.Test.YtnlkmljdcmfogaaGreatDoorLxA0
import Derived.Test.YtnlkmljdcmfogaaGreatDoorOwn0
import Derived.Shelf.Abstract
import Derived.Shelf.RegionOpen
import Derived.Shelf.Unicode.ValidAny
import Derived.Lib.LaidU8
import Derived.Lib.TrimUEq
namespace Go.Proofs.YtnlkmljdcmfogaaGreatDoor
open Go Go.RowKit Go.Shelf
set_option maxRecDepth 100000 in
set_option maxHeartbeats 1000000 in
theorem vars_nil (e : UInt8) (vg : Value) (w : World) : Calls Tryz.prog 37 #[.agg #[.int .u8 (e.toNat : Int), .slice none 0 0, vg], .slice none 0 0] w fun r w' => r = .returned (.tuple #[.slice none 0 0, .nilIface]) ∧ Below w.heap.size w w' := by
  have k0 := (Blk.new w 25 #[.int .u8 (e.toNat : Int), .slice none 0 0, vg]).alloc (.map #[] 0)
  have b0 := (Below.refl w.heap.size w).alloc (Nat.le_refl _) (.cells #[.int .u8 (e.toNat : Int), .slice none 0 0, vg] 25)
  have b1 := b0.alloc b0.size (.map #[] 0)
  obtain ⟨w1, h1⟩ : ∃ y, (w.alloc (.cells #[.int .u8 (e.toNat : Int), .slice none 0 0, vg] 25)).alloc (.map #[] 0) = y := ⟨_, rfl⟩
  rw [h1] at k0 b1
  have HW1 := Lib.hid h1
  have HB := Lib.hid b1
  have a1 : w1.cell? ⟨w.heap.size, 1, none⟩ = some (.slice none 0 0) := k0.cell 1
  have hmm := @run_makeMap Tryz.prog
  clear h1 b0 b1 k0
  go_enter Tryz.func37, Tryz.ntmps37
  go_upto_region 2 with fail
  rw [HW1.out]
  go_wp2_with fail
  go_loopw [20] (fun t20 wr => t20 = .int .i64 0 ∧ wr = w1) (fun _ _ => 0)
  case atStart => exact ⟨by first | rfl | trivial, by first | rfl | trivial⟩
  case round =>
    obtain ⟨rfl, rfl⟩ := hrel
    go_wp2_with fail
    go_loopw [9, 33] (fun t9 t33 wx => t9 = .slice none 0 0 ∧ t33 = .int .i64 0 ∧ wx = wr) (fun _ _ _ => 0)
    case atStart => exact ⟨by first | rfl | trivial, by first | rfl | trivial, by first | rfl | trivial⟩
    case round =>
      obtain ⟨rfl, rfl, rfl⟩ := hrel
      go_wp2_with fail
      go_ret2
      exact ⟨rfl, HB.out⟩
/-- a slice that reads as a list of cells, if it has any: in a block that is not of X. -/
def SlY (w : World) (X : Nat → Prop) (v : Value) (n : Nat) (xs : List Value) : Prop := ((∃ A c, v = .slice A 0 c ∧ (A = none → c = 0)) ∧ n = 0 ∧ xs = []) ∨ SlX w X v n xs
theorem SlY.fx {w w' : World} {X X' S : Nat → Prop} {v : Value} {n : Nat} {cs : List Value} (h : SlY w X v n cs) (k : Fx S w w') (hX : ∀ b, b < w.heap.size → S b ∨ X' b → X b) : SlY w' X' v n cs := by
  rcases h with h | h
  · exact .inl h
  · exact .inr (h.fx k hX)
theorem SlY.sl {w : World} {X : Nat → Prop} {v : Value} {n : Nat} {cs : List Value} (h : SlY w X v n cs) : SlA w v n cs := by
  rcases h with h | h
  · exact .inl h
  · exact h.sl
theorem SlY.own {w : World} {X : Nat → Prop} {v : Value} {n : Nat} {cs : List Value} {base k : Nat} {e : TypeId} (h : w.ownsRow base e k v n cs) (hX : ∀ b, base ≤ b → b < w.heap.size → ¬ X b) : SlY w X v n cs := by
  rcases Nat.eq_zero_or_pos n with h0 | h0
  · subst h0
    have hc : cs = [] := List.eq_nil_of_length_eq_zero (by have := h.1; simpa using this)
    rcases h.2 with ⟨rfl, _⟩ | ⟨g, cap, cur, rfl, _⟩
    · exact .inl ⟨⟨none, 0, rfl, fun _ => rfl⟩, rfl, hc⟩
    · exact .inl ⟨⟨_, cap, rfl, fun h => by cases h⟩, rfl, hc⟩
  · exact .inr (SlX.own h h0 hX)
/-- a node whose list is not in the block G. -/
def NdX (w : World) (G : Nat) (n : NdM) : Prop := SlY w (fun b => b = G) n.vf n.froms.length (rfC n.froms)
theorem NdX.ok {w w' : World} {G : Nat} {n : NdM} (h : NdX w G n) (k : Fx (fun b => b = G) w w') : n.Ok w' := (SlY.fx (X' := fun b => b = G) h k fun _ _ h => h.elim id id).sl
/-- what a reference marks as needed. -/
def hit (x : Nat) (r : Gw.Rf) : Bool := r.kind == 1 && r.stage == (x : Int)
set_option maxRecDepth 100000 in
set_option maxHeartbeats 1000000 in
theorem need1_any (x : Gw.Rf) (D G N : Nat) (f : Nat → Bool) (w : World) (hx : x.kind = 1 → 0 ≤ x.stage ∧ x.stage < (N : Int)) (hD : Blk w D 115 #[.slice (some ⟨G, 0, none⟩) N N]) (hG : BF w G N f) :
    Calls Tryz.prog 43 #[.agg #[.int .i64 x.kind, .int .i64 x.stage, .string (bs x.name)], .pointer (some ⟨D, 0, none⟩)] w fun e w' => e = .returned (.tuple #[]) ∧ BF w' G N (fun j => f j || hit j x) ∧ Fx (fun b => b = G) w w' := by
  obtain ⟨kd, sg, nm⟩ := x
  unfold hit
  dsimp only at hx ⊢
  have hD1 := hD.alloc (.cells #[.int .i64 kd, .int .i64 sg, .string (bs nm)] 77)
  have hG1 := hG.below ((Below.refl _ _).alloc (Nat.le_refl _) (.cells #[.int .i64 kd, .int .i64 sg, .string (bs nm)] 77)) hG.lt
  have hK := Blk.new w 77 #[.int .i64 kd, .int .i64 sg, .string (bs nm)]
  have hF : Fx (fun b => b = G) w (w.alloc (.cells #[.int .i64 kd, .int .i64 sg, .string (bs nm)] 77)) := Fx.refl.alloc _
  obtain ⟨w1, h1⟩ : ∃ y, w.alloc (.cells #[.int .i64 kd, .int .i64 sg, .string (bs nm)] 77) = y := ⟨_, rfl⟩
  rw [h1] at hD1 hG1 hK hF
  have HW1 := Lib.hid h1
  have HG := Lib.hid hG1
  have HF := Lib.hid hF
  have a0 : w1.cell? ⟨w.heap.size, 0, none⟩ = some (.int .i64 kd) := hK.cell 0
  have a1 : w1.cell? ⟨w.heap.size, 1, none⟩ = some (.int .i64 sg) := hK.cell 1
  have d0 : w1.cell? ⟨D, 0, none⟩ = some (.slice (some ⟨G, 0, none⟩) N N) := hD1.cell 0
  obtain ⟨k, hk⟩ : ∃ k, (kd == 1) = k := ⟨_, rfl⟩
  clear h1 hD hG hD1 hG1 hK hF
  go_enter Tryz.func43, Tryz.ntmps43
  go_upto_region 1 with fail
  rw [HW1.out]
  cases k with
  | false =>
    go_wp2_with fail
    go_end0
    exact ⟨rfl, HG.out.congr (fun j _ => by rw [hk, Bool.false_and, Bool.or_false]), HF.out⟩
  | true =>
    obtain ⟨h2, h3⟩ := hx (by simpa using hk)
    obtain ⟨s, rfl⟩ : ∃ s : Nat, sg = (s : Int) := ⟨sg.toNat, by omega⟩
    have hsN : s < N := by omega
    have s0 : (0 : Int) ≤ (s : Int) := by omega
    have HSET := Lib.hid (HG.out.set_ s true)
    have hcl := HG.out.cell hsN
    have hfz := HG.out.frozen s
    have HFS := Lib.hid (HF.out.trans (fx_set18 w1 G s (.bool true)))
    have HK := Lib.hid hk
    obtain ⟨bq, hbq⟩ : ∃ b, f s = b := ⟨_, rfl⟩
    rw [hbq] at hcl
    clear h2 hx hbq
    go_wp2_with fail
    go_end0
    refine ⟨rfl, HSET.out.congr (fun j _ => ?_), HFS.out⟩
    rw [HK.out, Bool.true_and]
    by_cases hj : j = s
    · subst hj; simp
    · rw [if_neg hj]
      have : ((s : Int) == (j : Int)) = false := by rw [beq_eq_false_iff_ne]; omega
      rw [this, Bool.or_false]
theorem mark_any (n : NdM) (N : Nat) (f : Nat → Bool) (D G : Nat) (w : World) (hX : NdX w G n) (hn : n.froms.length ≤ 1050000) (hr : ∀ r ∈ n.base :: n.froms, r.kind = 1 → 0 ≤ r.stage ∧ r.stage < (N : Int)) (hD : Blk w D 115 #[.slice (some ⟨G, 0, none⟩) N N]) (hDG : D ≠ G) (hG : BF w G N f) :
    Calls Tryz.prog 42 #[.agg #[.int .i64 n.base.kind, .int .i64 n.base.stage, .string (bs n.base.name), n.vf], .func (.func 43) #[] #[.pointer (some ⟨D, 0, none⟩)]] w fun e w' => e = .returned (.tuple #[]) ∧ BF w' G N (fun j => f j || (n.base :: n.froms).any (hit j)) ∧ Fx (fun b => b = G) w w' := by
  have eg : ∀ args w, (callFunc 43 args).run Tryz.prog w = .ok (.enter 43 args) w := enters_of Tryz.func43 (by kernel_rfl) rfl
  have h := each_any n 43 #[.pointer (some ⟨D, 0, none⟩)] (fun k W => BF W G N (fun j => f j || ((n.base :: n.froms).take k).any (hit j)) ∧ Fx (fun b => b = G) w W) w eg
    hn (fun k W h => hX.ok h.2) (fun k W o h => ⟨h.1.below ((Below.refl _ _).alloc (Nat.le_refl _) o) h.1.lt, h.2.alloc o⟩) ⟨hG.congr (fun j _ => by simp), Fx.refl⟩ (fun k hk W _ ⟨h1, h2⟩ => ?_)
  · refine h.mono fun e w' ⟨he, ⟨h1, h3⟩⟩ => ⟨he, ?_, h3⟩
    rw [List.take_of_length_le (by simp)] at h1
    exact h1
  · have h3 := need1_any (n.base :: n.froms)[k] D G N _ W (hr _ (List.getElem_mem hk)) (h2.blk hD hDG) h1
    refine h3.mono fun e W' ⟨he, hb, hf⟩ => ⟨he, ⟨hb.congr (fun j _ => ?_), h2.trans hf⟩, fun _ hc => hf.blk hc (by have := hG.lt; omega)⟩
    rw [List.take_succ_eq_append_getElem hk, List.any_append, List.any_cons, List.any_nil, Bool.or_false, Bool.or_assoc]
theorem refLaid : laidOutB Tryz.prog = true := by kernel_rfl
theorem refRow : (77 : TypeId) < Tryz.prog.types.size := of_decide_eq_true (by kernel_rfl)
theorem refDeep : Tryz.prog.keyTypeAt 2 77 = true := by kernel_rfl
theorem refLaw : WideMaps.KeyLaw Tryz.prog 77 := deep_law_laid refLaid (m := 2) (by omega) refRow refDeep (by rw [Tryz.underlying77])
theorem refKeyed : Maps.Keyed Tryz.prog 77 := Maps.Keyed.of_law refLaw
end Go.Proofs.YtnlkmljdcmfogaaGreatDoor
namespace Go.Proofs.YtnlkmljdcmfogaaGreatDoor
open Go Go.RowKit Go.WideMaps
def rfV (r : Gw.Rf) : Value := .agg #[.int .i64 r.kind, .int .i64 r.stage, .string (bs r.name)]
/-- the block is a map that holds references of these keys. -/
def RM (w : World) (b n : Nat) (l : List (List UInt8)) : Prop := ∃ D : DataW Unit, w.ownsMap Tryz.prog 77 (plainElem Tryz.prog 4) b n D ∧ Maps.IsMap D ∧ ∀ s : List UInt8, D.atKey (.string s) (.lit (.bool false)) = .lit (.bool (decide (s ∈ l)))
theorem RM.new (w : World) : RM (w.alloc (.map #[] 0)) w.heap.size 0 [] := ⟨.map [], World.ownsMap_made _ _ _ _, Maps.isMap_empty, fun s => by simp [DataW.atKey]⟩
theorem RM.lt {w : World} {b n : Nat} {l : List (List UInt8)} (h : RM w b n l) : b < w.heap.size := by
  obtain ⟨D, h, _⟩ := h
  exact h.lt
theorem RM.fx {w w' : World} {b n : Nat} {l : List (List UInt8)} {S : Nat → Prop} (h : RM w b n l) (k : Fx S w w') (hS : ¬ S b) : RM w' b n l := by
  have hlt := h.lt
  obtain ⟨D, ⟨es, clock, h1, r⟩, h2, h3⟩ := h
  exact ⟨D, ⟨es, clock, (k.block b hlt hS).trans h1, r⟩, h2, h3⟩
theorem bool_inv19 {P : Program} {e : TypeId} (he : P.underlying e = some .bool) {v : Value} {z : DataW Unit × List MemPlace} (h : plainElem P e v = some z) : ∃ x, v = .bool x ∧ z.1 = .lit (.bool x) := by
  unfold plainElem at h
  rw [he] at h
  cases v <;> simp at h
  exact ⟨_, rfl, by rw [← h]⟩
theorem RM.look {w : World} {b n : Nat} {l : List (List UInt8)} (h : RM w b n l) (r : Gw.Rf) (s : List UInt8) (hk : keyOf Tryz.prog 77 (rfV r) = some (.string s)) : (Instr.lookup 118 (.map (some b)) (rfV r) false).run Tryz.prog w = .ok (.bool (decide (s ∈ l))) w := by
  obtain ⟨D, h1, h2, h3⟩ := h
  obtain ⟨v, ps, hrun, hv⟩ := h1.lookup refKeyed Tryz.underlying118 (z := .bool false) (by kernel_rfl) (plainElem_bool Tryz.underlying4 false) hk
  obtain ⟨x, rfl, hx⟩ := bool_inv19 Tryz.underlying4 hv
  rw [hrun]
  have q := h3 s
  have hx' : D.atKey (.string s) (.lit (.bool false)) = .lit (.bool x) := hx
  rw [hx'] at q
  rw [Lit.bool.inj (DataW.lit.inj q)]
theorem wpList_rm {w : World} {ops : Array Oper} {rest : List Oper} {o : Oper} {a : Act} {Q : Exit → Act → World → Prop} (hg : o.guard = none) (m x v : Operand) (hop : o.op = Op.mapUpdate 118 m x v ∨ o.op = Op.insert 118 m x v)
    (b n : Nat) (l : List (List UInt8)) (hm : a.eval m = .map (some b)) (h : RM w b n l) (hn : n < 100000000000000) (r : Gw.Rf) (s : List UInt8) (hk : keyOf Tryz.prog 77 (rfV r) = some (.string s)) (hx : a.eval x = rfV r) (hv : a.eval v = .bool true)
    (hK : ∀ w', RM w' b (n + 1) (l ++ [s]) → w.grownBy w' (some b) → wpList Tryz.prog ops Q rest (a.put o.dst undef) w') : wpList Tryz.prog ops Q (o :: rest) a w := by
  obtain ⟨D, h1, h2, h3⟩ := h
  refine wpList_plain hg fun K' hK' => ?_
  obtain ⟨w', hrun, g1, g2⟩ := h1.update refKeyed Tryz.underlying118 (by unfold maxLen; omega) hk (plainElem_bool Tryz.underlying4 true)
  have hfin : K' (a.put o.dst undef) w' := by
    refine hK' _ _ (hK w' ⟨D.put (.string s) (.lit (.bool true)), g1, g1.isMap, fun d => ?_⟩ g2)
    by_cases hd : d = s
    · subst hd
      rw [show decide (d ∈ l ++ [d]) = true by simp]
      exact Maps.atKey_put_same h2 (by simp [WideAt.IsKeyLit]) _ _
    · rw [show decide (d ∈ l ++ [s]) = decide (d ∈ l) by simp [hd], ← h3 d]
      exact Maps.atKey_put_other (fun e => hd (by injection e)) _ _
  unfold Oper.wp
  rcases hop with hop | hop
  · simp [execOp, hop, hm, hx, hv, hrun, Result.andThen]
    exact hfin
  · simp [execOp, hop, hm, hx, hv, hrun, Result.andThen]
    exact hfin
/-- a reference is seen: keys, names. -/
def seeR (key : Gw.Rf → List UInt8) (st : List (List UInt8) × List (List UInt8)) (r : Gw.Rf) : List (List UInt8) × List (List UInt8) := if r.kind == 2 && !decide (key r ∈ st.1) then (st.1 ++ [key r], st.2 ++ [r.name]) else st
/-- the plan that is being made, and what was seen. -/
structure Im (w : World) (B PB SV M : Nat) (pn : Value) (tg : Int) (pd : Value) (st : List (List UInt8) × List (List UInt8)) (vi : Value) : Prop where
  sv : Blk w SV 118 #[.map (some M)]
  rm : RM w M st.1.length st.1
  p : Blk w PB 32 #[pn, .int .i64 tg, pd, vi]
  o : w.ownsRow B 9 1 vi st.2.length (sc st.2)
theorem RM.ne {w : World} {b n : Nat} {l : List (List UInt8)} (h : RM w b n l) {g : Nat} {t : TypeId} {cs : Array Value} (hg : Blk w g t cs) : g ≠ b := by
  rintro rfl
  obtain ⟨D, ⟨es, clock, h1, _⟩, _⟩ := h
  rw [show w.heap[g]? = _ from hg] at h1
  cases h1
theorem RM.own {w : World} {b n : Nat} {l : List (List UInt8)} (h : RM w b n l) {base k m : Nat} {e : TypeId} {v : Value} {xs : List Value} (ho : w.ownsRow base e k v m xs) : v.ownBlock ≠ some b := by
  intro hb
  rcases ho.2 with ⟨rfl, _⟩ | ⟨g, cap, cur, rfl, _, hg, _⟩
  · cases hb
  · obtain rfl : g = b := Option.some.inj hb
    obtain ⟨D, ⟨es, clock, h1, _⟩, _⟩ := h
    rw [hg] at h1
    cases h1
theorem Im.new {w w' : World} {B PB SV M : Nat} {pn : Value} {tg : Int} {pd : Value} {st : List (List UInt8) × List (List UInt8)} {vi : Value} (h : Im w B PB SV M pn tg pd st vi) (k : Below w.heap.size w w') : Im w' B PB SV M pn tg pd st vi :=
  ⟨h.sv.below k h.sv.lt, h.rm.fx (S := fun _ => False) (Fx.new k) (fun h => h), h.p.below k h.p.lt, own_below h.o k⟩
theorem Im.sub {w : World} {B PB SV M : Nat} {pn : Value} {tg : Int} {pd : Value} {st : List (List UInt8) × List (List UInt8)} {vi : Value} (h : Im w B PB SV M pn tg pd st vi) : SV ≠ PB ∧ SV ≠ M ∧ PB ≠ M := ⟨fun e => by
  have h1 := h.sv
  rw [e] at h1
  have h2 : w.heap[PB]? = _ := h1
  rw [show w.heap[PB]? = _ from h.p] at h2
  injection h2 with h2
  injection h2 with _ h2 _
  exact absurd h2 (by decide), h.rm.ne h.sv, h.rm.ne h.p⟩
set_option maxRecDepth 100000 in
set_option maxHeartbeats 2000000 in
theorem see_any (key : Gw.Rf → List UInt8) (x : Gw.Rf) (B PB SV M : Nat) (pn : Value) (tg : Int) (pd : Value) (st : List (List UInt8) × List (List UInt8)) (vi : Value) (w : World) (hk : x.kind = 2 → keyOf Tryz.prog 77 (rfV x) = some (.string (key x))) (hI : Im w B PB SV M pn tg pd st vi) (hB : B ≤ w.heap.size) (hM : B ≤ M) (hl1 : st.1.length ≤ 1000000) (hl2 : st.2.length ≤ 1000000) :
    Calls Tryz.prog 44 #[.agg #[.int .i64 x.kind, .int .i64 x.stage, .string (bs x.name)], .pointer (some ⟨SV, 0, none⟩), .pointer (some ⟨PB, 0, none⟩)] w fun e w' => e = .returned (.tuple #[]) ∧ (∃ vi', Im w' B PB SV M pn tg pd (seeR key st x) vi') ∧ Fx (fun b => b = PB ∨ B ≤ b) w w' ∧ ∀ g t cs, t ≠ 32 → t ≠ 9 → Blk w g t cs → Blk w' g t cs := by
  obtain ⟨kd, sg, nm⟩ := x
  unfold seeR
  dsimp only at hk ⊢
  have b0 := (Below.refl w.heap.size w).alloc (Nat.le_refl _) (.cells #[.int .i64 kd, .int .i64 sg, .string (bs nm)] 77)
  have k0 := Blk.new w 77 #[.int .i64 kd, .int .i64 sg, .string (bs nm)]
  have HI1 := Lib.hid (hI.new b0)
  obtain ⟨w1, h1⟩ : ∃ y, w.alloc (.cells #[.int .i64 kd, .int .i64 sg, .string (bs nm)] 77) = y := ⟨_, rfl⟩
  rw [h1] at b0 k0 HI1
  have HW1 := Lib.hid h1
  have HB1 := Lib.hid b0
  have HK1 := Lib.hid k0
  have a0 : w1.cell? ⟨w.heap.size, 0, none⟩ = some (.int .i64 kd) := k0.cell 0
  have a1 : w1.cell? ⟨w.heap.size, 1, none⟩ = some (.int .i64 sg) := k0.cell 1
  have a2 : w1.cell? ⟨w.heap.size, 2, none⟩ = some (.string (bs nm)) := k0.cell 2
  have s0 : w1.cell? ⟨SV, 0, none⟩ = some (.map (some M)) := HI1.out.sv.cell 0
  obtain ⟨k, hkk⟩ : ∃ k, (kd == 2) = k := ⟨_, rfl⟩
  obtain ⟨q, hq⟩ : ∃ q, decide (key ⟨kd, sg, nm⟩ ∈ st.1) = q := ⟨_, rfl⟩
  rw [hkk, hq]
  clear h1 b0 k0 hI
  go_enter Tryz.func44, Tryz.ntmps44
  go_upto_region 1 with fail
  rw [HW1.out]
  clear HW1
  cases k with
  | false =>
    go_wp2_with fail
    go_end0
    exact ⟨rfl, ⟨vi, HI1.out⟩, Fx.new HB1.out, fun g t cs _ _ hg => hg.below HB1.out hg.lt⟩
  | true =>
    have hkey := hk (by simpa using hkk)
    have hlk := HI1.out.rm.look ⟨kd, sg, nm⟩ _ hkey
    unfold rfV at hlk
    dsimp only at hlk
    rw [hq] at hlk
    have HKEY := Lib.hid hkey
    clear hkey hk hq
    cases q with
    | true =>
      go_wp2_with fail
      go_end0
      exact ⟨rfl, ⟨vi, HI1.out⟩, Fx.new HB1.out, fun g t cs _ _ hg => hg.below HB1.out hg.lt⟩
    | false =>
      go_upto_region 3 with (refine wpList_rm rfl _ _ _ (.inl rfl) M st.1.length st.1 rfl HI1.out.rm (by omega) ⟨kd, sg, nm⟩ (key ⟨kd, sg, nm⟩) HKEY.out rfl rfl ?_; intro w2 hr2 hg2)
      have f2 := Fx.of_grown hg2
      have hsub := HI1.out.sub
      have HS2 := Lib.hid (f2.blk HI1.out.sv (by show ¬ some M = some SV; exact fun h => hsub.2.1 (Option.some.inj h).symm))
      have HP2 := Lib.hid (f2.blk HI1.out.p (by show ¬ some M = some PB; exact fun h => hsub.2.2 (Option.some.inj h).symm))
      have HO2 := Lib.hid (f2.own HI1.out.o (fun g h1 h2 => HI1.out.rm.own HI1.out.o (h1.trans (by rw [← h2]))))
      have HX2 := Lib.hid (f2.blk HK1.out (by show ¬ some M = some w.heap.size; exact fun h => HI1.out.rm.ne HK1.out (Option.some.inj h).symm))
      have HR2 := Lib.hid hr2
      have HF2 := Lib.hid f2
      have hz2 := f2.size
      have hz1 := HB1.out.size
      have hfr : some M ≠ some w.heap.size := fun h => HI1.out.rm.ne HK1.out (Option.some.inj h).symm
      have x2 : w2.cell? ⟨w.heap.size, 2, none⟩ = some (.string (bs nm)) := HX2.out.cell 2
      have p3 : w2.cell? ⟨PB, 3, none⟩ = some vi := HP2.out.cell 3
      have hBw : B ≤ w1.heap.size := by omega
      obtain ⟨Ai, ci, rfl⟩ := ownk_form HO2.out
      have kA := (Below.refl w2.heap.size w2).alloc (Nat.le_refl _) (.cells #[.string (bs nm)] 9)
      have HPA := Lib.hid (HP2.out.below kA HP2.out.lt)
      clear a0 a1 a2 s0 hlk hr2 hg2 f2 hsub hfr
      go_wp2_with (at_builtin; refine wpList_appk rfl _ _ _ rfl strT B _ _ _ rfl (HO2.out.alloc _) _ _ _ [.string (bs nm)] rfl rfl (news_at _ _ rfl _ _) (by simp [Value.oneCell']) (by omega) (by omega) (Below.refl _ _) (by rw [World.size_alloc]; omega) ?_; intro v1 w3 ho3 hb3 hg3 hat3; have hP3 := (Fx.of_grown hg3).blk HPA.out (fun h => Ak.blk_ne HO2.out HP2.out (by decide) h.symm); have y3 : w3.cell? ⟨PB, 3, none⟩ = some (.slice Ai st.2.length ci) := hP3.cell 3; have yf := hP3.frozen 3; obtain ⟨B1, q1, rfl⟩ := ownk_form ho3)
      have ka : Fx (fun _ => False) w2 (w2.alloc (.cells #[.string (bs nm)] 9)) := Fx.new kA
      have f3 := Fx.of_grown hg3
      have f4 := fx_set18 w3 PB 3 (.slice B1 (st.2.length + 1) q1)
      have hsub := HI1.out.sub
      have rA := HR2.out.fx ka (fun h => h)
      have r3 := rA.fx f3 (fun h => rA.own (HO2.out.alloc _) h)
      have sA := HS2.out.alloc (.cells #[.string (bs nm)] 9)
      have s3 := f3.blk sA (fun h => Ak.blk_ne (HO2.out.alloc (.cells #[.string (bs nm)] 9)) sA (by decide) h.symm)
      have hne : ∀ g t cs, t ≠ 32 → Blk w3 g t cs → g ≠ PB := fun g t cs ht h1 e => by
        rw [e] at h1
        have h2 : w3.heap[PB]? = _ := h1
        rw [show w3.heap[PB]? = _ from hP3] at h2
        injection h2 with h2
        injection h2 with _ h2 _
        exact ht h2.symm
      go_end0
      refine ⟨rfl, ⟨.slice B1 (st.2.length + 1) q1, ⟨f4.blk s3 hsub.1, by rw [List.length_append]; exact r3.fx f4 (fun h => hsub.2.2 h.symm), hP3.set_ 3 _, by rw [List.length_append, sc_snoc]; exact f4.own ho3 (fun g h1 h2 => Ak.blk_ne ho3 hP3 (by decide) (by rw [h1, h2]))⟩⟩, ?_, fun g t cs ht1 ht2 hg => ?_⟩
      · have t1 : Fx (fun b => b = PB ∨ B ≤ b) w w1 := Fx.new HB1.out
        have t2 : Fx (fun b => b = PB ∨ B ≤ b) w1 w2 := HF2.out.mono (fun b _ h => .inr (by have : M = b := Option.some.inj h; omega))
        have t3 : Fx (fun b => b = PB ∨ B ≤ b) w2 (w2.alloc (.cells #[.string (bs nm)] 9)) := Fx.new kA
        have t4 : Fx (fun b => b = PB ∨ B ≤ b) (w2.alloc (.cells #[.string (bs nm)] 9)) w3 := f3.mono (fun b _ h => .inr (HO2.out.lt b h).1)
        have t5 : Fx (fun b => b = PB ∨ B ≤ b) w3 (w3.setCell ⟨PB, 3, none⟩ (.slice B1 (st.2.length + 1) q1)) := f4.mono (fun b _ h => .inl h)
        exact t1.trans (t2.trans (t3.trans (t4.trans t5)))
      · have g1 := hg.below HB1.out hg.lt
        have g2 := HF2.out.blk g1 (fun h => HI1.out.rm.ne g1 (Option.some.inj h).symm)
        have g3 := f3.blk (g2.alloc (.cells #[.string (bs nm)] 9)) (fun h => Ak.blk_ne (HO2.out.alloc (.cells #[.string (bs nm)] 9)) (g2.alloc (.cells #[.string (bs nm)] 9)) (Ne.symm ht2) h.symm)
        exact f4.blk g3 (hne g t cs ht1 g3)
/-- what a node's references are seen as. -/
theorem collect_any (key : Gw.Rf → List UInt8) (n : NdM) (B PB SV M : Nat) (pn : Value) (tg : Int) (pd : Value) (st : List (List UInt8) × List (List UInt8)) (vi : Value) (w : World) (hk : ∀ r ∈ n.base :: n.froms, r.kind = 2 → keyOf Tryz.prog 77 (rfV r) = some (.string (key r))) (hX : SlY w (fun b => b = PB ∨ B ≤ b) n.vf n.froms.length (rfC n.froms)) (hn : n.froms.length ≤ 10000) (hI : Im w B PB SV M pn tg pd st vi) (hB : B ≤ w.heap.size) (hM : B ≤ M) (hl1 : st.1.length ≤ 900000) (hl2 : st.2.length ≤ 900000) :
    Calls Tryz.prog 42 #[.agg #[.int .i64 n.base.kind, .int .i64 n.base.stage, .string (bs n.base.name), n.vf], .func (.func 44) #[] #[.pointer (some ⟨SV, 0, none⟩), .pointer (some ⟨PB, 0, none⟩)]] w fun e w' => e = .returned (.tuple #[]) ∧ (∃ vi', Im w' B PB SV M pn tg pd ((n.base :: n.froms).foldl (seeR key) st) vi') ∧ Fx (fun b => b = PB ∨ B ≤ b) w w' ∧ ∀ g t cs, t ≠ 32 → t ≠ 9 → Blk w g t cs → Blk w' g t cs := by
  have eg : ∀ args w, (callFunc 44 args).run Tryz.prog w = .ok (.enter 44 args) w := enters_of Tryz.func44 (by kernel_rfl) rfl
  have hgrow : ∀ (l : List Gw.Rf) (s0 : List (List UInt8) × List (List UInt8)), (l.foldl (seeR key) s0).1.length ≤ s0.1.length + l.length ∧ (l.foldl (seeR key) s0).2.length ≤ s0.2.length + l.length := by
    intro l
    induction l with
    | nil => exact fun s0 => ⟨by simp, by simp⟩
    | cons r l ih =>
      intro s0
      have h := ih (seeR key s0 r)
      have h2 : (seeR key s0 r).1.length ≤ s0.1.length + 1 ∧ (seeR key s0 r).2.length ≤ s0.2.length + 1 := by
        unfold seeR
        split
        · simp
        · omega
      simp only [List.foldl_cons, List.length_cons]
      omega
  have h := each_any n 44 #[.pointer (some ⟨SV, 0, none⟩), .pointer (some ⟨PB, 0, none⟩)] (fun k W => (∃ vi', Im W B PB SV M pn tg pd (((n.base :: n.froms).take k).foldl (seeR key) st) vi') ∧ Fx (fun b => b = PB ∨ B ≤ b) w W ∧ ∀ g t cs, t ≠ 32 → t ≠ 9 → Blk w g t cs → Blk W g t cs) w eg
    (by omega) (fun k W h => (SlY.fx (X' := fun b => b = PB ∨ B ≤ b) hX h.2.1 (fun _ _ h => h.elim id id)).sl) (fun k W o h => ⟨⟨h.1.choose, h.1.choose_spec.new ((Below.refl _ _).alloc (Nat.le_refl _) o)⟩, h.2.1.alloc o, fun g t cs a b hg => (h.2.2 g t cs a b hg).alloc o⟩) ⟨⟨vi, hI⟩, Fx.refl, fun g t cs _ _ hg => hg⟩ (fun k hk2 W _ ⟨⟨vk, h1⟩, h2, h4⟩ => ?_)
  · refine h.mono fun e w' ⟨he, ⟨h1, h3⟩⟩ => ⟨he, ?_, h3⟩
    rw [List.take_of_length_le (by simp)] at h1
    exact h1
  · have hb := hgrow ((n.base :: n.froms).take k) st
    have hlt : ((n.base :: n.froms).take k).length ≤ n.froms.length + 1 := by rw [List.length_take, List.length_cons]; omega
    have h3 := see_any key (n.base :: n.froms)[k] B PB SV M pn tg pd _ vk W (hk _ (List.getElem_mem hk2)) h1 (Nat.le_trans hB h2.size) hM (by omega) (by omega)
    refine h3.mono fun e W' ⟨he, hb, hf, hnd⟩ => ⟨he, ⟨?_, h2.trans hf, fun g t cs a b hg => hnd g t cs a b (h4 g t cs a b hg)⟩, fun cs hc => hnd _ _ cs (by decide) (by decide) hc⟩
    rw [List.take_succ_eq_append_getElem hk2, List.foldl_append]
    exact hb
end Go.Proofs.YtnlkmljdcmfogaaGreatDoor
namespace Go.Proofs.YtnlkmljdcmfogaaGreatDoor
open Go Go.RowKit Go.Shelf
def Tryz.lays196_ren : Go.Shelf.Ren := ⟨fun | 196 => 111 | 259 => 180 | n => n, fun | 9 => 9 | 4 => 4 | 3 => 3 | 5 => 5 | 12 => 12 | 119 => 311 | 0 => 0 | 46 => 277 | 139 => 314 | 138 => 313 | 53 => 342 | n => n, fun | 3 => 1 | 4 => 2 | n => n⟩
theorem Tryz.lays196 : Go.Proofs.Lays.n196 Tryz.prog Tryz.lays196_ren := {
  mixed := by kernel_rfl
  f196 := Tryz.func111.trans (congrArg some (by kernel_rfl))
  f259 := Tryz.func180.trans (congrArg some (by kernel_rfl))
  t0 := Tryz.underlying0
  a0 := Tryz.isAgg0
  z0 := Tryz.sizeOf0
  v0 := Tryz.zeroValue0
  t3 := Tryz.underlying3
  a3 := Tryz.isAgg3
  z3 := Tryz.sizeOf3
  v3 := Tryz.zeroValue3
  t4 := Tryz.underlying4
  a4 := Tryz.isAgg4
  z4 := Tryz.sizeOf4
  v4 := Tryz.zeroValue4
  t5 := Tryz.underlying5
  a5 := Tryz.isAgg5
  z5 := Tryz.sizeOf5
  v5 := Tryz.zeroValue5
  t9 := Tryz.underlying9
  a9 := Tryz.isAgg9
  z9 := Tryz.sizeOf9
  v9 := Tryz.zeroValue9
  t12 := Tryz.underlying12
  a12 := Tryz.isAgg12
  z12 := Tryz.sizeOf12
  v12 := Tryz.zeroValue12
  t46 := Tryz.underlying277
  a46 := Tryz.isAgg277
  z46 := Tryz.sizeOf277
  v46 := Tryz.zeroValue277
  t53 := Tryz.underlying342
  a53 := Tryz.isAgg342
  z53 := Tryz.sizeOf342
  v53 := Tryz.zeroValue342
  t119 := Tryz.underlying311
  a119 := Tryz.isAgg311
  z119 := Tryz.sizeOf311
  t138 := Tryz.underlying313
  a138 := Tryz.isAgg313
  z138 := Tryz.sizeOf313
  v138 := Tryz.zeroValue313
  t139 := Tryz.underlying314
  a139 := Tryz.isAgg314
  z139 := Tryz.sizeOf314
  v139 := Tryz.zeroValue314
  g3 := by kernel_rfl
  g4 := by kernel_rfl }

set_option maxRecDepth 100000 in
set_option maxHeartbeats 4000000 in
theorem charN_dec (n b0 b1 b2 b3 : Nat) (h0 : b0 < 256) (h1 : b1 < 256) (h2 : b2 < 256) (h3 : b3 < 256) :
    (Lx.charN n b0 b1 b2 b3 = 0 ∧ Lib.decodeN n b0 b1 b2 b3 = (65533, 1)) ∨ (Lx.charN n b0 b1 b2 b3 = (Lib.decodeN n b0 b1 b2 b3).2 ∧ 1 ≤ (Lib.decodeN n b0 b1 b2 b3).2 ∧ ¬ ((Lib.decodeN n b0 b1 b2 b3).1 = 65533 ∧ (Lib.decodeN n b0 b1 b2 b3).2 = 1)) := by
  unfold Lx.charN Lib.decodeN
  repeat' split
  all_goals first
    | (left; exact ⟨rfl, rfl⟩)
    | (exfalso; omega)
    | (right; refine ⟨rfl, by simp only; omega, fun h => ?_⟩; have h5 := h.1; have h6 := h.2; simp only at h5 h6; omega)
theorem valid_some : ∀ (n : Nat) (s : List UInt8) (i line f : Nat), s.length ≤ n → (Lx.wrongL s 0 i line f).isSome = !Lib.validGoD n s
  | n, [], i, line, f, _ => by
    rw [Lx.wrongL]
    cases n with
    | zero => rfl
    | succ n => rw [Lib.validGoD, if_pos rfl]; rfl
  | 0, c :: r, _, _, _, h => absurd h (by simp)
  | n + 1, c :: r, i, line, f, h => by
    have hd := charN_dec (c :: r).length ((c :: r).getD 0 0).toNat ((c :: r).getD 1 0).toNat ((c :: r).getD 2 0).toNat ((c :: r).getD 3 0).toNat (UInt8.toNat_lt _) (UInt8.toNat_lt _) (UInt8.toNat_lt _) (UInt8.toNat_lt _)
    rw [← Lib.decodeL_N, show Lx.charN (c :: r).length ((c :: r).getD 0 0).toNat ((c :: r).getD 1 0).toNat ((c :: r).getD 2 0).toNat ((c :: r).getD 3 0).toNat = Lx.charLen (c :: r) from rfl] at hd
    rw [Lib.validGoD, if_neg (List.cons_ne_nil c r), Lx.wrongL]
    rcases hd with ⟨h1, h2⟩ | ⟨h1, h2, h3⟩
    · rw [h1, h2, if_pos (And.intro rfl rfl)]; rfl
    · rw [if_neg h3]
      obtain ⟨k, hk⟩ : ∃ k, (Lib.decodeL (c :: r)).2 = k + 1 := ⟨_, (Nat.sub_add_cancel h2).symm⟩
      rw [h1, hk]
      simp only
      rw [Lx.wrongL_skip, List.drop_succ_cons]
      exact valid_some n _ _ _ _ (by rw [List.length_drop]; simp only [List.length_cons] at h; omega)
theorem bad_valid (s : List UInt8) : Lib.validD s = !Ck.badT s := by
  unfold Ck.badT Lib.validD
  rw [valid_some s.length s 0 1 0 (Nat.le_refl _), Bool.not_not]
/-- Go's two tables of UTF-8 stand as the program's text lays them. -/
def Tabs (w : World) : Prop := Lib.Utf8Tabs 1 2 w
theorem Tabs.new {w w' : World} (h : Tabs w) (hb : Below w.heap.size w w') : Tabs w' := by
  obtain ⟨h1, h2⟩ := h
  refine ⟨fun c hc => ?_, fun i hi => ⟨?_, ?_⟩⟩
  · have h := h1 c hc
    exact (hb.cell (p := ⟨_, c, none⟩) (World.block_lt_of_cell? w _ h)).trans h
  · have h := (h2 i hi).1
    exact (hb.cell (p := ⟨_, 2 * i, none⟩) (World.block_lt_of_cell? w _ h)).trans h
  · have h := (h2 i hi).2
    exact (hb.cell (p := ⟨_, 2 * i + 1, none⟩) (World.block_lt_of_cell? w _ h)).trans h
theorem valid_any (s : List UInt8) (w : World) (hs : s.length ≤ 9223372036854775807) (hT : Tabs w) {b : Bool} (H : Hid (Ck.badT s = b)) : Calls Tryz.prog 111 #[.string (bs s)] w fun e w' => e = .returned (.bool (!b)) ∧ Below w.heap.size w w' := by
  have h := Any.utf8_ValidString Tryz.lays196 (bs s) w (by rw [bs_size]; exact hs) hT
  rw [show (bs s).data.toList = s from rfl, bad_valid, H.out] at h
  exact h
end Go.Proofs.YtnlkmljdcmfogaaGreatDoor
