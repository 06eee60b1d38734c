/- What stays of a tree, plain; counts in a map of the call's own; entries in memory. -/
import Derived.Test.YtdjfakampjbgeaaGreatDoorGoF
import Derived.Maps.OwnSet
import Derived.Maps.Views
import Derived.StringKeys
namespace Go.Proofs.YtdjfakampjbgeaaGreatDoor
open Go Go.RowKit Go.WideMaps

/-- an entry. -/
structure En where
  path : List UInt8
  kind : Int
  mode : Int
  data : List UInt8
  link : List UInt8
  deriving DecidableEq
def enC (x : En) : Array Value := #[.string (bs x.path), .int .i64 x.kind, .int .i64 x.mode, .string (bs x.data), .string (bs x.link)]
def enL (x : En) : List Value := [.string (bs x.path), .int .i64 x.kind, .int .i64 x.mode, .string (bs x.data), .string (bs x.link)]
/-- the cells of entries. -/
def enCs (es : List En) : List Value := es.flatMap enL
theorem enCs_snoc (es : List En) (x : En) : enCs (es ++ [x]) = enCs es ++ enL x := by simp [enCs]
theorem enCs_at : ∀ (es : List En) (i : Nat) (hi : i < es.length) (k : Nat) (_ : k < 5), (enCs es)[i * 5 + k]? = (enL es[i])[k]?
  | [], _, h, _, _ => absurd h (by simp)
  | x :: es, 0, _, k, hk => by
    have e : enCs (x :: es) = enL x ++ enCs es := rfl
    rw [e, Nat.zero_mul, Nat.zero_add, List.getElem?_append_left (show k < 5 from hk)]
    rfl
  | x :: es, i + 1, h, k, hk => by
    have ih := enCs_at es i (by simpa using h) k hk
    have e : enCs (x :: es) = enL x ++ enCs es := rfl
    rw [e, List.getElem?_append_right (by simp [enL]; omega), show (i + 1) * 5 + k - (enL x).length = i * 5 + k by simp [enL]; omega, ih]
    rfl
/-- entries in memory. -/
def RE (w : World) (S : Nat → Prop) (v : Value) (es : List En) : Prop := RC w S v es.length (enCs es)
theorem RE.form {w : World} {S : Nat → Prop} {v : Value} {es : List En} (h : RE w S v es) : ∃ A c, v = .slice A es.length c := by
  obtain ⟨A, c, e, _⟩ := h
  exact ⟨A, c, e⟩
theorem RE.below {w w' : World} {S : Nat → Prop} {v : Value} {es : List En} (h : RE w S v es) (hb : Below w.heap.size w w') : RE w' S v es := RC.below h hb
theorem RE.at_ {w : World} {S : Nat → Prop} {v : Value} {es : List En} (h : RE w S v es) {j : Nat} (hj : j < es.length) : ∃ g o c, v = .slice (some ⟨g, o, none⟩) es.length c ∧ w.cell? ⟨g, o + j * 5, none⟩ = some (.string (bs es[j].path)) ∧ w.cell? ⟨g, o + j * 5 + 1, none⟩ = some (.int .i64 es[j].kind) ∧
    w.cell? ⟨g, o + j * 5 + 2, none⟩ = some (.int .i64 es[j].mode) ∧ w.cell? ⟨g, o + j * 5 + 3, none⟩ = some (.string (bs es[j].data)) ∧ w.cell? ⟨g, o + j * 5 + 4, none⟩ = some (.string (bs es[j].link)) ∧ S g := by
  obtain ⟨A, c, rfl, hc⟩ := h
  have e0 := (enCs_at es j hj 0 (by omega)).trans (show _ = some (.string (bs es[j].path)) from rfl)
  have e1 := (enCs_at es j hj 1 (by omega)).trans (show _ = some (.int .i64 es[j].kind) from rfl)
  have e2 := (enCs_at es j hj 2 (by omega)).trans (show _ = some (.int .i64 es[j].mode) from rfl)
  have e3 := (enCs_at es j hj 3 (by omega)).trans (show _ = some (.string (bs es[j].data)) from rfl)
  have e4 := (enCs_at es j hj 4 (by omega)).trans (show _ = some (.string (bs es[j].link)) from rfl)
  obtain ⟨g, o, rfl, hs, d0⟩ := hc _ _ e0
  have fix : ∀ {k : Nat} {u : Value}, (enCs es)[j * 5 + k]? = some u → w.cell? ⟨g, o + (j * 5 + k), none⟩ = some u := fun hu => by
    obtain ⟨g', o', e, _, d⟩ := hc _ _ hu
    injection e with e
    injection e with q1 q2
    subst q1 q2
    exact d
  exact ⟨g, o, c, rfl, d0, by rw [Nat.add_assoc]; exact fix e1, by rw [Nat.add_assoc]; exact fix e2, by rw [Nat.add_assoc]; exact fix e3, by rw [Nat.add_assoc]; exact fix e4, hs⟩
theorem entryK : ElemK Tryz.prog 22 38 (.agg #[.string ⟨#[]⟩, .int .i64 0, .int .i64 0, .string ⟨#[]⟩, .string ⟨#[]⟩]) 5 64 := ⟨Tryz.underlying22, by kernel_rfl, rfl, by decide⟩

namespace Gl
/-- is a path below another? -/
def belowP (d p : List UInt8) : Bool := if d = [] then !p.isEmpty else (d ++ [47]).isPrefixOf p
def inB (rs : List Rl) (x : En) : Bool := !outL rs (namesL x.path)
def stayB (rs : List Rl) (es : List En) (x : En) : Bool := inB rs x || es.any fun y => inB rs y && belowP x.path y.path
/-- what stays of a tree. -/
def keepL (rs : List Rl) (es : List En) : List En := es.filter (stayB rs es)
theorem below_iff {d p : List UInt8} (hd : d ≠ []) : belowP d p = true ↔ ∃ j, j < p.length ∧ p[j]? = some 47 ∧ d = p.take j := by
  rw [belowP, if_neg hd, List.isPrefixOf_iff_prefix]
  constructor
  · rintro ⟨r, e⟩
    refine ⟨d.length, ?_, ?_, ?_⟩
    · rw [← e]; simp only [List.length_append, List.length_cons, List.length_nil]; omega
    · rw [← e]; simp
    · rw [← e]; simp
  · rintro ⟨j, hj, h47, e⟩
    refine ⟨p.drop (j + 1), ?_⟩
    have hc : p[j] = 47 := by
      rw [List.getElem?_eq_getElem hj] at h47
      exact Option.some.inj h47
    calc d ++ [47] ++ p.drop (j + 1) = p.take j ++ (p[j] :: p.drop (j + 1)) := by rw [e, hc, List.append_assoc]; rfl
      _ = p := by rw [List.getElem_cons_drop, List.take_append_drop]
/-- the texts that one path counts, k bytes of it seen. -/
def Seen (p : List UInt8) (k : Nat) (d : List UInt8) : Prop := d = [] ∨ ∃ j, j < k ∧ p[j]? = some 47 ∧ d = p.take j
theorem seen_all {p : List UInt8} (hp : p ≠ []) (d : List UInt8) : Seen p p.length d ↔ belowP d p = true := by
  by_cases hd : d = []
  · subst hd
    rw [belowP, if_pos rfl]
    cases p with
    | nil => exact absurd rfl hp
    | cons _ _ => simp [Seen]
  · rw [below_iff hd]
    simp [Seen, hd]
theorem seen_succ_yes {p : List UInt8} {k : Nat} (h : p[k]? = some 47) (d : List UInt8) : Seen p (k + 1) d ↔ Seen p k d ∨ d = p.take k := by
  constructor
  · rintro (e | ⟨j, hj, h2, e⟩)
    · exact .inl (.inl e)
    · by_cases hjk : j = k
      · subst hjk; exact .inr e
      · exact .inl (.inr ⟨j, by omega, h2, e⟩)
  · rintro ((e | ⟨j, hj, h2, e⟩) | e)
    · exact .inl e
    · exact .inr ⟨j, by omega, h2, e⟩
    · exact .inr ⟨k, by omega, h, e⟩
theorem seen_succ_no {p : List UInt8} {k : Nat} (h : p[k]? ≠ some 47) (d : List UInt8) : Seen p (k + 1) d ↔ Seen p k d := by
  constructor
  · rintro (e | ⟨j, hj, h2, e⟩)
    · exact .inl e
    · by_cases hjk : j = k
      · subst hjk; exact absurd h2 h
      · exact .inr ⟨j, by omega, h2, e⟩
  · rintro (e | ⟨j, hj, h2, e⟩)
    · exact .inl e
    · exact .inr ⟨j, by omega, h2, e⟩
/-- what the first entries count. -/
def Ov (rs : List Rl) (es : List En) (i : Nat) (d : List UInt8) : Prop := ∃ y ∈ es.take i, inB rs y = true ∧ belowP d y.path = true
theorem ov_zero (rs : List Rl) (es : List En) (d : List UInt8) : ¬ Ov rs es 0 d := by rintro ⟨y, hy, _⟩; simp at hy
theorem below_nil (d : List UInt8) : belowP d [] = false := by
  unfold belowP
  split
  · rfl
  · cases d <;> rfl
theorem ov_skip {rs : List Rl} {es : List En} {i : Nat} (hi : i < es.length) (h : inB rs es[i] = false ∨ es[i].path = []) (d : List UInt8) : Ov rs es (i + 1) d ↔ Ov rs es i d := by
  constructor
  · rintro ⟨y, hy, h1, h2⟩
    rw [List.take_add_one, List.getElem?_eq_getElem hi] at hy
    rcases List.mem_append.1 hy with hy | hy
    · exact ⟨y, hy, h1, h2⟩
    · rw [Option.toList_some, List.mem_singleton] at hy
      subst hy
      rcases h with h | h
      · rw [h] at h1; cases h1
      · rw [h, below_nil] at h2; cases h2
  · rintro ⟨y, hy, h1, h2⟩
    exact ⟨y, by rw [List.take_add_one]; exact List.mem_append_left _ hy, h1, h2⟩
theorem ov_add {rs : List Rl} {es : List En} {i : Nat} (hi : i < es.length) (h : inB rs es[i] = true) (hp : es[i].path ≠ []) (d : List UInt8) : Ov rs es (i + 1) d ↔ Ov rs es i d ∨ Seen es[i].path es[i].path.length d := by
  rw [seen_all hp]
  constructor
  · rintro ⟨y, hy, h1, h2⟩
    rw [List.take_add_one, List.getElem?_eq_getElem hi] at hy
    rcases List.mem_append.1 hy with hy | hy
    · exact .inl ⟨y, hy, h1, h2⟩
    · rw [Option.toList_some, List.mem_singleton] at hy
      subst hy
      exact .inr h2
  · rintro (⟨y, hy, h1, h2⟩ | h2)
    · exact ⟨y, by rw [List.take_add_one]; exact List.mem_append_left _ hy, h1, h2⟩
    · exact ⟨es[i], by rw [List.take_add_one, List.getElem?_eq_getElem hi]; exact List.mem_append_right _ (by simp), h, h2⟩
theorem stay_iff (rs : List Rl) (es : List En) (x : En) : stayB rs es x = true ↔ inB rs x = true ∨ Ov rs es es.length x.path := by
  rw [stayB, Bool.or_eq_true, List.any_eq_true, Ov, List.take_length]
  simp only [Bool.and_eq_true]
end Gl

/-- block b counts texts: f. -/
def CM (w : World) (b n : Nat) (f : List UInt8 → Int) : Prop := ∃ D : DataW Unit, w.ownsMap Tryz.prog 9 (plainElem Tryz.prog 3) b n D ∧ Maps.IsMap D ∧ ∀ s : List UInt8, D.atKey (.string s) (.lit (.int .i64 0)) = .lit (.int .i64 (f s))
theorem CM.new (w : World) : CM (w.alloc (.map #[] 0)) w.heap.size 0 (fun _ => 0) := ⟨.map [], World.ownsMap_made _ _ _ _, Maps.isMap_empty, fun _ => rfl⟩
theorem CM.lt {w : World} {b n : Nat} {f : List UInt8 → Int} (h : CM w b n f) : b < w.heap.size := by
  obtain ⟨D, h, _⟩ := h
  exact h.lt
theorem CM.kept {w w' : World} {b n : Nat} {f : List UInt8 → Int} {row : Option Nat} (h : CM w b n f) (hg : w.grownBy w' row) (hne : some b ≠ row) : CM w' b n f := by
  obtain ⟨D, h1, h2, h3⟩ := h
  exact ⟨D, h1.kept hg hne, h2, h3⟩
theorem CM.look {w : World} {b n : Nat} {f : List UInt8 → Int} (h : CM w b n f) (s : List UInt8) (hs : s.length ≤ 2000000) : (Instr.lookup 68 (.map (some b)) (.string (bs s)) false).run Tryz.prog w = .ok (.int .i64 (f s)) w := by
  obtain ⟨D, h1, h2, h3⟩ := h
  obtain ⟨c, hrun, hat, _⟩ := h1.lookup_int (Maps.string_keyed Tryz.underlying9) Tryz.underlying68 Tryz.underlying3 (by kernel_rfl) (keyOf_string_mk Tryz.underlying9 (s := bs s) (by rw [bs_size]; unfold maxLen; omega))
  have e : (bs s).data.toList = s := bl_bs s
  rw [e, h3 s] at hat
  have q := (Lit.int.inj (DataW.lit.inj hat)).2
  rw [q]
  exact hrun
theorem wpList_cm {w : World} {ops : Array Oper} {rest : List Oper} {o : Oper} {a : Act} {Q : Exit → Act → World → Prop} (hg : o.guard = none) (m x v : Operand) (hop : o.op = Op.mapUpdate 68 m x v)
    (b n : Nat) (f : List UInt8 → Int) (hm : a.eval m = .map (some b)) (h : CM w b n f) (hn : n < 100000000000000) (s : List UInt8) (c : Int) (hx : a.eval x = .string (bs s)) (hv : a.eval v = .int .i64 c) (hs : s.length ≤ 2000000) (hc : 0 ≤ c ∧ c ≤ 100000000000000)
    (hK : ∀ w', CM w' b (n + 1) (fun d => if d = s then c else f d) → w.grownBy w' (some b) → wpList Tryz.prog ops Q rest (a.put o.dst undef) w') : wpList Tryz.prog ops Q (o :: rest) a w := by
  obtain ⟨D, h1, h2, h3⟩ := h
  have e : (bs s).data.toList = s := bl_bs s
  refine wpList_mapUpdate_own w hg m x v _ hop 9 3 (Maps.string_keyed Tryz.underlying9) Tryz.underlying68 _ b n D hm h1 (by unfold maxLen; omega) _ _ (.string s) hx hv (by
    have := keyOf_string_mk (P := Tryz.prog) Tryz.underlying9 (s := bs s) (by rw [bs_size]; unfold maxLen; omega)
    rwa [e] at this) (.lit (.int .i64 c)) [] (plainElem_int Tryz.underlying3 (by
      simp only [Lit.wf, Bool.and_eq_true, decide_eq_true_eq]
      have q1 : IntKind.i64.min = -9223372036854775808 := rfl
      have q2 : IntKind.i64.max = 9223372036854775807 := rfl
      omega)) ?_
  intro w' g1 g2
  refine hK w' ⟨D.put (.string s) (.lit (.int .i64 c)), g1, g1.isMap, fun d => ?_⟩ g2
  by_cases hd : d = s
  · subst hd
    show _ = DataW.lit (.int .i64 (if d = d then c else f d))
    rw [if_pos rfl]
    exact Maps.atKey_put_same h2 (by simp [WideAt.IsKeyLit]) _ _
  · show _ = DataW.lit (.int .i64 (if d = s then c else f d))
    rw [if_neg hd, ← h3 d]
    exact Maps.atKey_put_other (fun e => hd (by injection e)) _ _
end Go.Proofs.YtdjfakampjbgeaaGreatDoor
/- (*glob.List).Keep, walked. -/
namespace Go.Proofs.YtdjfakampjbgeaaGreatDoor
open Go Go.RowKit

/-- is the entry at i in? -/
def inN (rs : List Gl.Rl) (es : List En) (i : Nat) : Bool := match es[i]? with | some x => Gl.inB rs x | none => false
theorem inN_at {rs : List Gl.Rl} {es : List En} {i : Nat} (h : i < es.length) : inN rs es i = Gl.inB rs es[i] := by rw [inN, List.getElem?_eq_getElem h]
def inU (rs : List Gl.Rl) (es : List En) (k i : Nat) : Bool := decide (i < k) && inN rs es i
theorem inU_zero (rs : List Gl.Rl) (es : List En) (i : Nat) : inU rs es 0 i = false := by simp [inU]
theorem inU_step (rs : List Gl.Rl) (es : List En) (k : Nat) (b : Bool) (hb : inN rs es k = b) (i : Nat) : (if i = k then b else inU rs es k i) = inU rs es (k + 1) i := by
  subst hb
  unfold inU
  by_cases h : i = k
  · subst h; simp
  · rw [if_neg h, show decide (i < k + 1) = decide (i < k) by rw [decide_eq_decide]; omega]
theorem inU_all {rs : List Gl.Rl} {es : List En} {i : Nat} (h : i < es.length) : inU rs es es.length i = Gl.inB rs es[i] := by
  rw [inU, inN_at h]; simp [h]
theorem mulN {N i : Nat} (h : N ≤ i * 1100001) : N ≤ (i + 1) * 1100001 := Nat.le_trans h (Nat.mul_le_mul_right _ (Nat.le_succ i))
theorem mulK {N i k : Nat} (h : N ≤ i * 1100001 + 1 + k) (hk : k ≤ 1100000) : N ≤ (i + 1) * 1100001 := by
  rw [Nat.succ_mul i 1100001]
  generalize i * 1100001 = m at *
  omega
set_option maxRecDepth 100000 in
set_option maxHeartbeats 16000000 in
theorem keep_any (rs : List Gl.Rl) (B : Nat) (es : List En) (At : Option Addr) (ct : Nat) (w : World) {S S2 : Nat → Prop} (hL : ListAt w S B rs) (hz : rs.length ≤ 256) {m : Nat} (hok : ∀ r ∈ rs, Gl.RlOk m r) (hR : RE w S2 (.slice At es.length ct) es) (hn : es.length ≤ 1100000) (hp : ∀ x ∈ es, x.path.length ≤ 1100000) (hmx : Maxl w) {out : List En} (H : Hid (Gl.keepL rs es = out)) :
    Calls Tryz.prog 11 #[.pointer (some ⟨B, 0, none⟩), .slice At es.length ct] w fun e w' => (∃ A c Bs, e = .returned (.slice A out.length c) ∧ w.heap.size ≤ Bs ∧ w'.ownsRow Bs 38 5 (.slice A out.length c) out.length (enCs out)) ∧ Below w.heap.size w w' := by
  have HL := Lib.hid hL
  have HOK := Lib.hid hok
  have HR := Lib.hid hR
  have HP := Lib.hid hp
  have HMX := Lib.hid hmx
  clear hL hok hR hp hmx
  have hmk := make_bf es.length (by omega)
  have hmm := fun W => run_makeMap (P := Tryz.prog) 68 W
  have hB1 := (Below.refl w.heap.size w).alloc (Nat.le_refl _) (.cells (madeCells #[.bool false] es.length) 4)
  have hF1 := (BF.new w es.length)
  have hB2 := hB1.alloc hB1.size (.map #[] 0)
  have hF2 : BF ((w.alloc (.cells (madeCells #[.bool false] es.length) 4)).alloc (.map #[] 0)) w.heap.size es.length (inU rs es 0) := (show BF _ w.heap.size es.length _ from Blk.alloc hF1 _).congr fun i _ => (inU_zero rs es i).symm
  have hC2 := CM.new (w.alloc (.cells (madeCells #[.bool false] es.length) 4))
  rw [show (w.alloc (.cells (madeCells #[.bool false] es.length) 4)).heap.size = w.heap.size + 1 by simp] at hC2
  have HB2 := Lib.hid hB2
  have HF2 := Lib.hid hF2
  have HC2 := Lib.hid hC2
  clear hB1 hF1 hB2 hF2 hC2
  go_enter Tryz.func11, Tryz.ntmps11
  go_wp2_with fail
  go_loopw [7, 8, 9, 19] (fun _ _ _ t19 wr => ∃ (i N : Nat) (f : List UInt8 → Int), i ≤ es.length ∧ t19 = .int .i64 (i : Int) ∧ BF wr w.heap.size es.length (inU rs es i) ∧ CM wr (w.heap.size + 1) N f ∧ N ≤ i * 1100001 ∧ Hid (∀ s, 0 ≤ f s ∧ f s ≤ (N : Int)) ∧ Hid (∀ s, 0 < f s ↔ Gl.Ov rs es i s) ∧ Below w.heap.size w wr) (fun _ _ _ t19 _ => es.length - (intOf t19).toNat)
  case atStart => exact ⟨0, 0, _, by omega, rfl, HF2.out, HC2.out, by omega, Lib.hid (fun s => by simp), Lib.hid (fun s => ⟨fun h => absurd h (by simp), fun h => absurd h (Gl.ov_zero rs es s)⟩), HB2.out⟩
  case round =>
    clear HF2 HC2 HB2
    obtain ⟨i, N, f, hi, rfl, hF, hC, hN, Hf, HO, hB⟩ := hrel
    have j0 : (0 : Int) ≤ (i : Int) := by omega
    rcases Nat.lt_or_ge i es.length with hin | hin
    · have i0 : decide ((i : Int) < (es.length : Int)) = true := by rw [decide_eq_true_eq]; omega
      have i1 : (i : Int) < (es.length : Int) := by omega
      have hE := HR.out.below hB
      obtain ⟨g, o, c, hvl, c0, c1, c2, c3, c4, _⟩ := hE.at_ hin
      obtain ⟨hA, hcc⟩ : At = some ⟨g, o, none⟩ ∧ ct = c := by injection hvl with e1 _ e3; exact ⟨e1, e3⟩
      subst hA hcc
      have hpx := HP.out _ (List.getElem_mem hin)
      obtain ⟨x, hxe⟩ : ∃ x, es[i] = x := ⟨_, rfl⟩
      rw [hxe] at c0 c1 c2 c3 c4 hpx
      clear hvl hE
      have hB5 := hB.alloc hB.size (.cells (enC x) 38)
      have hK5 := Blk.new wr 38 (enC x)
      have hF5 : BF (wr.alloc (.cells (enC x) 38)) w.heap.size es.length (inU rs es i) := Blk.alloc hF _
      have hC5 := hC.kept (World.grownBy_alloc wr (.cells (enC x) 38) none) (by simp)
      have hL5 := HL.out.below hB5
      have hM5 := HMX.out.below hB5 HMX.out.lt
      obtain ⟨b, hb⟩ : ∃ b, Hid (Gl.outL rs (Gl.namesL (bl (bs x.path))) = b) := ⟨_, Lib.hid rfl⟩
      have hin2 : Hid (inN rs es i = !b) := by
        show _ = _
        rw [inN_at hin, hxe, Gl.inB, ← hb.out, bl_bs]
      have hge : w.heap.size + 1 < wr.heap.size := hC.lt
      have hpz : (bs x.path).size ≤ 2000000 := by rw [bs_size]; omega
      obtain ⟨w5, hw5⟩ : ∃ w5, wr.alloc (.cells (enC x) 38) = w5 := ⟨_, rfl⟩
      rw [hw5] at hB5 hK5 hF5 hC5 hL5 hM5
      have HW5 : Hid (wr.alloc (.cells #[.string (bs x.path), .int .i64 x.kind, .int .i64 x.mode, .string (bs x.data), .string (bs x.link)] 38) = w5) := Lib.hid hw5
      have HOv := Lib.hid (show (Gl.inB rs es[i] = false ∨ es[i].path = [] → ∀ d, Gl.Ov rs es (i + 1) d ↔ Gl.Ov rs es i d) ∧ (Gl.inB rs es[i] = true → es[i].path ≠ [] → ∀ d, Gl.Ov rs es (i + 1) d ↔ Gl.Ov rs es i d ∨ Gl.Seen es[i].path es[i].path.length d) from ⟨fun h => Gl.ov_skip hin h, fun h1 h2 => Gl.ov_add hin h1 h2⟩)
      have hinx : Hid (Gl.inB rs es[i] = !b) := by show _ = _; rw [← inN_at hin]; exact hin2.out
      rw [hxe] at HOv hinx
      clear hw5 hF hC hB hxe
      obtain ⟨ge, hgee⟩ : ∃ ge, wr.heap.size = ge := ⟨_, rfl⟩
      rw [hgee] at hK5 hge
      have HGE := Lib.hid hgee
      clear hgee
      go_upto_region 6 with fail
      rw [HW5.out, HGE.out]
      clear c0 c1 c2 c3 c4 HW5 HGE
      have k0 : w5.cell? ⟨ge, 0, none⟩ = some (.string (bs x.path)) := hK5.cell 0
      go_wp2_with fail
      refine (out_any rs B (bs x.path) _ hL5 hz HOK.out hpz hM5 hb).mono ?_
      rintro e w6 ⟨rfl, b6⟩
      have hB6 := below_of_below hB5 b6 hB5.size
      have hK6 := hK5.below b6 hK5.lt
      have hF6 := hF5.below b6 hF5.lt
      have hC6 := hC5.kept (grown_of_below b6 none) (by simp)
      have cI := hF6.cell hin
      have fI := hF6.frozen i
      obtain ⟨w7, hw7⟩ : ∃ w7, w6.setCell ⟨w.heap.size, i, none⟩ (.bool !b) = w7 := ⟨_, rfl⟩
      have hF7 : BF w7 w.heap.size es.length (inU rs es (i + 1)) := by
        rw [← hw7]
        exact (hF6.set_ i (!b)).congr fun j _ => inU_step rs es i (!b) hin2.out j
      have hg7 : w6.grownBy w7 (some w.heap.size) := by rw [← hw7]; exact setCell_grown w6 ⟨w.heap.size, i, none⟩ _
      have hK7 := hK6.grown hg7 (fun e => by injection e with e; omega)
      have hC7 := hC6.kept hg7 (fun e => by injection e with e; omega)
      have hB7 := hB6.grown hg7 hB6.size (fun k e => by cases e; exact Nat.le_refl _)
      have HW7 := Lib.hid hw7
      clear hw7 hF6 hC6 hK6 hB6 b6 hK5 hF5 hC5 hB5 hL5 hM5 hg7 k0
      go_upto_region 7 with fail
      rw [HW7.out]
      clear cI fI HW7
      have cI : w7.cell? ⟨w.heap.size, i, none⟩ = some (.bool (!b)) := by
        have := hF7.cell hin
        rw [inU, hin2.out] at this
        simpa using this
      have k0 : w7.cell? ⟨ge, 0, none⟩ = some (.string (bs x.path)) := hK7.cell 0
      cases b with
      | true =>
        have HO2 : Hid (∀ s, 0 < f s ↔ Gl.Ov rs es (i + 1) s) := Lib.hid fun s => (HO.out s).trans (HOv.out.1 (.inl hinx.out) s).symm
        clear HO HOv
        go_wp2_with fail
        go_roundw
        case rel => exact ⟨i + 1, N, f, by omega, by go_num, hF7, hC7, mulN hN, Hf, HO2, hB7⟩
        case measure => simp [intOf]; omega
      | false =>
        obtain ⟨P, hP⟩ : ∃ P, x.path = P := ⟨_, rfl⟩
        have HPe := Lib.hid hP
        rw [hP] at k0 hpx HOv
        clear hP
        cases P with
        | nil =>
          have HO2 : Hid (∀ s, 0 < f s ↔ Gl.Ov rs es (i + 1) s) := Lib.hid fun s => (HO.out s).trans (HOv.out.1 (.inr rfl) s).symm
          have k0' : w7.cell? ⟨ge, 0, none⟩ = some (.string ⟨#[]⟩) := k0
          clear HO HOv k0
          go_wp2_with fail
          go_roundw
          case rel => exact ⟨i + 1, N, f, by omega, by go_num, hF7, hC7, mulN hN, Hf, HO2, hB7⟩
          case measure => simp [intOf]; omega
        | cons c0 r0 =>
          obtain ⟨p, hpe⟩ : ∃ p, c0 :: r0 = p := ⟨_, rfl⟩
          have hne1 : (bs p).toList.isEmpty = false := by rw [toList_bs, ← hpe]; rfl
          have hne2 : ((bs p).toList == []) = false := by rw [toList_bs, ← hpe]; rfl
          rw [hpe] at k0 hpx HOv HPe
          have hpne : Hid (p ≠ []) := Lib.hid (by rw [← hpe]; simp)
          clear hpe
          have HOa := Lib.hid (HOv.out.2 hinx.out hpne.out)
          have HK7 : Hid (Blk w7 ge 38 #[.string (bs p), .int .i64 x.kind, .int .i64 x.mode, .string (bs x.data), .string (bs x.link)]) := by
            have := hK7
            rw [enC, HPe.out] at this
            exact this
          have hlook : (Instr.lookup 68 (.map (some (w.heap.size + 1))) (.string ⟨#[]⟩) false).run Tryz.prog w7 = .ok (.int .i64 (f [])) w7 := hC7.look [] (by simp)
          have hf0 := Hf.out []
          have hf1 : 0 ≤ f [] := hf0.1
          have hf2 : f [] ≤ 2000000000000 := by omega
          have HC7 := Lib.hid hC7
          have HF7 := Lib.hid hF7
          have HB7 := Lib.hid hB7
          clear HOv hinx hK7 hC7 hF7 hB7 hf0
          obtain ⟨z, hz0⟩ : ∃ z, f [] = z := ⟨_, rfl⟩
          rw [hz0] at hlook hf1 hf2
          have HZ0 := Lib.hid hz0
          clear hz0
          go_wp2_with (at_mapUpdate; refine wpList_cm rfl _ _ _ rfl (w.heap.size + 1) N f rfl HC7.out (by omega) [] (z + 1) rfl rfl (by simp) ⟨by omega, by omega⟩ ?_; intro w8 hC8 hg8)
          have hK8 := HK7.out.grown hg8 (fun e => by injection e with e; omega)
          have hF8 := HF7.out.grown hg8 (fun e => by injection e with e; omega)
          have hB8 := HB7.out.grown hg8 HB7.out.size (fun k e => by cases e; omega)
          have HS8 : Hid (∀ s, 0 < (fun d => if d = [] then z + 1 else f d) s ↔ Gl.Ov rs es i s ∨ Gl.Seen p 0 s) := Lib.hid fun s => by
            show 0 < (if s = [] then z + 1 else f s) ↔ _
            by_cases hs : s = []
            · rw [if_pos hs]
              exact ⟨fun _ => .inr (.inl hs), fun _ => by omega⟩
            · rw [if_neg hs, HO.out s]
              constructor
              · exact fun h => .inl h
              · rintro (h | h | ⟨j, hj, _⟩)
                · exact h
                · exact absurd h hs
                · omega
          have HF8 : Hid (∀ s, 0 ≤ (fun d => if d = [] then z + 1 else f d) s ∧ (fun d => if d = [] then z + 1 else f d) s ≤ ((N + 1 : Nat) : Int)) := Lib.hid fun s => by
            show 0 ≤ (if s = [] then z + 1 else f s) ∧ (if s = [] then z + 1 else f s) ≤ _
            have h1 := Hf.out s
            have h2 := Hf.out []
            rw [HZ0.out] at h2
            split <;> omega
          clear cI k0 hlook hg8 hne1 hne2 HO Hf
          go_wp2_with fail
          go_loopw [9] (fun t9 wv => ∃ (k N' : Nat) (f' : List UInt8 → Int), k ≤ p.length ∧ t9 = .int .i64 (k : Int) ∧ CM wv (w.heap.size + 1) N' f' ∧ N' ≤ i * 1100001 + 1 + k ∧ Hid (∀ s, 0 ≤ f' s ∧ f' s ≤ (N' : Int)) ∧ Hid (∀ s, 0 < f' s ↔ Gl.Ov rs es i s ∨ Gl.Seen p k s) ∧ Blk wv ge 38 #[.string (bs p), .int .i64 x.kind, .int .i64 x.mode, .string (bs x.data), .string (bs x.link)] ∧ BF wv w.heap.size es.length (inU rs es (i + 1)) ∧ Below w.heap.size w wv) (fun t9 _ => p.length - (intOf t9).toNat)
          case atStart => exact ⟨0, N + 1, _, by omega, rfl, hC8, by omega, HF8, HS8, hK8, hF8, hB8⟩
          case round =>
            clear HS8 HF8 hC8 hK8 hF8 hB8
            obtain ⟨k, N', f', hk, rfl, hC, hN', Hf, HS, hK, hF, hB⟩ := hrel
            have jk : (0 : Int) ≤ (k : Int) := by omega
            have hsz := bs_size p
            have k0 : wr.cell? ⟨ge, 0, none⟩ = some (.string (bs p)) := hK.cell 0
            rcases Nat.lt_or_ge k p.length with hkn | hkn
            · have i3 : decide ((k : Int) < ((bs p).size : Int)) = true := by rw [decide_eq_true_eq]; omega
              have i4 : (k : Int) < ((bs p).size : Int) := by omega
              have i5 : k < (bs p).size := by omega
              have hby : ((bs p)[k]'i5).toNat < 256 := UInt8.toNat_lt _
              have hpk : p[k]? = some ((bs p)[k]'i5) := by
                have := bl_at (bs p) k i5
                rwa [bl_bs] at this
              by_cases hc : (bs p)[k]'i5 = 47
              · have t1 : ((((bs p)[k]'i5).toNat : Int) == 47) = true := by rw [hc]; rfl
                rw [hc] at hpk
                have hsl := slice_h (bs p) k (k : Int) rfl (by omega)
                have hexb : (bs p).extract 0 k = bs (p.take k) := by rw [ext_bs, bl_bs, List.drop_zero, Nat.sub_zero]
                rw [hexb] at hsl
                have hlen : (p.take k).length ≤ 2000000 := by rw [List.length_take]; omega
                have hlook := hC.look (p.take k) hlen
                obtain ⟨s, hs⟩ : ∃ s, p.take k = s := ⟨_, rfl⟩
                rw [hs] at hsl hlook hlen
                have hfs := Hf.out s
                obtain ⟨z2, hz2⟩ : ∃ z, f' s = z := ⟨_, rfl⟩
                rw [hz2] at hlook hfs
                have hf1 : 0 ≤ z2 := hfs.1
                have hf2 : z2 ≤ 2000000000000 := by omega
                have HC := Lib.hid hC
                have HK := Lib.hid hK
                have HFF := Lib.hid hF
                have HBB := Lib.hid hB
                have HSk := Lib.hid hs
                have HZ2 := Lib.hid hz2
                have HPK := Lib.hid hpk
                have HFS := Lib.hid hfs
                clear hexb hfs hC hK hF hB hs hz2 hc hpk
                go_wp2_with (at_mapUpdate; refine wpList_cm rfl _ _ _ rfl (w.heap.size + 1) N' f' rfl HC.out (by omega) s (z2 + 1) rfl rfl hlen ⟨by omega, by omega⟩ ?_; intro w9 hC9 hg9)
                have hK9 := HK.out.grown hg9 (fun e => by injection e with e; omega)
                have hF9 := HFF.out.grown hg9 (fun e => by injection e with e; omega)
                have hB9 := HBB.out.grown hg9 HBB.out.size (fun k e => by cases e; omega)
                have HS9 : Hid (∀ d, 0 < (fun d => if d = s then z2 + 1 else f' d) d ↔ Gl.Ov rs es i d ∨ Gl.Seen p (k + 1) d) := Lib.hid fun d => by
                  show 0 < (if d = s then z2 + 1 else f' d) ↔ _
                  rw [Gl.seen_succ_yes HPK.out, HSk.out]
                  by_cases hd : d = s
                  · rw [if_pos hd]
                    exact ⟨fun _ => .inr (.inr hd), fun _ => by omega⟩
                  · rw [if_neg hd, HS.out d]
                    constructor
                    · rintro (h | h)
                      · exact .inl h
                      · exact .inr (.inl h)
                    · rintro (h | h | h)
                      · exact .inl h
                      · exact .inr h
                      · exact absurd h hd
                have HF9 : Hid (∀ d, 0 ≤ (fun d => if d = s then z2 + 1 else f' d) d ∧ (fun d => if d = s then z2 + 1 else f' d) d ≤ ((N' + 1 : Nat) : Int)) := Lib.hid fun d => by
                  show 0 ≤ (if d = s then z2 + 1 else f' d) ∧ (if d = s then z2 + 1 else f' d) ≤ _
                  have h1 := Hf.out d
                  have h2 := HFS.out
                  split <;> omega
                clear hlook k0 hsl hg9 HS
                go_wp2_with fail
                go_roundw
                case rel => exact ⟨k + 1, N' + 1, _, by omega, by go_num, hC9, by omega, HF9, HS9, hK9, hF9, hB9⟩
                case measure => simp [intOf]; omega
              · have t1 : ((((bs p)[k]'i5).toNat : Int) == 47) = false := by simp only [beq_eq_false_iff_ne, ne_eq]; exact fun e => hc (UInt8.toNat_inj.1 (by rw [show (47 : UInt8).toNat = 47 from rfl]; omega))
                have HS9 : Hid (∀ d, 0 < f' d ↔ Gl.Ov rs es i d ∨ Gl.Seen p (k + 1) d) := Lib.hid fun d => by
                  rw [Gl.seen_succ_no (fun e => hc (by rw [hpk] at e; exact Option.some.inj e)), HS.out d]
                clear hpk hc HS
                go_wp2_with fail
                go_roundw
                case rel => exact ⟨k + 1, N', f', by omega, by go_num, hC, by omega, Hf, HS9, hK, hF, hB⟩
                case measure => simp [intOf]; omega
            · have i3 : decide ((k : Int) < ((bs p).size : Int)) = false := by rw [decide_eq_false_iff_not]; omega
              have HO2 : Hid (∀ s, 0 < f' s ↔ Gl.Ov rs es (i + 1) s) := Lib.hid fun s => by
                rw [HOa.out s, HS.out s, show k = p.length by omega]
              clear HS
              go_wp2_with fail
              go_roundw
              case rel => exact ⟨i + 1, N', f', by omega, by go_num, hF, hC, mulK hN' (by omega), Hf, HO2, hB⟩
              case measure => simp [intOf]; omega
    · have i0 : decide ((i : Int) < (es.length : Int)) = false := by rw [decide_eq_false_iff_not]; omega
      obtain rfl : i = es.length := by omega
      obtain ⟨w3, hw3⟩ : ∃ w3, wr = w3 := ⟨_, rfl⟩
      rw [hw3] at hF hC hB
      rw [hw3]
      have HF := Lib.hid hF
      have HC := Lib.hid hC
      have HB := Lib.hid hB
      have hcl := hC.lt
      have hfl := hF.lt
      clear hF hC hB hw3
      go_wp2_with fail
      go_loopw [10, 11, 12, 67] (fun t10 _ _ t67 wr => ∃ (i : Nat) (o : List En), i ≤ es.length ∧ o.length ≤ i ∧ t67 = .int .i64 (i : Int) ∧ Hid ((es.take i).filter (Gl.stayB rs es) = o) ∧ wr.ownsRow w3.heap.size 38 5 t10 o.length (enCs o) ∧ Below w3.heap.size w3 wr) (fun _ _ _ t67 _ => es.length - (intOf t67).toNat)
      case atStart => exact ⟨0, [], by omega, by simp, rfl, Lib.hid (by rw [List.take_zero]; rfl), World.ownsRow_nil _ _ _ _, Below.refl _ _⟩
      case round =>
        obtain ⟨i, o, hi, hol, rfl, HK, hown, hB⟩ := hrel
        obtain ⟨AA, ca, rfl⟩ := ownk_form hown
        have j0 : (0 : Int) ≤ (i : Int) := by omega
        rcases Nat.lt_or_ge i es.length with hin | hin
        · have i0 : decide ((i : Int) < (es.length : Int)) = true := by rw [decide_eq_true_eq]; omega
          have i1 : (i : Int) < (es.length : Int) := by omega
          have hBw := below_of_below HB.out hB HB.out.size
          have hE := HR.out.below hBw
          obtain ⟨g, oo, c, hvl, c0, c1, c2, c3, c4, _⟩ := hE.at_ hin
          obtain ⟨hA, hcc⟩ : At = some ⟨g, oo, none⟩ ∧ ct = c := by injection hvl with e1 _ e3; exact ⟨e1, e3⟩
          subst hA hcc
          have hpx := HP.out _ (List.getElem_mem hin)
          have hIn := inU_all (rs := rs) hin
          have hSt := Gl.stay_iff rs es es[i]
          have hTk : (es.take (i + 1)).filter (Gl.stayB rs es) = o ++ if Gl.stayB rs es es[i] then [es[i]] else [] := by
            rw [List.take_add_one, List.getElem?_eq_getElem hin, List.filter_append, HK.out]
            congr 1
            rw [Option.toList_some, List.filter_cons]
            rfl
          obtain ⟨x, hxe⟩ : ∃ x, es[i] = x := ⟨_, rfl⟩
          rw [hxe] at c0 c1 c2 c3 c4 hpx hIn hSt hTk
          have hC5 := (HC.out.kept (grown_of_below hB none) (by simp)).kept (World.grownBy_alloc wr (.cells (enC x) 38) none) (by simp)
          have hF5 : BF (wr.alloc (.cells (enC x) 38)) w.heap.size es.length (inU rs es es.length) := Blk.alloc (HF.out.below hB hfl) _
          have hK5 := Blk.new wr 38 (enC x)
          have hown5 := hown.alloc (.cells (enC x) 38)
          have hB5 := hB.alloc hB.size (.cells (enC x) 38)
          have cI := hF5.cell hin
          rw [hIn] at cI
          have hlook := hC5.look x.path (by omega)
          have hfs := Hf.out x.path
          have hfo := HO.out x.path
          obtain ⟨z, hz2⟩ : ∃ z, f x.path = z := ⟨_, rfl⟩
          rw [hz2] at hlook hfs hfo
          obtain ⟨bi, hbi⟩ : ∃ b, Gl.inB rs x = b := ⟨_, rfl⟩
          rw [hbi] at cI hSt
          obtain ⟨w5, hw5⟩ : ∃ w5, wr.alloc (.cells (enC x) 38) = w5 := ⟨_, rfl⟩
          rw [hw5] at hC5 hF5 hK5 hown5 hB5 cI hlook
          have HW5 : Hid (wr.alloc (.cells #[.string (bs x.path), .int .i64 x.kind, .int .i64 x.mode, .string (bs x.data), .string (bs x.link)] 38) = w5) := Lib.hid hw5
          obtain ⟨ge, hgee⟩ : ∃ ge, wr.heap.size = ge := ⟨_, rfl⟩
          rw [hgee] at hK5
          have HGE := Lib.hid hgee
          have k0 : w5.cell? ⟨ge, 0, none⟩ = some (.string (bs x.path)) := hK5.cell 0
          have k1 : w5.cell? ⟨ge, 1, none⟩ = some (.int .i64 x.kind) := hK5.cell 1
          have k2 : w5.cell? ⟨ge, 2, none⟩ = some (.int .i64 x.mode) := hK5.cell 2
          have k3 : w5.cell? ⟨ge, 3, none⟩ = some (.string (bs x.data)) := hK5.cell 3
          have k4 : w5.cell? ⟨ge, 4, none⟩ = some (.string (bs x.link)) := hK5.cell 4
          have HHK := Lib.hid k0
          clear hvl hE hxe hbi hz2 hw5 hgee hIn hC5 hF5 hK5 hown hB hBw
          have HCI := Lib.hid cI
          have HLK := Lib.hid hlook
          have K0 := Lib.hid k0
          have K1 := Lib.hid k1
          have K2 := Lib.hid k2
          have K3 := Lib.hid k3
          have K4 := Lib.hid k4
          clear cI hlook k0 k1 k2 k3 k4 HHK
          go_upto_region 19 with fail
          rw [HW5.out, HGE.out]
          clear c0 c1 c2 c3 c4 HW5 HGE
          have cI := HCI.out
          have hlook := HLK.out
          have k0 := K0.out
          have k1 := K1.out
          have k2 := K2.out
          have k3 := K3.out
          have k4 := K4.out
          have hs5 := hB5.size
          cases hst : Gl.stayB rs es x with
          | true =>
            rw [hst] at hTk
            have HT : Hid ((es.take (i + 1)).filter (Gl.stayB rs es) = o ++ [x]) := Lib.hid hTk
            have hz1 : bi = true ∨ decide ((0 : Int) < z) = true := by
              rcases hSt.1 hst with h | h
              · exact .inl h
              · exact .inr (decide_eq_true (hfo.2 h))
            clear hst hTk hSt hfo
            cases bi with
            | true =>
              clear hlook
              go_wp2_with (at_builtin; refine wpList_appk rfl _ _ _ rfl entryK _ _ _ _ rfl (hown5.alloc _) _ _ _ _ rfl rfl (news_at _ _ (by simp) _ _) (by simp [Value.oneCell']) (by omega) (by omega) (hB5.alloc hs5 _) (by rw [World.size_alloc]; omega) ?_; intro v1 w1 ho1 hb1 hg1 hat1; obtain ⟨B1, q1, rfl⟩ := ownk_form ho1)
              go_roundw
              case rel => exact ⟨i + 1, o ++ [x], by omega, by simp only [List.length_append, List.length_cons, List.length_nil]; omega, by go_num, HT, by rw [enCs_snoc, List.length_append]; exact ho1, hb1⟩
              case measure => simp [intOf]; omega
            | false =>
              have t1 : decide ((0 : Int) < z) = true := by
                rcases hz1 with h | h
                · cases h
                · exact h
              clear hz1
              go_wp2_with (at_builtin; refine wpList_appk rfl _ _ _ rfl entryK _ _ _ _ rfl (hown5.alloc _) _ _ _ _ rfl rfl (news_at _ _ (by simp) _ _) (by simp [Value.oneCell']) (by omega) (by omega) (hB5.alloc hs5 _) (by rw [World.size_alloc]; omega) ?_; intro v1 w1 ho1 hb1 hg1 hat1; obtain ⟨B1, q1, rfl⟩ := ownk_form ho1)
              go_roundw
              case rel => exact ⟨i + 1, o ++ [x], by omega, by simp only [List.length_append, List.length_cons, List.length_nil]; omega, by go_num, HT, by rw [enCs_snoc, List.length_append]; exact ho1, hb1⟩
              case measure => simp [intOf]; omega
          | false =>
            rw [hst] at hTk
            have HT : Hid ((es.take (i + 1)).filter (Gl.stayB rs es) = o) := Lib.hid (by rw [hTk]; simp)
            have hb0 : bi = false := by
              cases bi with
              | false => rfl
              | true => rw [hSt.2 (.inl rfl)] at hst; cases hst
            have t1 : decide ((0 : Int) < z) = false := by
              rw [decide_eq_false_iff_not]
              intro h
              rw [hSt.2 (.inr (hfo.1 h))] at hst
              cases hst
            subst hb0
            clear hst hTk hSt hfo
            go_wp2_with fail
            go_roundw
            case rel => exact ⟨i + 1, o, by omega, by omega, by go_num, HT, hown5, hB5⟩
            case measure => simp [intOf]; omega
        · have i0 : decide ((i : Int) < (es.length : Int)) = false := by rw [decide_eq_false_iff_not]; omega
          have hK : Hid (o = out) := by show _ = _; rw [← HK.out, List.take_of_length_le hin]; exact H.out
          have hbw := HB.out.size
          go_wp2_with fail
          go_ret
          refine ⟨⟨AA, ca, w3.heap.size, by rw [hK.out]; rfl, hbw, ?_⟩, below_of_below HB.out hB HB.out.size⟩
          rw [hK.out] at hown
          exact hown
end Go.Proofs.YtdjfakampjbgeaaGreatDoor
