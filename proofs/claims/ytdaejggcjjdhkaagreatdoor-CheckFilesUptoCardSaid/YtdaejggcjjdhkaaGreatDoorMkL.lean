/- strataref15: what its loops and variable use. -/
import Derived.Test.YtdaejggcjjdhkaaGreatDoorMkK
import Derived.Test.YtdaejggcjjdhkaaGreatDoorMkH
import Derived.Deep.DeepCutAuto
namespace Go.Proofs.YtdaejggcjjdhkaaGreatDoor
open Go Go.RowKit
/-- variable at work: its reader; a struct of its own. -/
structure V15 (w0 w : World) (R : Nat) (s : List UInt8) (p : Nat) (e : UInt8) (no : Int) (v0 v : Value) (Z : Nat) (cz : Array Value) : Prop where
  rs : RS15 w R s p e no v
  nw : Nw w0 v0 v
  fx : Fx (S15 R v0) w0 w
  kz : Blk w Z 203 cz
  ne : v.ownBlock ≠ some Z
  lz : w0.heap.size ≤ Z
  lt : R < w0.heap.size
section
variable {w0 w w1 : World} {R p : Nat} {s : List UInt8} {e : UInt8} {no : Int} {v0 v : Value} {Z : Nat} {cz : Array Value}
theorem RS15.lt (h : RS15 w R s p e no v) {b : Nat} (hb : v.ownBlock = some b) : b < w.heap.size := by
  obtain ⟨_, ⟨n, ns, ho, _⟩, _⟩ := h
  exact (ho.lt b hb).2
theorem V15.start (h : RS15 w R s p e no v) (cz : Array Value) : V15 w (w.alloc (.cells cz 203)) R s p e no v v w.heap.size cz :=
  ⟨h.new ((Below.refl _ _).alloc (Nat.le_refl _) _), .inl rfl, Fx.new ((Below.refl _ _).alloc (Nat.le_refl _) _), Blk.new _ _ _, fun hv => by have := h.lt hv; omega, Nat.le_refl _, h.1.lt⟩
theorem V15.go {p' : Nat} {no' : Int} {v' : Value} (h : V15 w0 w R s p e no v0 v Z cz) (hr : RS15 w1 R s p' e no' v') (hn : Nw w v v') (k : Fx (S15 R v) w w1) : V15 w0 w1 R s p' e no' v0 v' Z cz := by
  have hlt := h.lt
  have hlz := h.lz
  refine ⟨hr, h.nw.trans hn h.fx.size, h.fx.s15 k h.nw, k.blk h.kz (fun hs => hs.elim (fun hs => by omega) h.ne), fun hv => ?_, hlz, hlt⟩
  rcases hn with e | ⟨b, e, hb⟩
  · exact h.ne (e ▸ hv)
  · rw [e] at hv; injection hv with hv
    have := h.kz.lt; omega
theorem V15.new (h : V15 w0 w R s p e no v0 v Z cz) (k : Below w.heap.size w w1) : V15 w0 w1 R s p e no v0 v Z cz := h.go (h.rs.new k) (.inl rfl) (Fx.new k)
theorem V15.drew (h : V15 w0 w R s p e no v0 v Z cz) : V15 w0 w.drew R s p e no v0 v Z cz := h.new (Below.refl _ _).drew
theorem V15.alloc (h : V15 w0 w R s p e no v0 v Z cz) (o : Obj) : V15 w0 (w.alloc o) R s p e no v0 v Z cz := h.new ((Below.refl _ _).alloc (Nat.le_refl _) o)
theorem V15.at_ {q : Nat} (h : V15 w0 w R s p e no v0 v Z cz) (hq : p ≤ q) : V15 w0 (w.setCell ⟨R, 1, none⟩ (.int .i64 (q : Int))) R s q e no v0 v Z cz := h.go (h.rs.at_ hq) (.inl rfl) (fx_set w R 1 _).to15
theorem V15.to {q : Nat} {no' : Int} (h : V15 w0 w R s p e no v0 v Z cz) (k : Fx (fun b => b = R) w w1) (hq : min p s.length ≤ q) (hb : Blk w1 R 180 (rd15 s q e no' v)) : V15 w0 w1 R s q e no' v0 v Z cz := h.go (h.rs.to k hq hb) (.inl rfl) k.to15
/-- what is written stands in blocks of variable's own. -/
theorem V15.oth {S : Nat → Prop} (h : V15 w0 w R s p e no v0 v Z cz) (k : Fx S w w1) (hS : ∀ b, S b → w0.heap.size ≤ b ∧ v.ownBlock ≠ some b) (hz : ¬ S Z) : V15 w0 w1 R s p e no v0 v Z cz := by
  have hlt := h.lt
  exact ⟨h.rs.fx k (fun b _ hb => ⟨fun e => by have := (hS b hb).1; omega, (hS b hb).2⟩), h.nw, h.fx.then k (fun b hb hs => by have := (hS b hs).1; omega), k.blk h.kz hz, h.ne, h.lz, hlt⟩
/-- its own struct is another. -/
theorem V15.own {cz' : Array Value} (h : V15 w0 w R s p e no v0 v Z cz) (k : Fx (fun b => b = Z) w w1) (hk : Blk w1 Z 203 cz') : V15 w0 w1 R s p e no v0 v Z cz' := by
  have hlt := h.lt
  have hlz := h.lz
  exact ⟨h.rs.fx k (fun b _ hb => ⟨fun e => by have h2 : b = Z := hb; omega, fun hv => h.ne (by rw [hv]; exact congrArg _ hb)⟩), h.nw, h.fx.then k (fun b hb hs => by have h2 : b = Z := hs; omega), hk, h.ne, hlz, hlt⟩
theorem V15.grow {cz' : Array Value} (h : V15 w0 w R s p e no v0 v Z cz) (k : w.grownBy w1 (some Z)) (hk : Blk w1 Z 203 cz') : V15 w0 w1 R s p e no v0 v Z cz' :=
  h.own ((Fx.of_grown k).mono fun b _ hb => by injection hb with hb; exact hb.symm) hk
theorem V15.set (h : V15 w0 w R s p e no v0 v Z cz) (i : Nat) (u : Value) : V15 w0 (w.setCell ⟨Z, i, none⟩ u) R s p e no v0 v Z (cz.setIfInBounds i u) := h.own (fx_set w Z i u) (h.kz.set_ i u)
/-- a piece with nothing in its braces. -/
theorem V15.flat {x : Ex.E} {t nm : List UInt8} {op : UInt8} (h : V15 w0 w R s p e no v0 v Z #[.string (bs t), .string (bs nm), .int .u8 (op.toNat : Int), .slice none 0 0]) (ht : t.length ≤ 2000000) (hn : nm.length ≤ 2000000) {p0 : Nat} (hp : p0 + 1 ≤ p) (hd : done15 .plain s x no p) : VAns15 w0 R s p0 e v0 x (.returned (.agg #[.string (bs t), .string (bs nm), .int .u8 (op.toNat : Int), .slice none 0 0])) w :=
  ⟨p, no, v, t, nm, op, none, 0, 0, [], rfl, h.rs, h.nw, h.fx, ht, hn, by omega, fun hm => absurd hm (by omega), PC.nil, hp, hd⟩
end
/-- behind a brace. -/
def brE (e : UInt8) : Ex.Vs → Ex.E
  | .bad => .inl 4
  | .flat _ r' => .inr r'
  | .deep _ _ r' => Ex.er (Ex.readL e .braces r')
theorem er_vR_brace (e : UInt8) (r : List UInt8) : Ex.er (Ex.vR e (123 :: r)) = brE e (Ex.braceL r) := by
  rw [Ex.vR_brace]
  cases Ex.braceL r with
  | bad => rfl
  | flat t r' => rfl
  | deep n op r' =>
    simp only [brE]
    cases Ex.readL e .braces r' with
    | inl z => rfl
    | inr pr => rfl
section
variable {w0 w w1 : World} {R p : Nat} {s : List UInt8} {e : UInt8} {no : Int} {v0 v : Value} {Z : Nat} {cz : Array Value}
/-- one struct more. -/
theorem V15.more (h : V15 w0 w R s p e no v0 v Z cz) (cp : Array Value) : V15 w0 (w.alloc (.cells cp 203)) R s p e no v0 v w.heap.size cp := by
  have h2 := h.alloc (.cells cp 203)
  exact ⟨h2.rs, h2.nw, h2.fx, Blk.new _ _ _, fun hv => by have := h.rs.lt hv; omega, h.fx.size, h.lt⟩
/-- behind met: the place is set. -/
theorem RS15.after {q b : Nat} (hb : Blk w R 180 (rd15 s p e no v)) (hn : Nm15 w v b) (hv : v.ownBlock ≠ some R) (hq : b ≤ min q s.length) : RS15 (w.setCell ⟨R, 1, none⟩ (.int .i64 (q : Int))) R s q e no v := by
  obtain ⟨n, ns, ho, hnb, hl⟩ := hn
  exact ⟨by have := hb.set_ 1 (.int .i64 (q : Int)); simpa [rd15] using this, ⟨n, ns, (fx_set w R 1 _).own ho (fun g hg hs => hv (by rw [hg]; exact congrArg _ hs)), by omega, hl⟩, hv⟩
theorem Fx.at15 (k : Fx (S15 R v) w w1) (u : Value) : Fx (S15 R v) w (w1.setCell ⟨R, 1, none⟩ u) := k.trans ((fx_set w1 R 1 u).mono fun _ _ h => .inl h)
end
end Go.Proofs.YtdaejggcjjdhkaaGreatDoor
namespace Go.Proofs.YtdaejggcjjdhkaaGreatDoor
open Go Go.RowKit
theorem p15K : ElemK Tryz.prog 181 203 (.agg #[.string ⟨#[]⟩, .string ⟨#[]⟩, .int .u8 0, .slice none 0 0]) 4 64 := ⟨Tryz.underlying181, by kernel_rfl, rfl, by decide⟩
section
variable {s : List UInt8} {e c : UInt8} {k : Ex.Kd} {p p' : Nat} {X : Ex.E} {no : Int}
theorem lp_adds {t : List Ex.Tk} (hR : Ex.readL e k (s.drop p) = Ex.adds t (Ex.readL e k (s.drop p'))) (H : Ex.er (Ex.readL e k (s.drop p)) = X) : Ex.er (Ex.readL e k (s.drop p')) = X := by
  rw [← H, hR, Ex.er_adds]
theorem getD_at (h : p < s.length) : s[p]? = some (s.getD p 0) := by
  rw [List.getD_eq_getElem?_getD, List.getElem?_eq_getElem h]; rfl
/-- does the escape take what stands behind? -/
def escY (k : Ex.Kd) (e : UInt8) (s : List UInt8) (p : Nat) : Bool := decide (p + 1 < s.length) && Ex.escs k e (s.getD (p + 1) 0)
theorem lp_esc (hc : s[p]? = some e) (hy : escY k e s p = true) (H : Ex.er (Ex.readL e k (s.drop p)) = X) : p + 2 ≤ s.length ∧ Ex.er (Ex.readL e k (s.drop (p + 2))) = X := by
  unfold escY at hy
  rw [Bool.and_eq_true, decide_eq_true_eq] at hy
  refine ⟨by omega, lp_adds (t := [.b (s.getD (p + 1) 0)]) ?_ H⟩
  rw [drop_at hc, drop_at (getD_at hy.1)]
  exact Ex.read_esc hy.2
theorem lp_esc_no (hc : s[p]? = some e) (hy : escY k e s p = false) (H : Ex.er (Ex.readL e k (s.drop p)) = X) : Ex.er (Ex.readL e k (s.drop (p + 1))) = X := by
  refine lp_adds (t := [.b e]) ?_ H
  rw [drop_at hc]
  refine Ex.read_esc_no fun d hd => ?_
  rw [List.head?_drop] at hd
  unfold escY at hy
  have hl := (List.getElem?_eq_some_iff.1 hd).1
  rw [decide_eq_true hl, Bool.true_and, List.getD_eq_getElem?_getD, hd] at hy
  exact hy
theorem lp_byte (hc : s[p]? = some c) (h0 : c ≠ e) (h1 : c ≠ 36) (h : Ex.stops k c = false) (h2 : (Ex.quotes k && (c == 34 || c == 39)) = false) (H : Ex.er (Ex.readL e k (s.drop p)) = X) : Ex.er (Ex.readL e k (s.drop (p + 1))) = X := by
  refine lp_adds (t := [.b c]) ?_ H
  rw [drop_at hc]
  exact Ex.read_byte h0 h1 h h2
theorem lp_stop (hc : s[p]? = some c) (h0 : c ≠ e) (h1 : c ≠ 36) (h : Ex.stops k c = true) (H : Ex.er (Ex.readL e k (s.drop p)) = X) : X = .inr (s.drop (p + 1)) := by
  rw [← H, drop_at hc, Ex.read_stop h0 h1 h]
  rfl
theorem lp_var (h0 : (36 : UInt8) ≠ e) (hc : s[p]? = some 36) (H : Ex.er (Ex.readL e k (s.drop p)) = X) (hd : done15 .plain s (Ex.er (Ex.vR e (s.drop (p + 1)))) no p') : lp15 k s e X no p' := by
  rw [drop_at hc] at H
  cases hv : Ex.vR e (s.drop (p + 1)) with
  | inl z =>
    rw [hv] at hd
    rw [(Ex.read_dollar h0).1 z hv] at H
    obtain ⟨a1, a2, a3, a4⟩ := hd
    exact .inr ⟨z, H.symm, a1, a2, a3, a4⟩
  | inr pr =>
    obtain ⟨t, r'⟩ := pr
    rw [hv] at hd
    obtain ⟨a1, a2⟩ := hd
    have a3 : p' + r'.length + 0 = s.length := a2
    rw [(Ex.read_dollar h0).2 t r' hv, Ex.er_adds] at H
    have hs := suf_drop' (Ex.vR_suf hv)
    refine .inl ⟨a1, by omega, ?_⟩
    rw [show p' = s.length - r'.length by omega, ← hs]
    exact H
theorem lp_quo (h0 : (34 : UInt8) ≠ e) (hq : Ex.quotes k = true) (hc : s[p]? = some 34) (H : Ex.er (Ex.readL e k (s.drop p)) = X) (hd : done15 .quoted s (Ex.er (Ex.readL e .quoted (s.drop (p + 1)))) no p') : lp15 k s e X no p' := by
  rw [drop_at hc] at H
  cases hv : Ex.readL e .quoted (s.drop (p + 1)) with
  | inl z =>
    rw [hv] at hd
    rw [Ex.read_double_err h0 hq hv] at H
    obtain ⟨a1, a2, a3, a4⟩ := hd
    exact .inr ⟨z, H.symm, a1, a2, a3, by have : p' + 0 ≤ s.length + 1 := a4; omega⟩
  | inr pr =>
    obtain ⟨l, r'⟩ := pr
    rw [hv] at hd
    obtain ⟨a1, a2⟩ := hd
    have a3 : p' + r'.length + 0 = s.length := a2
    rw [Ex.read_double h0 hq hv, Ex.er_adds] at H
    have hs := suf_drop' (Ex.readL_suf hv)
    refine .inl ⟨a1, by omega, ?_⟩
    rw [show p' = s.length - r'.length by omega, ← hs]
    exact H
theorem lp_at (h : lp15 k s e X no p) (hp : p < s.length) : no = 0 ∧ Ex.er (Ex.readL e k (s.drop p)) = X := by
  rcases h with ⟨a, _, b⟩ | ⟨z, _, _, _, h, _⟩
  · exact ⟨a, b⟩
  · omega
theorem lp_le (h : lp15 k s e X no p) : p ≤ s.length + 1 := by
  rcases h with ⟨_, a, _⟩ | ⟨z, _, _, _, _, a⟩
  · omega
  · exact a
theorem lp_wrong {q : Nat} (h : lp15 k s e X no p) (hp : s.length ≤ p) (hq : Ex.endR k = .inl q) (h0 : q ≠ 0) : done15 k s X (if no = 0 then (q : Int) else no) s.length := by
  have hk : kb k ≤ 1 := by cases k <;> decide
  rcases h with ⟨a, b, H⟩ | ⟨z, rfl, a, b, _, _⟩
  · rw [List.drop_eq_nil_of_le hp, Ex.readL_nil, hq] at H
    subst H
    rw [if_pos a]
    exact ⟨rfl, h0, Nat.le_refl _, by omega⟩
  · rw [if_neg (by omega)]
    exact ⟨a, b, Nat.le_refl _, by omega⟩
theorem lp_end (h : lp15 k s e X no p) (hp : s.length ≤ p) (hq : Ex.endR k = .inr ([], [])) (hk : kb k = 0) : done15 k s X no p := by
  rcases h with ⟨a, b, H⟩ | ⟨z, rfl, a, b, c, d⟩
  · rw [List.drop_eq_nil_of_le hp, Ex.readL_nil, hq] at H
    subst H
    exact ⟨a, by show p + 0 + _ = _; omega⟩
  · exact ⟨a, b, c, by omega⟩
theorem lp_q_no (h0 : (39 : UInt8) ≠ e) (hq : Ex.quotes k = true) (hc : s[p]? = some 39) (hno : ∀ c ∈ s.drop (p + 1), c ≠ 39) (H : Ex.er (Ex.readL e k (s.drop p)) = X) : X = .inl 18 := by
  rw [← H, drop_at hc, Ex.read_q1_no h0 hq hno]
  rfl
theorem lp_q {n : Nat} (h0 : (39 : UInt8) ≠ e) (hq : Ex.quotes k = true) (hc : s[p]? = some 39) (hno : ∀ i, i < n → s[p + 1 + i]? ≠ some 39) (hn : s[p + 1 + n]? = some 39) (H : Ex.er (Ex.readL e k (s.drop p)) = X) : Ex.er (Ex.readL e k (s.drop (p + 1 + n + 1))) = X := by
  have e1 : s.drop (p + 1) = (s.drop (p + 1)).take n ++ 39 :: s.drop (p + 1 + n + 1) := by
    have h := (List.take_append_drop n (s.drop (p + 1))).symm
    rw [List.drop_drop, drop_at hn] at h
    exact h
  rw [drop_at hc, e1] at H
  rw [Ex.read_q1 h0 hq, Ex.er_adds] at H
  · exact H
  · intro c hc2 h39
    obtain ⟨i, hi, hci⟩ := List.getElem_of_mem hc2
    rw [List.length_take] at hi
    refine hno i (by omega) ?_
    rw [← h39, ← hci, List.getElem_take, List.getElem_drop, List.getElem?_eq_getElem]
theorem no39_all {n : Nat} (hno : ∀ i, i < n → s[p + i]? ≠ some 39) (hn : p + n = s.length) : ∀ c ∈ s.drop p, c ≠ 39 := by
  intro c hc h39
  obtain ⟨i, hi, hci⟩ := List.getElem_of_mem hc
  rw [List.length_drop] at hi
  refine hno i (by omega) ?_
  rw [← h39, ← hci, List.getElem_drop, List.getElem?_eq_getElem]
end
/-- one piece more. -/
theorem L15.push1 {w0 w w1 : World} {R p : Nat} {s : List UInt8} {e : UInt8} {no : Int} {v0 v lv lv' : Value} {n : Nat} {xs : List Value} {t nm : List UInt8} {op : UInt8} {A : Option Addr} {m c : Nat} {ys : List Value} (h : L15 w0 w R s p e no v0 v lv n xs) (o : Obj)
    (ht : t.length ≤ 2000000) (hn : nm.length ≤ 2000000) (hm : m ≤ 2000001) (hr : Rw4 w (fun b => b < w0.heap.size ∨ v.ownBlock = some b ∨ lv.ownBlock = some b) A m ys) (hp : PC w (fun b => b < w0.heap.size ∨ v.ownBlock = some b ∨ lv.ownBlock = some b) m ys)
    (k : (w.alloc o).grownBy w1 lv.ownBlock) (ho : w1.ownsRow w0.heap.size 203 4 lv' (n + 1) (xs ++ [.string (bs t), .string (bs nm), .int .u8 (op.toNat : Int), .slice A m c])) (hv : lv'.ownBlock = lv.ownBlock ∨ lv'.ownBlock = some (w.alloc o).heap.size) : L15 w0 w1 R s p e no v0 v lv' (n + 1) (xs ++ [.string (bs t), .string (bs nm), .int .u8 (op.toNat : Int), .slice A m c]) := by
  have kn : Fx (fun _ => False) w (w.alloc o) := Fx.new ((Below.refl _ _).alloc (Nat.le_refl _) o)
  exact (h.alloc o).push k ho (hv.imp id fun e => ⟨_, Nat.le_refl _, e⟩) (PC.one ht hn hm (hr.fx kn fun b _ h => h.elim False.elim id) (hp.fx kn fun b _ h => h.elim False.elim id))
theorem rw4_nil {w : World} {X : Nat → Prop} : Rw4 w X none 0 [] := fun h => absurd h (by omega)
end Go.Proofs.YtdaejggcjjdhkaaGreatDoor
