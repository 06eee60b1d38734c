/- Memory words for 'have these lists memory of their own?': several rows of the call's own, each in blocks of its own colour; stores into them, appends onto them. -/
import Derived.Test.YtkbigejknkamiaaDoorOwn
namespace Go.Proofs.YtkbigejknkamiaaDoor.Ap
open Go.RowKit

/-- append onto a row of the call's own: in place, or into a new block; and in which of the two nothing else turns. -/
theorem run_append_split {P : Program} (w : World) (base : Nat) (t ty e : TypeId) (i : TypeInfo) (z : Value) (size bytes : Nat) (ht : P.underlying t = some (.slice e)) (hi : P.info? e = some i) (hz : i.zero = some z)
    (hsize : i.size = size) (hby : i.bytes = bytes) (hzs : z.cells.size = size) (hsz : 0 < size)
    (v : Value) (n : Nat) (xs : List Value) (hown : w.ownsRow base e size v n xs)
    (a : Addr) (m c : Nat) (news : List Value) (hl : news.length = m * size) (hnews : ∀ j u, news[j]? = some u → w.cell? (a.add j) = some u) (h1 : ∀ u ∈ news, u.oneCell' = true)
    (h63 : n + m ≤ maxLen) (hbytes : (n + m) * bytes ≤ 140737488355328) (hbase : base ≤ w.heap.size) (hm : 0 < m) :
    ∃ v' w', (Builtin.append_ #[t, t] ty #[v, .slice (some a) m c]).run P w = .ok v' w' ∧ w'.ownsRow base e size v' (n + m) (xs ++ news) ∧
      ((v'.ownBlock = v.ownBlock ∧ w.grownBy w' v.ownBlock) ∨ (v'.ownBlock = some w.heap.size ∧ w.grownBy w' none)) := by
  subst hsize
  subst hby
  have hsmall : n + m ≤ 9223372036854775807 := by simp only [maxLen] at h63; omega
  have hlen : (xs ++ news).length = (n + m) * i.size := by rw [List.length_append, hown.1, hl, Nat.add_mul]
  have grown : ∀ (old : Nat), old < n + m → ∀ (row : Option Nat),
      (w.drew.alloc (.cells (xs.toArray ++ news.toArray ++ Builtin.zeroCells z.cells (grownCap w (n + m) old e - (n + m))) e)).ownsRow base e i.size
        (.slice (some ⟨w.heap.size, 0, none⟩) (n + m) (grownCap w (n + m) old e)) (n + m) (xs ++ news) ∧
      w.grownBy (w.drew.alloc (.cells (xs.toArray ++ news.toArray ++ Builtin.zeroCells z.cells (grownCap w (n + m) old e - (n + m))) e)) row := by
    intro old ho row
    have hge := grownCap_ge w (n + m) old e
    have hcm : grownCap w (n + m) old e ≤ maxLen := grownCap_le_maxLen w (n + m) old e h63
    refine ⟨⟨hlen, .inr ⟨w.heap.size, _, _, rfl, hbase, heap_alloc_new w.drew _, hge, hcm, ?_, ?_⟩⟩, ⟨rfl, rfl, rfl, by simp, fun k hk _ => Below.heap_alloc w.drew _ k hk⟩⟩
    · simp only [Array.size_append, List.size_toArray, size_zeroCells, hzs, hown.1, hl, ← Nat.add_mul]
      congr 1
      omega
    · simp only [Array.toList_append, List.append_assoc]
      rw [← List.append_assoc, ← hlen]
      exact List.take_left
  rcases hown.2 with ⟨rfl, rfl⟩ | ⟨g, cap, cur, rfl, hbg, hg, hnc, hcm, hcs, htake⟩
  · have hx : xs = [] := List.eq_nil_of_length_eq_zero (by simpa using hown.1)
    subst hx
    have hr := run_append_nil (P := P) w t ty e i z ht hi hz a m c news hl hnews (by omega) (by omega) (by have hb := hbytes; simp only [Nat.zero_add] at hb; omega)
    have hgr := grown 0 (by omega) none
    simp only [Nat.zero_add, List.nil_append, Array.empty_append] at hgr ⊢
    exact ⟨_, _, hr, hgr.1, Or.inr ⟨rfl, hgr.2⟩⟩
  · by_cases hroom : n + m ≤ cap
    · have hfit : n * i.size + news.length ≤ cur.size := by rw [hl, hcs, ← Nat.add_mul]; exact Nat.mul_le_mul_right _ hroom
      have hr := run_append_room (P := P) w t ty e i ht hi g n cap cur hg a m c news hl hnews h1 hroom hfit
      refine ⟨_, _, hr, ⟨hlen, .inr ⟨g, cap, _, rfl, hbg, setRow_heap w g cur _ e _ hg, hroom, hcm, ?_, ?_⟩⟩, Or.inl ⟨rfl, ⟨rfl, rfl, rfl, by simp, fun k _ hk => setRow_other w g k _ (fun e => hk (by simp [Value.ownBlock, e]))⟩⟩⟩
      · simp only [List.size_toArray, List.length_append, List.length_take, List.length_drop, Array.length_toList]
        omega
      · rw [htake, ← hlen]
        exact List.take_left
    · have holds : ∀ j u, xs[j]? = some u → w.cell? ((⟨g, 0, none⟩ : Addr).add j) = some u := hown.cells (g := g) rfl
      have hr := run_append_grow (P := P) w t ty e i z ht hi hz ⟨g, 0, none⟩ n cap xs hown.1 holds a m c news hl hnews (by omega) (by omega) (growslice_fits (by omega) hbytes)
      have hgr := grown cap (by omega) none
      exact ⟨_, _, hr, hgr.1, Or.inr ⟨rfl, hgr.2⟩⟩

theorem wpList_app_split {P : Program} {W : World} {ops : Array Oper} {rest : List Oper} {o : Oper} {a : Act} {Q : Exit → Act → World → Prop} (hgd : o.guard = none) (s x : Operand) (t : TypeId)
    (ho : o.op = .call { callee := .builtin .append, args := #[s, x], argTypes := #[t, t] })
    {e : TypeId} {z : Value} {bytes : Nat} (E : ElemT P t e z bytes)
    (base : Nat) (v : Value) (n : Nat) (xs : List Value) (hs : a.eval s = v) (hown : W.ownsRow base e 1 v n xs)
    (ad : Addr) (m c : Nat) (news : List Value) (hx : a.eval x = .slice (some ad) m c) (hl : news.length = m) (hnews : ∀ j u, news[j]? = some u → W.cell? (ad.add j) = some u) (h1 : ∀ u ∈ news, u.oneCell' = true)
    (h63 : n + m ≤ 9223372036854775807) (hbytes : (n + m) * bytes ≤ 140737488355328) (hbase : base ≤ W.heap.size) (hm : 0 < m)
    (h : ∀ v' w', w'.ownsRow base e 1 v' (n + m) (xs ++ news) → ((v'.ownBlock = v.ownBlock ∧ W.grownBy w' v.ownBlock) ∨ (v'.ownBlock = some W.heap.size ∧ W.grownBy w' none)) → wpList P ops Q rest (a.put o.dst v') w') : wpList P ops Q (o :: rest) a W := by
  obtain ⟨i, hi, hz, hsz, hby⟩ := info_parts E.hi
  refine wpList_plain hgd fun K hK => ?_
  obtain ⟨v', w', hr, h2, h3⟩ := run_append_split (P := P) W base t o.type e i z 1 bytes E.ht hi hz hsz hby E.hz (by omega) v n xs hown ad m c news (by omega) hnews h1 (by unfold maxLen; omega) hbytes hbase hm
  unfold Oper.wp execOp
  simp only [ho, resolve, invoke, builtin, Sem.run_bind, Sem.run_pure, Result.andThen_ok, List.map_toArray, List.map_cons, List.map_nil, hs, hx, hr]
  exact hK _ _ (h v' w' h2 h3)

theorem split_grown {w w' : World} {v v' : Value} (h : (v'.ownBlock = v.ownBlock ∧ w.grownBy w' v.ownBlock) ∨ (v'.ownBlock = some w.heap.size ∧ w.grownBy w' none)) : w.grownBy w' v.ownBlock := by
  rcases h with ⟨_, hg⟩ | ⟨_, hg⟩
  · exact hg
  · exact ⟨hg.os, hg.tape, hg.output, hg.size, fun i hi _ => hg.block i hi (by simp)⟩
/-- rows of different element types lie in different blocks. -/
theorem own_ne {w : World} {b b' : Nat} {e e' : TypeId} {size size' : Nat} {v v' : Value} {n n' : Nat} {xs xs' : List Value} (h : w.ownsRow b e size v n xs) (h' : w.ownsRow b' e' size' v' n' xs') (hne : e ≠ e') : v.ownBlock = none ∨ v.ownBlock ≠ v'.ownBlock := by
  rcases h.2 with ⟨rfl, _⟩ | ⟨g, cap, cur, rfl, _, hg, _⟩
  · exact .inl rfl
  · right
    rcases h'.2 with ⟨rfl, _⟩ | ⟨g', cap', cur', rfl, _, hg', _⟩
    · simp [Value.ownBlock]
    · intro he
      have : g = g' := by simpa [Value.ownBlock] using he
      subst this
      rw [hg] at hg'
      injection hg' with hg'
      injection hg' with _ ht
      exact hne ht
theorem blk_ne {w : World} {b g : Nat} {e e' : TypeId} {size : Nat} {v : Value} {n : Nat} {xs : List Value} {cs : Array Value} (h : w.ownsRow b e size v n xs) (h' : w.heap[g]? = some (.cells cs e' (0, 0))) (hne : e ≠ e') : some g ≠ v.ownBlock := by
  rcases h.2 with ⟨rfl, _⟩ | ⟨g', cap, cur, rfl, _, hg, _⟩
  · simp [Value.ownBlock]
  · intro he
    have : g = g' := by simpa [Value.ownBlock] using he
    subst this
    rw [hg] at h'
    injection h' with h'
    injection h' with _ ht
    exact hne ht

/-- the marks of list j. -/
def marks (mk : Nat → Nat → Value) (j n : Nat) : List Value := (List.range n).map (mk j)
theorem marks_succ (mk : Nat → Nat → Value) (j n : Nat) : marks mk j (n + 1) = marks mk j n ++ [mk j n] := by simp [marks, List.range_succ]
theorem marks_length (mk : Nat → Nat → Value) (j n : Nat) : (marks mk j n).length = n := by simp [marks]
theorem marks_get (mk : Nat → Nat → Value) (j n i : Nat) (h : i < n) : (marks mk j n)[i]? = some (mk j i) := by simp [marks, h]

/-- what list j holds when the first k lists, and i places of list k, are written over. -/
def cont (mk : Nat → Nat → Value) (N : Nat → Nat) (X : Nat → List Value) (k i j : Nat) : List Value :=
  if j < k then marks mk j (N j) else if j = k then marks mk k i ++ (X k).drop i else X j

section
variable {base e m : Nat} {V : Nat → Value} {N : Nat → Nat} {mk : Nat → Nat → Value} {X : Nat → List Value} {col : Nat → Nat} {w w' : World}

/-- while the lists are written over: each list owns its row, each row's block has the list's colour. -/
def P1 (base e m : Nat) (V : Nat → Value) (N : Nat → Nat) (mk : Nat → Nat → Value) (X : Nat → List Value) (col : Nat → Nat) (k i : Nat) (w : World) : Prop :=
  ∀ j, j < m → w.ownsRow base e 1 (V j) (N j) (cont mk N X k i j) ∧ ∀ b, (V j).ownBlock = some b → col b = j

theorem P1.start (h : ∀ j, j < m → w.ownsRow base e 1 (V j) (N j) (X j) ∧ ∀ b, (V j).ownBlock = some b → col b = j) : P1 base e m V N mk X col 0 0 w := by
  intro j hj
  refine ⟨?_, (h j hj).2⟩
  have : cont mk N X 0 0 j = X j := by
    unfold cont
    rw [if_neg (by omega)]
    split
    · rename_i h0; subst h0; simp [marks]
    · rfl
  rw [this]
  exact (h j hj).1
theorem P1.next {k : Nat} (h : P1 base e m V N mk X col k (N k) w) (hX : ∀ j, j < m → (X j).length = N j) : P1 base e m V N mk X col (k + 1) 0 w := by
  intro j hj
  refine ⟨?_, (h j hj).2⟩
  have : cont mk N X (k + 1) 0 j = cont mk N X k (N k) j := by
    unfold cont
    by_cases h1 : j < k
    · rw [if_pos (by omega), if_pos h1]
    · by_cases h2 : j = k
      · subst h2
        rw [if_pos (by omega), if_neg (by omega), if_pos rfl, List.drop_of_length_le (by rw [hX j hj]; omega), List.append_nil]
      · rw [if_neg (by omega), if_neg h1, if_neg h2]
        split
        · rename_i h3; subst h3; simp [marks]
        · rfl
  rw [this]
  exact (h j hj).1
theorem P1.below {k i : Nat} (h : P1 base e m V N mk X col k i w) (hb : Below w.heap.size w w') : P1 base e m V N mk X col k i w' :=
  fun j hj => ⟨own_below (h j hj).1 hb, (h j hj).2⟩
theorem P1.form {k i j : Nat} (h : P1 base e m V N mk X col k i w) (hj : j < m) : ∃ A c, V j = .slice A (N j) c := own_form (h j hj).1
theorem P1.at_ {k i : Nat} (h : P1 base e m V N mk X col k i w) (hk : k < m) (hi : i < N k) (hX : (X k).length = N k) :
    ∃ b c u, V k = .slice (some ⟨b, 0, none⟩) (N k) c ∧ base ≤ b ∧ b < w.heap.size ∧ N k ≤ c ∧ w.cell? ⟨b, i, none⟩ = some u ∧ w.frozen? ⟨b, i, none⟩ = false := by
  have ho := (h k hk).1
  obtain ⟨g, cap, hv, hb, hlt⟩ := ho.form (by omega)
  have hc2 : N k ≤ cap := by
    rcases ho.2 with ⟨h', h''⟩ | ⟨g', cap', cur, h', _, hg, hn, _⟩
    · omega
    · rw [hv] at h'
      simp only [Value.slice.injEq] at h'
      omega
  rw [hv] at ho
  have hl : i < (cont mk N X k i k).length := by
    have := ho.1; omega
  exact ⟨g, cap, (cont mk N X k i k)[i], hv, hb, hlt, hc2, by rw [ho.cellAt i (by omega)]; exact List.getElem?_eq_getElem hl, ho.frozenAt i⟩
theorem P1.store {k i b c : Nat} (h : P1 base e m V N mk X col k i w) (hk : k < m) (hi : i < N k) (hX : (X k).length = N k) (hV : V k = .slice (some ⟨b, 0, none⟩) (N k) c) :
    P1 base e m V N mk X col k (i + 1) (w.setCell ⟨b, i, none⟩ (mk k i)) := by
  intro j hj
  refine ⟨?_, (h j hj).2⟩
  by_cases hjk : j = k
  · subst hjk
    have ho := (h j hj).1
    rw [hV] at ho ⊢
    have hs := (ho.stored i (mk j i)).1
    have hc : (cont mk N X j i j).set i (mk j i) = cont mk N X j (i + 1) j := by
      unfold cont
      rw [if_neg (by omega), if_pos rfl, if_neg (by omega), if_pos rfl, marks_succ, List.set_append]
      rw [if_neg (by rw [marks_length]; omega), marks_length, Nat.sub_self]
      have hd : (X j).drop i = (X j)[i]'(by omega) :: (X j).drop (i + 1) := List.drop_eq_getElem_cons (by omega)
      rw [hd, List.set_cons_zero, List.append_assoc]
      rfl
    rw [hc] at hs
    exact hs
  · have ho := (h j hj).1
    have hc : cont mk N X k (i + 1) j = cont mk N X k i j := by
      unfold cont
      rw [if_neg hjk, if_neg hjk]
    rw [hc]
    have ho2 := (h k hk).1
    rw [hV] at ho2
    refine ho.kept (ho2.stored i (mk k i)).2 ?_
    by_cases hn : (V j).ownBlock = none
    · exact .inl hn
    · right
      intro he
      have e1 := (h j hj).2 b he
      have e2 := (h k hk).2 b (by rw [hV]; rfl)
      omega

/-- while marks are put behind: each list's colour has a row (H j) with so many marks (C j); the list itself reads as its marks. -/
def P2 (base e m : Nat) (V : Nat → Value) (N : Nat → Nat) (mk : Nat → Nat → Value) (col : Nat → Nat) (H : Nat → Value) (C : Nat → Nat) (w : World) : Prop :=
  ∀ j, j < m → w.ownsRow base e 1 (H j) (C j) (marks mk j (C j)) ∧ (∀ b, (H j).ownBlock = some b → col b = j) ∧ N j ≤ C j ∧ Reads w w.heap.size (match V j with | .slice A _ _ => A | _ => none) (N j) (marks mk j (N j)) ∧
    (∀ b, (V j).ownBlock = some b → col b = j ∧ b < w.heap.size) ∧ (∃ A c, V j = .slice A (N j) c) ∧ ∀ b o, (match V j with | .slice A _ _ => A | _ => none) = some ⟨b, o, none⟩ → o = 0 ∧ (V j).ownBlock = some b

theorem P2.start {k : Nat} (h : P1 base e m V N mk X col k 0 w) (hk : m ≤ k) : P2 base e m V N mk col V N w := by
  intro j hj
  have ho := (h j hj).1
  have hc : cont mk N X k 0 j = marks mk j (N j) := by unfold cont; rw [if_pos (by omega)]
  rw [hc] at ho
  obtain ⟨A, c, hV⟩ := own_form ho
  refine ⟨ho, (h j hj).2, Nat.le_refl _, ?_, fun b hb => ⟨(h j hj).2 b hb, ((ho.lt b hb)).2⟩, ⟨A, c, hV⟩, ?_⟩
  · rw [hV] at ho ⊢
    exact Reads.of_own ho
  · intro b o hA
    rcases ho.2 with ⟨h', _⟩ | ⟨g, cap, cur, h', _⟩
    · rw [h'] at hA; cases hA
    · rw [h'] at hA ⊢
      simp only [Option.some.injEq, Addr.mk.injEq] at hA
      obtain ⟨rfl, rfl, _⟩ := hA
      exact ⟨rfl, rfl⟩
theorem P2.below {H : Nat → Value} {C : Nat → Nat} (h : P2 base e m V N mk col H C w) (hb : Below w.heap.size w w') : P2 base e m V N mk col H C w' := by
  intro j hj
  obtain ⟨a1, a2, a3, a4, a5, a6, a7⟩ := h j hj
  exact ⟨own_below a1 hb, a2, a3, (a4.below hb).more hb.size, fun b hb' => ⟨(a5 b hb').1, Nat.lt_of_lt_of_le (a5 b hb').2 hb.size⟩, a6, a7⟩
/-- a row of another kind is written, or made. -/
theorem P2.grown {H : Nat → Value} {C : Nat → Nat} {row : Option Nat} (h : P2 base e m V N mk col H C w) (hg : w.grownBy w' row) (hr : ∀ j, j < m → ((H j).ownBlock = none ∨ (H j).ownBlock ≠ row) ∧ ((V j).ownBlock = none ∨ (V j).ownBlock ≠ row)) : P2 base e m V N mk col H C w' := by
  intro j hj
  obtain ⟨a1, a2, a3, a4, a5, a6, a7⟩ := h j hj
  refine ⟨a1.kept hg (hr j hj).1, a2, a3, ?_, fun b hb' => ⟨(a5 b hb').1, Nat.lt_of_lt_of_le (a5 b hb').2 hg.size⟩, a6, a7⟩
  refine ⟨a4.1, fun hn => ?_⟩
  obtain ⟨b, o, hA, hlt, hc⟩ := a4.2 hn
  obtain ⟨rfl, hvb⟩ := a7 b o hA
  refine ⟨b, 0, hA, Nat.lt_of_lt_of_le hlt hg.size, fun i u hu => ?_⟩
  have hne : some b ≠ row := by
    rcases (hr j hj).2 with h' | h'
    · rw [h'] at hvb; cases hvb
    · rw [hvb] at h'; exact h'
  exact (World.cell?_of_block (a := ⟨b, 0 + i, none⟩) (hg.block b hlt hne)).trans (hc i u hu)
/-- a mark is put behind row k. -/
theorem P2.app {H : Nat → Value} {C : Nat → Nat} {k : Nat} {v' : Value} (h : P2 base e m V N mk col H C w) (hk : k < m)
    (hown : w'.ownsRow base e 1 v' (C k + 1) (marks mk k (C k) ++ [mk k (C k)]))
    (hs : (v'.ownBlock = (H k).ownBlock ∧ w.grownBy w' (H k).ownBlock) ∨ (v'.ownBlock = some w.heap.size ∧ w.grownBy w' none)) :
    ∃ col', P2 base e m V N mk col' (fun j => if j = k then v' else H j) (fun j => if j = k then C k + 1 else C j) w' := by
  have hgrow : w.grownBy w' (H k).ownBlock := by
    rcases hs with ⟨_, hg⟩ | ⟨_, hg⟩
    · exact hg
    · exact ⟨hg.os, hg.tape, hg.output, hg.size, fun i hi _ => hg.block i hi (by simp)⟩
  refine ⟨fun b => if b = w.heap.size then k else col b, fun j hj => ?_⟩
  obtain ⟨a1, a2, a3, a4, a5, a6, a7⟩ := h j hj
  have hltH : ∀ b, (H j).ownBlock = some b → b < w.heap.size := fun b hb => (a1.lt b hb).2
  by_cases hjk : j = k
  · subst hjk
    simp only [if_true]
    refine ⟨by rw [marks_succ]; exact hown, fun b hb => ?_, by omega, ?_, fun b hb => ?_, a6, a7⟩
    · rcases hs with ⟨he, _⟩ | ⟨he, _⟩
      · rw [he] at hb
        have := hltH b hb
        rw [if_neg (by omega)]
        exact a2 b hb
      · rw [he] at hb
        obtain rfl := Option.some.inj hb
        rw [if_pos rfl]
    · refine ⟨a4.1, fun hn => ?_⟩
      obtain ⟨b, o, hA, hlt, hc⟩ := a4.2 hn
      obtain ⟨rfl, hvb⟩ := a7 b o hA
      refine ⟨b, 0, hA, Nat.lt_of_lt_of_le hlt hgrow.size, fun i u hu => ?_⟩
      rcases hs with ⟨he, hg⟩ | ⟨he, hg⟩
      · by_cases hbk : (H j).ownBlock = some b
        · have hi : i < N j := by
            have := (List.getElem?_eq_some_iff.1 hu).1
            rwa [marks_length] at this
          have hcc := hown.cells (g := b) (by rw [he, hbk]) i u (by
            rw [List.getElem?_append_left (by rw [marks_length]; omega), marks_get _ _ _ _ (by omega)]
            rw [marks_get _ _ _ _ hi] at hu
            exact hu)
          rw [Addr.add_lit] at hcc
          exact hcc
        · exact (World.cell?_of_block (a := ⟨b, 0 + i, none⟩) (hg.block b hlt (fun h' => hbk h'.symm))).trans (hc i u hu)
      · exact (World.cell?_of_block (a := ⟨b, 0 + i, none⟩) (hg.block b hlt (by simp))).trans (hc i u hu)
    · obtain ⟨c1, c2⟩ := a5 b hb
      rw [if_neg (by omega)]
      exact ⟨c1, Nat.lt_of_lt_of_le c2 hgrow.size⟩
  · simp only [if_neg hjk]
    have hHk : ∀ b, (H k).ownBlock = some b → col b = k := (h k hk).2.1
    refine ⟨a1.kept hgrow ?_, fun b hb => ?_, a3, ?_, fun b hb => ?_, a6, a7⟩
    · by_cases hn : (H j).ownBlock = none
      · exact .inl hn
      · right
        intro he
        obtain ⟨b, hb⟩ := Option.ne_none_iff_exists'.1 hn
        have c1 := a2 b hb
        have c2 := hHk b (by rw [← he]; exact hb)
        omega
    · have := hltH b hb
      rw [if_neg (by omega)]
      exact a2 b hb
    · refine ⟨a4.1, fun hn => ?_⟩
      obtain ⟨b, o, hA, hlt, hc⟩ := a4.2 hn
      obtain ⟨rfl, hvb⟩ := a7 b o hA
      refine ⟨b, 0, hA, Nat.lt_of_lt_of_le hlt hgrow.size, fun i u hu => ?_⟩
      have hne : some b ≠ (H k).ownBlock := by
        intro he
        have c1 := (a5 b hvb).1
        have c2 := hHk b he.symm
        omega
      exact (World.cell?_of_block (a := ⟨b, 0 + i, none⟩) (hgrow.block b hlt hne)).trans (hc i u hu)
    · obtain ⟨c1, c2⟩ := a5 b hb
      rw [if_neg (by omega)]
      exact ⟨c1, Nat.lt_of_lt_of_le c2 hgrow.size⟩
end
end Go.Proofs.YtkbigejknkamiaaDoor.Ap
