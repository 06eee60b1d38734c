/- Memory words for 'have these lists memory of their own?', elements of K cells: several rows of the call's own, each in blocks of its own colour; stores into them, appends onto them. -/
import Derived.Test.YtnlkmljdcmfogaaGreatDoorOwn0
import Derived.Deep.MidRow
import Derived.Laws.OwnMore
namespace Go.Proofs.YtnlkmljdcmfogaaGreatDoor.Ak
open Go.RowKit

theorem refl_grown (w : World) (row : Option Nat) : w.grownBy w row := ⟨rfl, rfl, rfl, Nat.le_refl _, fun _ _ _ => rfl⟩
theorem trans_grown {a b c : World} {row : Option Nat} (h : a.grownBy b row) (k : b.grownBy c row) : a.grownBy c row :=
  ⟨k.os.trans h.os, k.tape.trans h.tape, k.output.trans h.output, Nat.le_trans h.size k.size, fun i hi hne => (k.block i (Nat.lt_of_lt_of_le hi h.size) hne).trans (h.block i hi hne)⟩
/-- append onto a row of the call's own: in place, or into a new block; and in which of the two nothing else turns. -/
theorem run_append_split {P : Program} (w : World) (base : Nat) (t ty e : TypeId) (i : TypeInfo) (z : Value) (size bytes : Nat) (ht : P.underlying t = some (.slice e)) (hi : P.info? e = some i) (hz : i.zero = some z)
    (hsize : i.size = size) (hby : i.bytes = bytes) (hzs : z.cells.size = size) (hsz : 0 < size)
    (v : Value) (n : Nat) (xs : List Value) (hown : w.ownsRow base e size v n xs)
    (a : Addr) (m c : Nat) (news : List Value) (hl : news.length = m * size) (hnews : ∀ j u, news[j]? = some u → w.cell? (a.add j) = some u) (h1 : ∀ u ∈ news, u.oneCell' = true)
    (h63 : n + m ≤ maxLen) (hbytes : (n + m) * bytes ≤ 140737488355328) (hbase : base ≤ w.heap.size) (hm : 0 < m) :
    ∃ v' w', (Builtin.append_ #[t, t] ty #[v, .slice (some a) m c]).run P w = .ok v' w' ∧ w'.ownsRow base e size v' (n + m) (xs ++ news) ∧
      ((v'.ownBlock = v.ownBlock ∧ w.grownBy w' v.ownBlock) ∨ (v'.ownBlock = some w.heap.size ∧ w.grownBy w' none)) := by
  subst hsize
  subst hby
  have hsmall : n + m ≤ 9223372036854775807 := by simp only [maxLen] at h63; omega
  have hlen : (xs ++ news).length = (n + m) * i.size := by rw [List.length_append, hown.1, hl, Nat.add_mul]
  have grown : ∀ (old : Nat), old < n + m → ∀ (row : Option Nat),
      (w.drew.alloc (.cells (xs.toArray ++ news.toArray ++ Builtin.zeroCells z.cells (grownCap w (n + m) old e - (n + m))) e)).ownsRow base e i.size
        (.slice (some ⟨w.heap.size, 0, none⟩) (n + m) (grownCap w (n + m) old e)) (n + m) (xs ++ news) ∧
      w.grownBy (w.drew.alloc (.cells (xs.toArray ++ news.toArray ++ Builtin.zeroCells z.cells (grownCap w (n + m) old e - (n + m))) e)) row := by
    intro old ho row
    have hge := grownCap_ge w (n + m) old e
    have hcm : grownCap w (n + m) old e ≤ maxLen := grownCap_le_maxLen w (n + m) old e h63
    refine ⟨⟨hlen, .inr ⟨w.heap.size, _, _, rfl, hbase, heap_alloc_new w.drew _, hge, hcm, ?_, ?_⟩⟩, ⟨rfl, rfl, rfl, by simp, fun k hk _ => Below.heap_alloc w.drew _ k hk⟩⟩
    · simp only [Array.size_append, List.size_toArray, size_zeroCells, hzs, hown.1, hl, ← Nat.add_mul]
      congr 1
      omega
    · simp only [Array.toList_append, List.append_assoc]
      rw [← List.append_assoc, ← hlen]
      exact List.take_left
  rcases hown.2 with ⟨rfl, rfl⟩ | ⟨g, cap, cur, rfl, hbg, hg, hnc, hcm, hcs, htake⟩
  · have hx : xs = [] := List.eq_nil_of_length_eq_zero (by simpa using hown.1)
    subst hx
    have hr := run_append_nil (P := P) w t ty e i z ht hi hz a m c news hl hnews (by omega) (by omega) (by have hb := hbytes; simp only [Nat.zero_add] at hb; omega)
    have hgr := grown 0 (by omega) none
    simp only [Nat.zero_add, List.nil_append, Array.empty_append] at hgr ⊢
    exact ⟨_, _, hr, hgr.1, Or.inr ⟨rfl, hgr.2⟩⟩
  · by_cases hroom : n + m ≤ cap
    · have hfit : n * i.size + news.length ≤ cur.size := by rw [hl, hcs, ← Nat.add_mul]; exact Nat.mul_le_mul_right _ hroom
      have hr := run_append_room (P := P) w t ty e i ht hi g n cap cur hg a m c news hl hnews h1 hroom hfit
      refine ⟨_, _, hr, ⟨hlen, .inr ⟨g, cap, _, rfl, hbg, setRow_heap w g cur _ e _ hg, hroom, hcm, ?_, ?_⟩⟩, Or.inl ⟨rfl, ⟨rfl, rfl, rfl, by simp, fun k _ hk => setRow_other w g k _ (fun e => hk (by simp [Value.ownBlock, e]))⟩⟩⟩
      · simp only [List.size_toArray, List.length_append, List.length_take, List.length_drop, Array.length_toList]
        omega
      · rw [htake, ← hlen]
        exact List.take_left
    · have holds : ∀ j u, xs[j]? = some u → w.cell? ((⟨g, 0, none⟩ : Addr).add j) = some u := hown.cells (g := g) rfl
      have hr := run_append_grow (P := P) w t ty e i z ht hi hz ⟨g, 0, none⟩ n cap xs hown.1 holds a m c news hl hnews (by omega) (by omega) (growslice_fits (by omega) hbytes)
      have hgr := grown cap (by omega) none
      exact ⟨_, _, hr, hgr.1, Or.inr ⟨rfl, hgr.2⟩⟩
theorem wpList_app_split {P : Program} {W : World} {ops : Array Oper} {rest : List Oper} {o : Oper} {a : Act} {Q : Exit → Act → World → Prop} (hgd : o.guard = none) (s x : Operand) (t : TypeId)
    (ho : o.op = .call { callee := .builtin .append, args := #[s, x], argTypes := #[t, t] })
    {e : TypeId} {z : Value} {k bytes : Nat} (E : ElemK P t e z k bytes)
    (base : Nat) (v : Value) (n : Nat) (xs : List Value) (hs : a.eval s = v) (hown : W.ownsRow base e k v n xs)
    (ad : Addr) (m c : Nat) (news : List Value) (hx : a.eval x = .slice (some ad) m c) (hl : news.length = m * k) (hnews : ∀ j u, news[j]? = some u → W.cell? (ad.add j) = some u) (h1 : ∀ u ∈ news, u.oneCell' = true)
    (h63 : n + m ≤ 9223372036854775807) (hbytes : (n + m) * bytes ≤ 140737488355328) (hbase : base ≤ W.heap.size) (hm : 0 < m)
    (h : ∀ v' w', w'.ownsRow base e k v' (n + m) (xs ++ news) → ((v'.ownBlock = v.ownBlock ∧ W.grownBy w' v.ownBlock) ∨ (v'.ownBlock = some W.heap.size ∧ W.grownBy w' none)) → wpList P ops Q rest (a.put o.dst v') w') : wpList P ops Q (o :: rest) a W := by
  obtain ⟨i, hi, hz, hsz, hby⟩ := info_parts E.hi
  refine wpList_plain hgd fun K hK => ?_
  obtain ⟨v', w', hr, h2, h3⟩ := run_append_split (P := P) W base t o.type e i z k bytes E.ht hi hz hsz hby E.hz E.h0 v n xs hown ad m c news hl hnews h1 (by unfold maxLen; omega) hbytes hbase hm
  unfold Oper.wp execOp
  simp only [ho, resolve, invoke, builtin, Sem.run_bind, Sem.run_pure, Result.andThen_ok, List.map_toArray, List.map_cons, List.map_nil, hs, hx, hr]
  exact hK _ _ (h v' w' h2 h3)
theorem split_grown {w w' : World} {v v' : Value} (h : (v'.ownBlock = v.ownBlock ∧ w.grownBy w' v.ownBlock) ∨ (v'.ownBlock = some w.heap.size ∧ w.grownBy w' none)) : w.grownBy w' v.ownBlock := by
  rcases h with ⟨_, hg⟩ | ⟨_, hg⟩
  · exact hg
  · exact ⟨hg.os, hg.tape, hg.output, hg.size, fun i hi _ => hg.block i hi (by simp)⟩
/-- rows of different element types lie in different blocks. -/
theorem own_ne {w : World} {b b' : Nat} {e e' : TypeId} {size size' : Nat} {v v' : Value} {n n' : Nat} {xs xs' : List Value} (h : w.ownsRow b e size v n xs) (h' : w.ownsRow b' e' size' v' n' xs') (hne : e ≠ e') : v.ownBlock = none ∨ v.ownBlock ≠ v'.ownBlock := by
  rcases h.2 with ⟨rfl, _⟩ | ⟨g, cap, cur, rfl, _, hg, _⟩
  · exact .inl rfl
  · right
    rcases h'.2 with ⟨rfl, _⟩ | ⟨g', cap', cur', rfl, _, hg', _⟩
    · simp [Value.ownBlock]
    · intro he
      have : g = g' := by simpa [Value.ownBlock] using he
      subst this
      rw [hg] at hg'
      injection hg' with hg'
      injection hg' with _ ht
      exact hne ht
theorem blk_ne {w : World} {b g : Nat} {e e' : TypeId} {size : Nat} {v : Value} {n : Nat} {xs : List Value} {cs : Array Value} (h : w.ownsRow b e size v n xs) (h' : w.heap[g]? = some (.cells cs e' (0, 0))) (hne : e ≠ e') : some g ≠ v.ownBlock := by
  rcases h.2 with ⟨rfl, _⟩ | ⟨g', cap, cur, rfl, _, hg, _⟩
  · simp [Value.ownBlock]
  · intro he
    have : g = g' := by simpa [Value.ownBlock] using he
    subst this
    rw [hg] at h'
    injection h' with h'
    injection h' with _ ht
    exact hne ht
/-- a row of the call's own: empty, or a block's beginning. -/
theorem own_two {w : World} {base : Nat} {e : TypeId} {k : Nat} {v : Value} {n : Nat} {xs : List Value} (h : w.ownsRow base e k v n xs) : (v = .slice none 0 0 ∧ n = 0) ∨ ∃ b c, v = .slice (some ⟨b, 0, none⟩) n c ∧ base ≤ b ∧ b < w.heap.size ∧ n ≤ c := by
  rcases h.2 with ⟨rfl, rfl⟩ | ⟨g, cap, cur, rfl, hb, hg, hn, _⟩
  · exact .inl ⟨rfl, rfl⟩
  · exact .inr ⟨g, cap, rfl, hb, (Array.getElem?_eq_some_iff.1 hg).1, hn⟩

/-- so many values put into a list. -/
def putL (xs : List Value) : Nat → List Value → List Value
  | _, [] => xs
  | o, v :: r => putL (xs.set o v) (o + 1) r
theorem putL_eq : ∀ (l A B : List Value), l.length ≤ B.length → putL (A ++ B) A.length l = A ++ l ++ B.drop l.length
  | [], A, B, _ => by simp [putL]
  | v :: r, A, [], h => by simp at h
  | v :: r, A, b :: B, h => by
    have ih := putL_eq r (A ++ [v]) B (by simpa using h)
    have e1 : (A ++ b :: B).set A.length v = (A ++ [v]) ++ B := by
      rw [List.set_append, if_neg (by omega), Nat.sub_self, List.set_cons_zero, List.append_assoc]
      rfl
    have e2 : (A ++ [v]).length = A.length + 1 := by simp
    unfold putL
    rw [e1, ← e2, ih]
    simp
theorem own_setCells {base g : Nat} {e : TypeId} {k n cap : Nat} : ∀ (l : List Value) (o : Nat) (w : World) (xs : List Value), w.ownsRow base e k (.slice (some ⟨g, 0, none⟩) n cap) n xs →
    (w.setCells g o l).ownsRow base e k (.slice (some ⟨g, 0, none⟩) n cap) n (putL xs o l) ∧ w.grownBy (w.setCells g o l) (some g)
  | [], _, w, _, h => ⟨h, refl_grown w _⟩
  | v :: r, o, w, xs, h => by
    have h1 := h.stored o v
    have h2 := own_setCells r (o + 1) _ _ h1.1
    exact ⟨h2.1, trans_grown h1.2 h2.2⟩

/-- the marks of list j. -/
def marks (mk : Nat → Nat → List Value) (j n : Nat) : List Value := (List.range n).flatMap (mk j)
theorem marks_succ (mk : Nat → Nat → List Value) (j n : Nat) : marks mk j (n + 1) = marks mk j n ++ mk j n := by simp [marks, List.range_succ]
theorem marks_length {mk : Nat → Nat → List Value} {K : Nat} (hk : ∀ j i, (mk j i).length = K) (j : Nat) : ∀ n, (marks mk j n).length = n * K
  | 0 => by simp [marks]
  | n + 1 => by rw [marks_succ, List.length_append, marks_length hk j n, hk, Nat.add_mul, Nat.one_mul]
theorem marks_get {mk : Nat → Nat → List Value} {K : Nat} (hk : ∀ j i, (mk j i).length = K) (j : Nat) : ∀ (n i r : Nat), i < n → r < K → (marks mk j n)[i * K + r]? = (mk j i)[r]?
  | 0, _, _, h, _ => absurd h (by omega)
  | n + 1, i, r, h, hr => by
    rw [marks_succ]
    by_cases hi : i < n
    · have : i * K + r < n * K := by
        have : (i + 1) * K ≤ n * K := Nat.mul_le_mul_right K hi
        rw [Nat.add_mul, Nat.one_mul] at this
        omega
      rw [List.getElem?_append_left (by rw [marks_length hk]; exact this), marks_get hk j n i r hi hr]
    · obtain rfl : i = n := by omega
      rw [List.getElem?_append_right (by rw [marks_length hk]; omega), marks_length hk, Nat.add_sub_cancel_left]

/-- what list j holds when the first k lists, and i places of list k, are written over. -/
def cont (mk : Nat → Nat → List Value) (N : Nat → Nat) (X : Nat → List Value) (K k i j : Nat) : List Value :=
  if j < k then marks mk j (N j) else if j = k then marks mk k i ++ (X k).drop (i * K) else X j

section
variable {base B0 K m : Nat} {e : TypeId} {V : Nat → Value} {N : Nat → Nat} {mk : Nat → Nat → List Value} {X : Nat → List Value} {col : Nat → Nat} {w w' : World}

/-- while the lists are written over: each list owns its row, each row's block has the list's colour. -/
def P1 (base : Nat) (e : TypeId) (K m : Nat) (V : Nat → Value) (N : Nat → Nat) (mk : Nat → Nat → List Value) (X : Nat → List Value) (col : Nat → Nat) (k i : Nat) (w : World) : Prop :=
  ∀ j, j < m → w.ownsRow base e K (V j) (N j) (cont mk N X K k i j) ∧ ∀ b, (V j).ownBlock = some b → col b = j
theorem P1.start (h : ∀ j, j < m → w.ownsRow base e K (V j) (N j) (X j) ∧ ∀ b, (V j).ownBlock = some b → col b = j) : P1 base e K m V N mk X col 0 0 w := by
  intro j hj
  refine ⟨?_, (h j hj).2⟩
  have : cont mk N X K 0 0 j = X j := by
    unfold cont
    rw [if_neg (by omega)]
    split
    · rename_i h0; subst h0; simp [marks]
    · rfl
  rw [this]
  exact (h j hj).1
theorem P1.next {k : Nat} (h : P1 base e K m V N mk X col k (N k) w) (hX : ∀ j, j < m → (X j).length = N j * K) : P1 base e K m V N mk X col (k + 1) 0 w := by
  intro j hj
  refine ⟨?_, (h j hj).2⟩
  have : cont mk N X K (k + 1) 0 j = cont mk N X K k (N k) j := by
    unfold cont
    by_cases h1 : j < k
    · rw [if_pos (by omega), if_pos h1]
    · by_cases h2 : j = k
      · subst h2
        rw [if_pos (by omega), if_neg (by omega), if_pos rfl, List.drop_of_length_le (by rw [hX j hj]; omega), List.append_nil]
      · rw [if_neg (by omega), if_neg h1, if_neg h2]
        split
        · rename_i h3; subst h3; simp [marks]
        · rfl
  rw [this]
  exact (h j hj).1
theorem P1.below {k i : Nat} (h : P1 base e K m V N mk X col k i w) (hb : Below w.heap.size w w') : P1 base e K m V N mk X col k i w' :=
  fun j hj => ⟨own_below (h j hj).1 hb, (h j hj).2⟩
theorem P1.form {k i j : Nat} (h : P1 base e K m V N mk X col k i w) (hj : j < m) : ∃ A c, V j = .slice A (N j) c := ownk_form (h j hj).1
theorem P1.at_ {k i : Nat} (h : P1 base e K m V N mk X col k i w) (hk : k < m) (hi : i < N k) :
    ∃ b c, V k = .slice (some ⟨b, 0, none⟩) (N k) c ∧ base ≤ b ∧ b < w.heap.size ∧ N k ≤ c ∧ w.there b (i * K) K := by
  have ho := (h k hk).1
  rcases own_two ho with ⟨_, h0⟩ | ⟨b, c, hv, hb, hlt, hc⟩
  · omega
  · refine ⟨b, c, hv, hb, hlt, hc, fun r hr => ?_⟩
    rw [hv] at ho
    have hlt2 : i * K + r < N k * K := by
      have : (i + 1) * K ≤ N k * K := Nat.mul_le_mul_right K hi
      rw [Nat.add_mul, Nat.one_mul] at this
      omega
    refine ⟨?_, ho.frozenAt _⟩
    rw [ho.cellAt _ hlt2, List.getElem?_eq_getElem (by rw [ho.1]; exact hlt2)]
    rfl
theorem P1.store {k i b c : Nat} (hmk : ∀ j i, (mk j i).length = K) (h : P1 base e K m V N mk X col k i w) (hk : k < m) (hi : i < N k) (hX : (X k).length = N k * K) (hV : V k = .slice (some ⟨b, 0, none⟩) (N k) c) :
    P1 base e K m V N mk X col k (i + 1) (w.setCells b (i * K) (mk k i)) := by
  intro j hj
  refine ⟨?_, (h j hj).2⟩
  by_cases hjk : j = k
  · subst hjk
    have ho := (h j hj).1
    rw [hV] at ho ⊢
    have hs := (own_setCells (mk j i) (i * K) _ _ ho).1
    have hc : putL (cont mk N X K j i j) (i * K) (mk j i) = cont mk N X K j (i + 1) j := by
      unfold cont
      rw [if_neg (by omega), if_pos rfl, if_neg (by omega), if_pos rfl, marks_succ]
      have hle : (i + 1) * K ≤ N j * K := Nat.mul_le_mul_right K hi
      rw [Nat.add_mul, Nat.one_mul] at hle ⊢
      have := putL_eq (mk j i) (marks mk j i) ((X j).drop (i * K)) (by rw [hmk, List.length_drop, hX]; omega)
      rw [marks_length hmk, hmk, List.drop_drop] at this
      exact this
    rw [hc] at hs
    exact hs
  · have ho := (h j hj).1
    have hc : cont mk N X K k (i + 1) j = cont mk N X K k i j := by
      unfold cont
      rw [if_neg hjk, if_neg hjk]
    rw [hc]
    have ho2 := (h k hk).1
    rw [hV] at ho2
    refine ho.kept (own_setCells (mk k i) (i * K) _ _ ho2).2 ?_
    by_cases hn : (V j).ownBlock = none
    · exact .inl hn
    · right
      intro he
      have e1 := (h j hj).2 b he
      have e2 := (h k hk).2 b (by rw [hV]; rfl)
      omega

/-- a row's own block reads so. -/
def At (w : World) (v : Value) (xs : List Value) : Prop := ∀ i u, xs[i]? = some u → ∃ b, v.ownBlock = some b ∧ w.cell? ⟨b, i, none⟩ = some u
theorem At.of_own {n : Nat} {v : Value} {xs : List Value} (h : w.ownsRow base e K v n xs) : At w v xs := by
  intro i u hu
  rcases own_two h with ⟨_, rfl⟩ | ⟨b, c, rfl, _⟩
  · have := h.1
    rw [Nat.zero_mul] at this
    rw [List.eq_nil_of_length_eq_zero this] at hu
    simp at hu
  · refine ⟨b, rfl, ?_⟩
    have hi : i < n * K := by rw [← h.1]; exact (List.getElem?_eq_some_iff.1 hu).1
    rw [h.cellAt i hi]
    exact hu
theorem At.keep {v : Value} {xs : List Value} (h : At w v xs) (hk : ∀ b, v.ownBlock = some b → w'.heap[b]? = w.heap[b]?) : At w' v xs := by
  intro i u hu
  obtain ⟨b, hb, hc⟩ := h i u hu
  exact ⟨b, hb, (World.cell?_of_block (a := ⟨b, i, none⟩) (hk b hb)).trans hc⟩
/-- while marks are put behind: each list's colour has a row (H j) with so many marks (C j); the list itself reads as its marks. -/
def P2 (base B0 : Nat) (e : TypeId) (K m : Nat) (V : Nat → Value) (N : Nat → Nat) (mk : Nat → Nat → List Value) (col : Nat → Nat) (H : Nat → Value) (C : Nat → Nat) (w : World) : Prop :=
  ∀ j, j < m → w.ownsRow base e K (H j) (C j) (marks mk j (C j)) ∧ (∀ b, (H j).ownBlock = some b → col b = j) ∧ N j ≤ C j ∧ At w (V j) (marks mk j (N j)) ∧
    (∀ b, (V j).ownBlock = some b → col b = j ∧ b < w.heap.size) ∧ ((V j = .slice none 0 0 ∧ N j = 0) ∨ ∃ b c, V j = .slice (some ⟨b, 0, none⟩) (N j) c) ∧ (∀ b, (H j).ownBlock = some b → B0 ≤ b ∨ (V j).ownBlock = some b)
theorem P2.start {k : Nat} (h : P1 base e K m V N mk X col k 0 w) (hk : m ≤ k) : P2 base B0 e K m V N mk col V N w := by
  intro j hj
  have ho := (h j hj).1
  have hc : cont mk N X K k 0 j = marks mk j (N j) := by unfold cont; rw [if_pos (by omega)]
  rw [hc] at ho
  refine ⟨ho, (h j hj).2, Nat.le_refl _, At.of_own ho, fun b hb => ⟨(h j hj).2 b hb, ((ho.lt b hb)).2⟩, ?_, fun b hb => .inr hb⟩
  rcases own_two ho with h0 | ⟨b, c, hv, _⟩
  · exact .inl h0
  · exact .inr ⟨b, c, hv⟩
theorem P2.below {H : Nat → Value} {C : Nat → Nat} (h : P2 base B0 e K m V N mk col H C w) (hb : Below w.heap.size w w') : P2 base B0 e K m V N mk col H C w' := by
  intro j hj
  obtain ⟨a1, a2, a3, a4, a5, a6, a7⟩ := h j hj
  exact ⟨own_below a1 hb, a2, a3, a4.keep fun b hb' => hb.block b (a5 b hb').2, fun b hb' => ⟨(a5 b hb').1, Nat.lt_of_lt_of_le (a5 b hb').2 hb.size⟩, a6, a7⟩
theorem P2.form {H : Nat → Value} {C : Nat → Nat} (h : P2 base B0 e K m V N mk col H C w) {j : Nat} (hj : j < m) : ∃ A c, V j = .slice A (N j) c := by
  rcases (h j hj).2.2.2.2.2.1 with ⟨e1, e0⟩ | ⟨b, c, e1⟩
  · exact ⟨none, 0, by rw [e1, e0]⟩
  · exact ⟨_, _, e1⟩
/-- a row of another kind is written, or made. -/
theorem P2.grown {H : Nat → Value} {C : Nat → Nat} {row : Option Nat} (h : P2 base B0 e K m V N mk col H C w) (hg : w.grownBy w' row) (hr : ∀ j, j < m → ((H j).ownBlock = none ∨ (H j).ownBlock ≠ row) ∧ ((V j).ownBlock = none ∨ (V j).ownBlock ≠ row)) : P2 base B0 e K m V N mk col H C w' := by
  intro j hj
  obtain ⟨a1, a2, a3, a4, a5, a6, a7⟩ := h j hj
  refine ⟨a1.kept hg (hr j hj).1, a2, a3, a4.keep fun b hb => ?_, fun b hb' => ⟨(a5 b hb').1, Nat.lt_of_lt_of_le (a5 b hb').2 hg.size⟩, a6, a7⟩
  refine hg.block b (a5 b hb).2 ?_
  rcases (hr j hj).2 with h' | h'
  · rw [h'] at hb; cases hb
  · rw [hb] at h'; exact h'
/-- a mark is put behind row k. -/
theorem P2.app {H : Nat → Value} {C : Nat → Nat} {k : Nat} {v' : Value} (hB0 : B0 ≤ w.heap.size) (hmk : ∀ j i, (mk j i).length = K) (h : P2 base B0 e K m V N mk col H C w) (hk : k < m)
    (hown : w'.ownsRow base e K v' (C k + 1) (marks mk k (C k) ++ mk k (C k)))
    (hs : (v'.ownBlock = (H k).ownBlock ∧ w.grownBy w' (H k).ownBlock) ∨ (v'.ownBlock = some w.heap.size ∧ w.grownBy w' none)) :
    ∃ col', P2 base B0 e K m V N mk col' (fun j => if j = k then v' else H j) (fun j => if j = k then C k + 1 else C j) w' := by
  have hgrow : w.grownBy w' (H k).ownBlock := split_grown hs
  refine ⟨fun b => if b = w.heap.size then k else col b, fun j hj => ?_⟩
  obtain ⟨a1, a2, a3, a4, a5, a6, a7⟩ := h j hj
  have hltH : ∀ b, (H j).ownBlock = some b → b < w.heap.size := fun b hb => (a1.lt b hb).2
  by_cases hjk : j = k
  · subst hjk
    simp only [if_true]
    refine ⟨by rw [marks_succ]; exact hown, fun b hb => ?_, by omega, ?_, fun b hb => ?_, a6, fun b hb => ?_⟩
    · rcases hs with ⟨he, _⟩ | ⟨he, _⟩
      · rw [he] at hb
        have := hltH b hb
        rw [if_neg (by omega)]
        exact a2 b hb
      · rw [he] at hb
        obtain rfl := Option.some.inj hb
        rw [if_pos rfl]
    · intro i u hu
      obtain ⟨b, hvb, hc⟩ := a4 i u hu
      refine ⟨b, hvb, ?_⟩
      have hlt := (a5 b hvb).2
      rcases hs with ⟨he, hg⟩ | ⟨he, hg⟩
      · by_cases hbk : (H j).ownBlock = some b
        · obtain ⟨b2, hb2, hc2⟩ := At.of_own hown i u (by
            have hi : i < (marks mk j (N j)).length := (List.getElem?_eq_some_iff.1 hu).1
            have hpre : (marks mk j (C j))[i]? = some u := by
              rw [marks_length hmk] at hi
              have hK : 0 < K := by
                rcases Nat.eq_zero_or_pos K with h0 | h0
                · rw [h0, Nat.mul_zero] at hi; omega
                · exact h0
              have hd := Nat.div_add_mod i K
              have hq : i / K < N j := (Nat.div_lt_iff_lt_mul hK).2 hi
              have hr := Nat.mod_lt i hK
              have e1 := marks_get hmk j (N j) (i / K) (i % K) hq hr
              have e2 := marks_get hmk j (C j) (i / K) (i % K) (Nat.lt_of_lt_of_le hq a3) hr
              have e3 : i / K * K + i % K = i := by rw [Nat.mul_comm]; exact hd
              rw [e3] at e1 e2
              rw [e2, ← e1]
              exact hu
            rw [List.getElem?_append_left (List.getElem?_eq_some_iff.1 hpre).1]
            exact hpre)
          have : b2 = b := by
            rw [he, hbk] at hb2
            exact (Option.some.inj hb2).symm
          rw [this] at hc2
          exact hc2
        · exact (World.cell?_of_block (a := ⟨b, i, none⟩) (hg.block b hlt (fun h' => hbk h'.symm))).trans hc
      · exact (World.cell?_of_block (a := ⟨b, i, none⟩) (hg.block b hlt (by simp))).trans hc
    · obtain ⟨c1, c2⟩ := a5 b hb
      rw [if_neg (by omega)]
      exact ⟨c1, Nat.lt_of_lt_of_le c2 hgrow.size⟩
    · rcases hs with ⟨he, _⟩ | ⟨he, _⟩
      · rw [he] at hb
        exact a7 b hb
      · rw [he] at hb
        obtain rfl := Option.some.inj hb
        exact .inl hB0
  · simp only [if_neg hjk]
    have hHk : ∀ b, (H k).ownBlock = some b → col b = k := (h k hk).2.1
    refine ⟨a1.kept hgrow ?_, fun b hb => ?_, a3, ?_, fun b hb => ?_, a6, a7⟩
    · by_cases hn : (H j).ownBlock = none
      · exact .inl hn
      · right
        intro he
        obtain ⟨b, hb⟩ := Option.ne_none_iff_exists'.1 hn
        have c1 := a2 b hb
        have c2 := hHk b (by rw [← he]; exact hb)
        omega
    · have := hltH b hb
      rw [if_neg (by omega)]
      exact a2 b hb
    · refine a4.keep fun b hvb => hgrow.block b (a5 b hvb).2 ?_
      intro he
      have c1 := (a5 b hvb).1
      have c2 := hHk b he.symm
      omega
    · obtain ⟨c1, c2⟩ := a5 b hb
      rw [if_neg (by omega)]
      exact ⟨c1, Nat.lt_of_lt_of_le c2 hgrow.size⟩
end
/-- what is not one of the lists' blocks is as it was. -/
structure Fr (m : Nat) (V : Nat → Value) (w w' : World) : Prop where
  os : w'.os = w.os
  tape : w'.tape = w.tape
  output : w'.output = w.output
  size : w.heap.size ≤ w'.heap.size
  block : ∀ b, b < w.heap.size → (∀ j, j < m → (V j).ownBlock ≠ some b) → w'.heap[b]? = w.heap[b]?
section
variable {m : Nat} {V : Nat → Value} {w w1 w2 : World}
theorem Fr.refl : Fr m V w w := ⟨rfl, rfl, rfl, Nat.le_refl _, fun _ _ _ => rfl⟩
theorem Fr.grown {row : Option Nat} (h : Fr m V w w1) (hg : w1.grownBy w2 row) (hr : ∀ b, row = some b → w.heap.size ≤ b ∨ ∃ j, j < m ∧ (V j).ownBlock = some b) : Fr m V w w2 :=
  ⟨hg.os.trans h.os, hg.tape.trans h.tape, hg.output.trans h.output, Nat.le_trans h.size hg.size, fun b hb hn => (hg.block b (Nat.lt_of_lt_of_le hb h.size) (fun e => by
    rcases hr b e.symm with h1 | ⟨j, hj, h2⟩
    · omega
    · exact hn j hj h2)).trans (h.block b hb hn)⟩
theorem Fr.below (h : Fr m V w w1) (hb : Below w1.heap.size w1 w2) : Fr m V w w2 := h.grown (grown_of_below hb none) (fun b e => by cases e)
theorem Fr.to_below {B : Nat} (h : Fr m V w w1) (hB : B ≤ w.heap.size) (hV : ∀ j, j < m → ∀ b, (V j).ownBlock = some b → B ≤ b) : Below B w w1 :=
  ⟨h.os, h.tape, h.output, h.size, fun b hb => h.block b (by omega) (fun j hj e => by have := hV j hj b e; omega)⟩
end
end Go.Proofs.YtnlkmljdcmfogaaGreatDoor.Ak
