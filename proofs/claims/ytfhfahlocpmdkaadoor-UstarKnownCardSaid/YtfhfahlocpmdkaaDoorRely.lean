/- A region in any order, by what each operation may rely on and must give: no orders are walked. -/
import Derived.Deep.RegionHeld
namespace Go.Proofs.YtfhfahlocpmdkaaDoor
open Go

/-- the puts of all the operations, in the order of the text. -/
def fold (D : Nat → Option Tmp) (xs : Nat → Value) : Act → List Nat → Act
  | a, [] => a
  | a, j :: l => fold D xs (a.put (D j) (xs j)) l
def slot (a : Act) : Option Tmp → Value
  | none => undef
  | some t => a.tmps.getD t undef
theorem put_slot (a : Act) (d : Option Tmp) : a.put d (slot a d) = a := by
  rcases d with _ | d
  · rfl
  · show ({ a with tmps := a.tmps.setIfInBounds d (a.tmps.getD d undef) } : Act) = a
    have : a.tmps.setIfInBounds d (a.tmps.getD d undef) = a.tmps := by
      apply Array.ext
      · simp
      · intro k h1 h2
        rw [Array.getElem_setIfInBounds]
        split
        · subst_vars; simp [Array.getD, h2]
        · rfl
    rw [this]
theorem put_put (a : Act) (d : Option Tmp) (u v : Value) : (a.put d u).put d v = a.put d v := by
  rcases d with _ | d
  · rfl
  · show ({ a with tmps := (a.tmps.setIfInBounds d u).setIfInBounds d v } : Act) = { a with tmps := a.tmps.setIfInBounds d v }
    rw [Array.setIfInBounds_setIfInBounds]
theorem fold_self (D : Nat → Option Tmp) (a : Act) : ∀ l, fold D (fun j => slot a (D j)) a l = a
  | [] => rfl
  | j :: l => by
    rw [fold, put_slot]
    exact fold_self D a l
theorem fold_put (D : Nat → Option Tmp) (xs : Nat → Value) (d : Option Tmp) (v : Value) : ∀ (l : List Nat) (a : Act), (∀ j ∈ l, ∀ t, D j = some t → d ≠ some t) → fold D xs (a.put d v) l = (fold D xs a l).put d v
  | [], _, _ => rfl
  | j :: l, a, h => by
    rw [fold, fold, ← Act.put_comm a (xs j) v (fun t ht => h j (List.mem_cons_self ..) t ht)]
    exact fold_put D xs d v l _ fun k hk => h k (List.mem_cons_of_mem _ hk)
theorem fold_congr (D : Nat → Option Tmp) {xs ys : Nat → Value} : ∀ (l : List Nat) (a : Act), (∀ j ∈ l, xs j = ys j) → fold D xs a l = fold D ys a l
  | [], _, _ => rfl
  | j :: l, a, h => by
    rw [fold, fold, h j (List.mem_cons_self ..)]
    exact fold_congr D l _ fun k hk => h k (List.mem_cons_of_mem _ hk)
def upd {α : Type} (f : Nat → α) (i : Nat) (x : α) : Nat → α := fun j => if j = i then x else f j
theorem fold_set (D : Nat → Option Tmp) (xs : Nat → Value) (i : Nat) (v : Value) : ∀ (l : List Nat) (a : Act), l.Nodup → i ∈ l → (∀ j ∈ l, j ≠ i → ∀ t, D j = some t → D i ≠ some t) →
    fold D (upd xs i v) a l = (fold D xs a l).put (D i) v
  | [], _, _, h, _ => by cases h
  | j :: l, a, hn, hi, hd => by
    obtain ⟨hn1, hn2⟩ := List.nodup_cons.1 hn
    rw [fold, fold]
    by_cases hj : j = i
    · subst hj
      have e2 : upd xs j v j = v := by simp [upd]
      rw [e2, fold_congr (ys := xs) D l _ (fun k hk => by
        have : k ≠ j := fun e => hn1 (e ▸ hk)
        simp [upd, this]), ← fold_put D xs (D j) v l _ fun k hk t ht => hd k (List.mem_cons_of_mem _ hk) (fun e => hn1 (e ▸ hk)) t ht, put_put]
    · have e2 : upd xs i v j = xs j := by simp [upd, hj]
      rw [e2]
      have hi' : i ∈ l := by
        rw [List.mem_cons] at hi
        rcases hi with rfl | hi
        · exact absurd rfl hj
        · exact hi
      exact fold_set D xs i v l _ hn2 hi' fun k hk => hd k (List.mem_cons_of_mem _ hk)
theorem filter_le {p q : Nat → Bool} : ∀ (l : List Nat), (∀ j, p j = true → q j = true) → (l.filter p).length ≤ (l.filter q).length
  | [], _ => Nat.le_refl _
  | j :: l, h => by
    have := filter_le l h
    rw [List.filter_cons, List.filter_cons]
    rcases hp : p j with _ | _
    · rcases hq : q j with _ | _
      · simpa using this
      · simp only [Bool.false_eq_true, if_false, if_true, List.length_cons]; omega
    · simp only [h j hp, if_true, List.length_cons]; omega
theorem filter_lt {p q : Nat → Bool} {i : Nat} (hp : p i = false) (hq : q i = true) : ∀ (l : List Nat), i ∈ l → (∀ j, p j = true → q j = true) → (l.filter p).length < (l.filter q).length
  | [], h, _ => by cases h
  | j :: l, hi, h => by
    have hle := filter_le l h
    rw [List.filter_cons, List.filter_cons]
    by_cases hj : j = i
    · subst hj
      simp only [hp, hq, Bool.false_eq_true, if_false, if_true, List.length_cons]; omega
    · have hi' : i ∈ l := by
        rw [List.mem_cons] at hi
        rcases hi with rfl | hi
        · exact absurd rfl hj
        · exact hi
      have := filter_lt hp hq l hi' h
      rcases hpj : p j with _ | _
      · rcases hqj : q j with _ | _
        · simpa using this
        · simp only [Bool.false_eq_true, if_false, if_true, List.length_cons]; omega
      · simp only [h j hpj, if_true, List.length_cons]; omega

section
variable {P : Program} {ops : Array Oper} {Q : Exit → Act → World → Prop}
def dstOf (ops : Array Oper) (j : Nat) : Option Tmp := (ops[j]?).bind (·.dst)
def isOn (listed : Array Bool) (j : Nat) : Bool := listed.getD j true
/-- the frame with the operations' slots as xs tells. -/
def frameX (ops : Array Oper) (a0 : Act) (xs : Nat → Value) : Act := fold (dstOf ops) xs a0 (List.range ops.size)
def frameL (xs : Nat → Value) : Act → Nat → List Oper → Act
  | a, _, [] => a
  | a, k, o :: l => frameL xs (a.put o.dst (xs k)) (k + 1) l
theorem frameL_eq (ops : Array Oper) (xs : Nat → Value) : ∀ (l : List Oper) (k : Nat) (a : Act), (∀ i, l[i]? = ops[k + i]?) → k + l.length = ops.size → fold (dstOf ops) xs a ((List.range' k l.length)) = frameL xs a k l
  | [], _, _, _, _ => rfl
  | o :: l, k, a, h, hs => by
    have h0 : dstOf ops k = o.dst := by
      have := h 0
      simp only [List.getElem?_cons_zero, Nat.add_zero] at this
      simp [dstOf, ← this]
    rw [List.length_cons, List.range'_succ, fold, frameL, h0]
    refine frameL_eq ops xs l (k + 1) _ (fun i => ?_) (by simp only [List.length_cons] at hs; omega)
    have := h (i + 1)
    rw [List.getElem?_cons_succ] at this
    rw [this, Nat.add_assoc, Nat.add_comm 1 i]
theorem frameX_eq (ops : Array Oper) (a : Act) (xs : Nat → Value) : frameX ops a xs = frameL xs a 0 ops.toList := by
  rw [frameX, List.range_eq_range']
  exact frameL_eq ops xs ops.toList 0 a (fun i => by simp) (by simp)
/-- the operations that must have come up. -/
def needs (o : Oper) : List Nat := (o.after.toList.filter (Region.binds .any)).map (·.on)
def AllV (V : Nat → Value → World → Prop) (xs : Nat → Value) (w : World) : List Nat → Prop
  | [] => True
  | j :: l => V j (xs j) w ∧ AllV V xs w l
theorem AllV.of {V : Nat → Value → World → Prop} {xs : Nat → Value} {w : World} : ∀ l, (∀ j ∈ l, V j (xs j) w) → AllV V xs w l
  | [], _ => trivial
  | j :: l, h => ⟨h j (List.mem_cons_self ..), AllV.of l fun k hk => h k (List.mem_cons_of_mem _ hk)⟩
/-- what is asked of one operation. -/
def StepOk (P : Program) (ops : Array Oper) (Q : Exit → Act → World → Prop) (F : (Nat → Value) → Act) (S : World → Prop) (V : Nat → Value → World → Prop) (i : Nat) (o : Oper) : Prop :=
  ∀ (xs : Nat → Value) (w : World), S w → AllV V xs w (needs o) →
    ∀ K : Act → World → Prop, Shut (∀ v w', S w' → V i v w' → (∀ j u, V j u w → V j u w') → K ((F xs).put o.dst v) w') →
      if Region.wanted o (yielded ops (F xs).tmps) = true then Oper.wp P o (F xs) w K Q else K ((F xs).put o.dst undef) w
def Steps (P : Program) (ops : Array Oper) (Q : Exit → Act → World → Prop) (F : (Nat → Value) → Act) (S : World → Prop) (V : Nat → Value → World → Prop) : Nat → List Oper → Prop
  | _, [] => True
  | i, o :: l => StepOk P ops Q F S V i o ∧ Steps P ops Q F S V (i + 1) l
theorem Steps.nil {F : (Nat → Value) → Act} {S : World → Prop} {V : Nat → Value → World → Prop} {i : Nat} : Steps P ops Q F S V i [] := trivial
theorem AllV.get {V : Nat → Value → World → Prop} {xs : Nat → Value} {w : World} : ∀ l, AllV V xs w l → ∀ j ∈ l, V j (xs j) w
  | [], _, _, h => by cases h
  | i :: l, h, j, hj => by
    rw [List.mem_cons] at hj
    rcases hj with rfl | hj
    · exact h.1
    · exact AllV.get l h.2 j hj
theorem Steps.cons {F : (Nat → Value) → Act} {S : World → Prop} {V : Nat → Value → World → Prop} {i k : Nat} {o : Oper} {l : List Oper} {n : List Nat} (hk : i + 1 = k) (hn : (n.all fun j => (needs o).contains j) = true)
    (h : ∀ (xs : Nat → Value) (w : World), S w → AllV V xs w n →
    ∀ K : Act → World → Prop, Shut (∀ v w', S w' → V i v w' → (∀ j u, V j u w → V j u w') → K ((F xs).put o.dst v) w') →
      if Region.wanted o (yielded ops (F xs).tmps) = true then Oper.wp P o (F xs) w K Q else K ((F xs).put o.dst undef) w) (hs : Steps P ops Q F S V k l) : Steps P ops Q F S V i (o :: l) := by
  subst hk
  refine ⟨fun xs w hS hV => h xs w hS (AllV.of _ fun j hj => AllV.get _ hV j ?_), hs⟩
  have := List.all_eq_true.1 hn j hj
  simpa using this
theorem Steps.get {F : (Nat → Value) → Act} {S : World → Prop} {V : Nat → Value → World → Prop} : ∀ (l : List Oper) (i k : Nat) (o : Oper), Steps P ops Q F S V i l → l[k]? = some o → StepOk P ops Q F S V (i + k) o
  | [], _, _, _, _, h => by simp at h
  | x :: l, i, 0, o, hs, h => by
    simp at h
    subst h
    exact hs.1
  | x :: l, i, k + 1, o, hs, h => by
    have := Steps.get l (i + 1) k o hs.2 (by simpa using h)
    rwa [Nat.add_assoc, Nat.add_comm 1 k] at this
/-- the dsts are apart; each edge leads back. -/
def apartB (ops : Array Oper) : Bool := (List.range ops.size).all fun i => (List.range ops.size).all fun j => j == i || (dstOf ops j).isNone || dstOf ops j != dstOf ops i
def backB : Nat → List Oper → Bool
  | _, [] => true
  | i, o :: l => (o.after.toList.all fun e => decide (e.on < i)) && backB (i + 1) l
theorem backB.get : ∀ (l : List Oper) (i k : Nat) (o : Oper), backB i l = true → l[k]? = some o → ∀ e ∈ o.after, e.on < i + k
  | [], _, _, _, _, h => by simp at h
  | x :: l, i, 0, o, hs, h => by
    simp at h
    subst h
    rw [backB, Bool.and_eq_true, List.all_eq_true] at hs
    intro e he
    simpa using hs.1 e (by simpa using he)
  | x :: l, i, k + 1, o, hs, h => by
    rw [backB, Bool.and_eq_true] at hs
    intro e he
    have := backB.get l (i + 1) k o hs.2 (by simpa using h) e he
    omega
theorem wpAny_rely (a0 : Act) (F : (Nat → Value) → Act) (hF : ∀ xs, frameX ops a0 xs = F xs) (S : World → Prop) (V : Nat → Value → World → Prop)
    (hd : apartB ops = true) (hacyc : backB 0 ops.toList = true) (hstep : Steps P ops Q F S V 0 ops.toList)
    (hQ : ∀ (xs : Nat → Value) (w : World), S w → (∀ j, j < ops.size → V j (xs j) w) → Q .normal (F xs) w) :
    ∀ (fuel : Nat) (listed : Array Bool) (xs : Nat → Value) (w : World), listed.size = ops.size → ((List.range ops.size).filter fun j => !isOn listed j).length ≤ fuel → S w → (∀ j, j < ops.size → isOn listed j = true → V j (xs j) w) →
      wpAny P .any ops Q fuel listed (frameX ops a0 xs) w := by
  have hback : ∀ (i : Nat) (o : Oper), ops[i]? = some o → ∀ e ∈ o.after, e.on < i := fun i o h e he => by
    have := backB.get _ 0 i o hacyc (by simpa using h) e he
    omega
  have hend : ∀ (listed : Array Bool) (xs : Nat → Value) (w : World), listed.size = ops.size → S w → (∀ j, j < ops.size → isOn listed j = true → V j (xs j) w) → Region.ready .any ops listed = [] → Q .normal (frameX ops a0 xs) w := by
    intro listed xs w hl hS hV hr
    have hall : ∀ j, j < ops.size → isOn listed j = true := by
      intro j
      induction j using Nat.strongRecOn with
      | _ j ih =>
        intro hj
        rcases hx : isOn listed j with _ | _
        · exfalso
          have hm : j ∈ Region.ready .any ops listed := mem_ready.2 ⟨hx, ops[j], Array.getElem?_eq_getElem hj, fun e he _ => by
            have h1 := hback j _ (Array.getElem?_eq_getElem hj) e he
            have h2 := ih e.on h1 (by omega)
            have h3 : e.on < listed.size := by omega
            simp only [isOn, Array.getD, h3, dif_pos] at h2 ⊢
            exact h2⟩
          rw [hr] at hm
          cases hm
        · rfl
    rw [hF]
    exact hQ xs w hS fun j hj => hV j hj (hall j hj)
  intro fuel
  induction fuel with
  | zero =>
    intro listed xs w hl hf hS hV
    have hr : Region.ready .any ops listed = [] := by
      apply List.eq_nil_iff_forall_not_mem.2
      intro j hj
      obtain ⟨h1, o, h2, _⟩ := mem_ready.1 hj
      have hjs : j < ops.size := (Array.getElem?_eq_some_iff.1 h2).1
      have : j ∈ (List.range ops.size).filter fun j => !isOn listed j := List.mem_filter.2 ⟨List.mem_range.2 hjs, by simp [isOn, h1]⟩
      rw [List.eq_nil_of_length_eq_zero (Nat.le_zero.1 hf)] at this
      cases this
    exact ⟨hr, hend listed xs w hl hS hV hr⟩
  | succ fuel ih =>
    intro listed xs w hl hf hS hV
    refine ⟨fun hr => hend listed xs w hl hS hV hr, fun i hi => ?_⟩
    obtain ⟨h1, o, h2, h3⟩ := mem_ready.1 hi
    have his : i < ops.size := (Array.getElem?_eq_some_iff.1 h2).1
    have hon : isOn listed i = false := h1
    have hset : ∀ j, isOn (listed.setIfInBounds i true) j = upd (isOn listed) i true j := by
      intro j
      by_cases hj : j = i
      · subst hj
        simp [isOn, upd, Array.getD, hl, his]
      · simp only [upd, hj, if_false]
        exact getD_set_ne true (Ne.symm hj)
    have e1 : o.dst = dstOf ops i := by simp [dstOf, h2]
    have hst := Steps.get _ 0 i o hstep (by simpa using h2)
    rw [Nat.zero_add] at hst
    have hneed : AllV V xs w (needs o) := AllV.of _ fun j hj => by
      obtain ⟨e, he, rfl⟩ := List.mem_map.1 hj
      obtain ⟨he1, he2⟩ := List.mem_filter.1 he
      have he1 : e ∈ o.after := by simpa using he1
      have h4 := h3 e he1 he2
      have hlt := hback i o h2 e he1
      have h5 : e.on < listed.size := by omega
      refine hV _ (by omega) ?_
      simp only [isOn, Array.getD, h5, dif_pos] at h4 ⊢
      exact h4
    refine wpOp_step h2 fun K hK => ?_
    rw [hF]
    refine hst xs w hS hneed K fun v w' hS' hVi hkeep => ?_
    have hfr : (F xs).put o.dst v = frameX ops a0 (upd xs i v) := by
      rw [← hF, e1, frameX, frameX, fold_set (dstOf ops) xs i v _ _ List.nodup_range (List.mem_range.2 his) fun j hj hne t ht hc => ?_]
      have := List.all_eq_true.1 (List.all_eq_true.1 hd i (List.mem_range.2 his)) j hj
      rw [ht, hc] at this
      simp [hne] at this
    rw [hfr]
    refine hK _ _ (ih _ _ _ (by simp [hl]) ?_ hS' ?_)
    · have : ((List.range ops.size).filter fun j => !isOn (listed.setIfInBounds i true) j).length < ((List.range ops.size).filter fun j => !isOn listed j).length := by
        refine filter_lt (i := i) (by rw [hset]; simp [upd]) (by simp [hon]) _ (List.mem_range.2 his) fun j hj => ?_
        rw [hset] at hj
        by_cases hji : j = i
        · subst hji; simp [hon]
        · simpa [upd, hji] using hj
      omega
    · intro j hj hjon
      rw [hset] at hjon
      by_cases hji : j = i
      · subst hji
        simpa [upd] using hVi
      · simp only [upd, hji, if_false] at hjon ⊢
        exact hkeep j _ (hV j hj hjon)
/-- The law for a drawn region. S: of the worlds. V: of each operation's value. F: the frame with the operations' slots open. -/
theorem wp_region_rely {id : Nat} {a : Act} {w : World} (S : World → Prop) (V : Nat → Value → World → Prop) (F : (Nat → Value) → Act) (hF : ∀ xs, frameX ops a xs = F xs)
    (hm : P.follows .mixedOrders = true) (hd : apartB ops = true) (hacyc : backB 0 ops.toList = true) (hS : S w.drew) (hstep : Steps P ops Q F S V 0 ops.toList)
    (hQ : ∀ (xs : Nat → Value) (w : World), S w → (∀ j, j < ops.size → V j (xs j) w) → Q .normal (F xs) w) : (Code.region id ops true).wp P Q a w := by
  refine wp_region_any hm ?_
  have h := wpAny_rely a F hF S V hd hacyc hstep hQ ops.size (Array.replicate ops.size false) (fun j => slot a (dstOf ops j)) w.drew (by simp) (Nat.le_trans (List.length_filter_le _ _) (by simp)) hS (fun j hj h => by simp [isOn, Array.getD, hj] at h)
  rw [frameX, fold_self] at h
  exact h
end
end Go.Proofs.YtfhfahlocpmdkaaDoor
