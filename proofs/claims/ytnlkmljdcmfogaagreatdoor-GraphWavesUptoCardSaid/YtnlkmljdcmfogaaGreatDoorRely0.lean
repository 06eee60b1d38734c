/- A region in any order, by what each operation may rely on and must give: no orders are walked. A region in any order, its last operations in a forced row. Slices of texts; strings.HasPrefix, TrimPrefix. -/
import Derived.Deep.RegionHeld
import Derived.StillTail
import Derived.Test.YtnlkmljdcmfogaaGreatDoorProg
import Derived.Ground.NamesProg
import Derived.Test.YtnlkmljdcmfogaaGreatDoorOwn0
import Derived.Shelf.Abstract
import Derived.Shelf.RegionOpen
import Derived.Shelf.Strings.Prefix
import Derived.Lib.Hide
namespace Go.Proofs.YtnlkmljdcmfogaaGreatDoor
open Go

/-- the puts of all the operations, in the order of the text. -/
def fold (D : Nat → Option Tmp) (xs : Nat → Value) : Act → List Nat → Act
  | a, [] => a
  | a, j :: l => fold D xs (a.put (D j) (xs j)) l
def slot (a : Act) : Option Tmp → Value
  | none => undef
  | some t => a.tmps.getD t undef
theorem put_slot (a : Act) (d : Option Tmp) : a.put d (slot a d) = a := by
  rcases d with _ | d
  · rfl
  · show ({ a with tmps := a.tmps.setIfInBounds d (a.tmps.getD d undef) } : Act) = a
    have : a.tmps.setIfInBounds d (a.tmps.getD d undef) = a.tmps := by
      apply Array.ext
      · simp
      · intro k h1 h2
        rw [Array.getElem_setIfInBounds]
        split
        · subst_vars; simp [Array.getD, h2]
        · rfl
    rw [this]
theorem put_put (a : Act) (d : Option Tmp) (u v : Value) : (a.put d u).put d v = a.put d v := by
  rcases d with _ | d
  · rfl
  · show ({ a with tmps := (a.tmps.setIfInBounds d u).setIfInBounds d v } : Act) = { a with tmps := a.tmps.setIfInBounds d v }
    rw [Array.setIfInBounds_setIfInBounds]
theorem fold_self (D : Nat → Option Tmp) (a : Act) : ∀ l, fold D (fun j => slot a (D j)) a l = a
  | [] => rfl
  | j :: l => by
    rw [fold, put_slot]
    exact fold_self D a l
theorem fold_put (D : Nat → Option Tmp) (xs : Nat → Value) (d : Option Tmp) (v : Value) : ∀ (l : List Nat) (a : Act), (∀ j ∈ l, ∀ t, D j = some t → d ≠ some t) → fold D xs (a.put d v) l = (fold D xs a l).put d v
  | [], _, _ => rfl
  | j :: l, a, h => by
    rw [fold, fold, ← Act.put_comm a (xs j) v (fun t ht => h j (List.mem_cons_self ..) t ht)]
    exact fold_put D xs d v l _ fun k hk => h k (List.mem_cons_of_mem _ hk)
theorem fold_congr (D : Nat → Option Tmp) {xs ys : Nat → Value} : ∀ (l : List Nat) (a : Act), (∀ j ∈ l, xs j = ys j) → fold D xs a l = fold D ys a l
  | [], _, _ => rfl
  | j :: l, a, h => by
    rw [fold, fold, h j (List.mem_cons_self ..)]
    exact fold_congr D l _ fun k hk => h k (List.mem_cons_of_mem _ hk)
def upd {α : Type} (f : Nat → α) (i : Nat) (x : α) : Nat → α := fun j => if j = i then x else f j
theorem fold_set (D : Nat → Option Tmp) (xs : Nat → Value) (i : Nat) (v : Value) : ∀ (l : List Nat) (a : Act), l.Nodup → i ∈ l → (∀ j ∈ l, j ≠ i → ∀ t, D j = some t → D i ≠ some t) →
    fold D (upd xs i v) a l = (fold D xs a l).put (D i) v
  | [], _, _, h, _ => by cases h
  | j :: l, a, hn, hi, hd => by
    obtain ⟨hn1, hn2⟩ := List.nodup_cons.1 hn
    rw [fold, fold]
    by_cases hj : j = i
    · subst hj
      have e2 : upd xs j v j = v := by simp [upd]
      rw [e2, fold_congr (ys := xs) D l _ (fun k hk => by
        have : k ≠ j := fun e => hn1 (e ▸ hk)
        simp [upd, this]), ← fold_put D xs (D j) v l _ fun k hk t ht => hd k (List.mem_cons_of_mem _ hk) (fun e => hn1 (e ▸ hk)) t ht, put_put]
    · have e2 : upd xs i v j = xs j := by simp [upd, hj]
      rw [e2]
      have hi' : i ∈ l := by
        rw [List.mem_cons] at hi
        rcases hi with rfl | hi
        · exact absurd rfl hj
        · exact hi
      exact fold_set D xs i v l _ hn2 hi' fun k hk => hd k (List.mem_cons_of_mem _ hk)
theorem filter_le {p q : Nat → Bool} : ∀ (l : List Nat), (∀ j, p j = true → q j = true) → (l.filter p).length ≤ (l.filter q).length
  | [], _ => Nat.le_refl _
  | j :: l, h => by
    have := filter_le l h
    rw [List.filter_cons, List.filter_cons]
    rcases hp : p j with _ | _
    · rcases hq : q j with _ | _
      · simpa using this
      · simp only [Bool.false_eq_true, if_false, if_true, List.length_cons]; omega
    · simp only [h j hp, if_true, List.length_cons]; omega
theorem filter_lt {p q : Nat → Bool} {i : Nat} (hp : p i = false) (hq : q i = true) : ∀ (l : List Nat), i ∈ l → (∀ j, p j = true → q j = true) → (l.filter p).length < (l.filter q).length
  | [], h, _ => by cases h
  | j :: l, hi, h => by
    have hle := filter_le l h
    rw [List.filter_cons, List.filter_cons]
    by_cases hj : j = i
    · subst hj
      simp only [hp, hq, Bool.false_eq_true, if_false, if_true, List.length_cons]; omega
    · have hi' : i ∈ l := by
        rw [List.mem_cons] at hi
        rcases hi with rfl | hi
        · exact absurd rfl hj
        · exact hi
      have := filter_lt hp hq l hi' h
      rcases hpj : p j with _ | _
      · rcases hqj : q j with _ | _
        · simpa using this
        · simp only [Bool.false_eq_true, if_false, if_true, List.length_cons]; omega
      · simp only [h j hpj, if_true, List.length_cons]; omega

section
variable {P : Program} {ops : Array Oper} {Q : Exit → Act → World → Prop}
def dstOf (ops : Array Oper) (j : Nat) : Option Tmp := (ops[j]?).bind (·.dst)
def isOn (listed : Array Bool) (j : Nat) : Bool := listed.getD j true
/-- the frame with the operations' slots as xs tells. -/
def frameX (ops : Array Oper) (a0 : Act) (xs : Nat → Value) : Act := fold (dstOf ops) xs a0 (List.range ops.size)
def frameL (xs : Nat → Value) : Act → Nat → List Oper → Act
  | a, _, [] => a
  | a, k, o :: l => frameL xs (a.put o.dst (xs k)) (k + 1) l
theorem frameL_eq (ops : Array Oper) (xs : Nat → Value) : ∀ (l : List Oper) (k : Nat) (a : Act), (∀ i, l[i]? = ops[k + i]?) → k + l.length = ops.size → fold (dstOf ops) xs a ((List.range' k l.length)) = frameL xs a k l
  | [], _, _, _, _ => rfl
  | o :: l, k, a, h, hs => by
    have h0 : dstOf ops k = o.dst := by
      have := h 0
      simp only [List.getElem?_cons_zero, Nat.add_zero] at this
      simp [dstOf, ← this]
    rw [List.length_cons, List.range'_succ, fold, frameL, h0]
    refine frameL_eq ops xs l (k + 1) _ (fun i => ?_) (by simp only [List.length_cons] at hs; omega)
    have := h (i + 1)
    rw [List.getElem?_cons_succ] at this
    rw [this, Nat.add_assoc, Nat.add_comm 1 i]
theorem frameX_eq (ops : Array Oper) (a : Act) (xs : Nat → Value) : frameX ops a xs = frameL xs a 0 ops.toList := by
  rw [frameX, List.range_eq_range']
  exact frameL_eq ops xs ops.toList 0 a (fun i => by simp) (by simp)
/-- the operations that must have come up. -/
def needs (o : Oper) : List Nat := (o.after.toList.filter (Region.binds .any)).map (·.on)
def AllV (V : Nat → Value → World → Prop) (xs : Nat → Value) (w : World) : List Nat → Prop
  | [] => True
  | j :: l => V j (xs j) w ∧ AllV V xs w l
theorem AllV.of {V : Nat → Value → World → Prop} {xs : Nat → Value} {w : World} : ∀ l, (∀ j ∈ l, V j (xs j) w) → AllV V xs w l
  | [], _ => trivial
  | j :: l, h => ⟨h j (List.mem_cons_self ..), AllV.of l fun k hk => h k (List.mem_cons_of_mem _ hk)⟩
/-- what is asked of one operation. -/
def StepOk (P : Program) (ops : Array Oper) (Q : Exit → Act → World → Prop) (F : (Nat → Value) → Act) (S : World → Prop) (V : Nat → Value → World → Prop) (i : Nat) (o : Oper) : Prop :=
  ∀ (xs : Nat → Value) (w : World), S w → AllV V xs w (needs o) →
    ∀ K : Act → World → Prop, Shut (∀ v w', S w' → V i v w' → (∀ j u, V j u w → V j u w') → K ((F xs).put o.dst v) w') →
      if Region.wanted o (yielded ops (F xs).tmps) = true then Oper.wp P o (F xs) w K Q else K ((F xs).put o.dst undef) w
def Steps (P : Program) (ops : Array Oper) (Q : Exit → Act → World → Prop) (F : (Nat → Value) → Act) (S : World → Prop) (V : Nat → Value → World → Prop) : Nat → List Oper → Prop
  | _, [] => True
  | i, o :: l => StepOk P ops Q F S V i o ∧ Steps P ops Q F S V (i + 1) l
theorem Steps.nil {F : (Nat → Value) → Act} {S : World → Prop} {V : Nat → Value → World → Prop} {i : Nat} : Steps P ops Q F S V i [] := trivial
theorem AllV.get {V : Nat → Value → World → Prop} {xs : Nat → Value} {w : World} : ∀ l, AllV V xs w l → ∀ j ∈ l, V j (xs j) w
  | [], _, _, h => by cases h
  | i :: l, h, j, hj => by
    rw [List.mem_cons] at hj
    rcases hj with rfl | hj
    · exact h.1
    · exact AllV.get l h.2 j hj
theorem Steps.cons {F : (Nat → Value) → Act} {S : World → Prop} {V : Nat → Value → World → Prop} {i k : Nat} {o : Oper} {l : List Oper} {n : List Nat} (hk : i + 1 = k) (hn : (n.all fun j => (needs o).contains j) = true)
    (h : ∀ (xs : Nat → Value) (w : World), S w → AllV V xs w n →
    ∀ K : Act → World → Prop, Shut (∀ v w', S w' → V i v w' → (∀ j u, V j u w → V j u w') → K ((F xs).put o.dst v) w') →
      if Region.wanted o (yielded ops (F xs).tmps) = true then Oper.wp P o (F xs) w K Q else K ((F xs).put o.dst undef) w) (hs : Steps P ops Q F S V k l) : Steps P ops Q F S V i (o :: l) := by
  subst hk
  refine ⟨fun xs w hS hV => h xs w hS (AllV.of _ fun j hj => AllV.get _ hV j ?_), hs⟩
  have := List.all_eq_true.1 hn j hj
  simpa using this
theorem Steps.get {F : (Nat → Value) → Act} {S : World → Prop} {V : Nat → Value → World → Prop} : ∀ (l : List Oper) (i k : Nat) (o : Oper), Steps P ops Q F S V i l → l[k]? = some o → StepOk P ops Q F S V (i + k) o
  | [], _, _, _, _, h => by simp at h
  | x :: l, i, 0, o, hs, h => by
    simp at h
    subst h
    exact hs.1
  | x :: l, i, k + 1, o, hs, h => by
    have := Steps.get l (i + 1) k o hs.2 (by simpa using h)
    rwa [Nat.add_assoc, Nat.add_comm 1 k] at this
/-- the dsts are apart; each edge leads back. -/
def apartB (ops : Array Oper) : Bool := (List.range ops.size).all fun i => (List.range ops.size).all fun j => j == i || (dstOf ops j).isNone || dstOf ops j != dstOf ops i
def backB : Nat → List Oper → Bool
  | _, [] => true
  | i, o :: l => (o.after.toList.all fun e => decide (e.on < i)) && backB (i + 1) l
theorem backB.get : ∀ (l : List Oper) (i k : Nat) (o : Oper), backB i l = true → l[k]? = some o → ∀ e ∈ o.after, e.on < i + k
  | [], _, _, _, _, h => by simp at h
  | x :: l, i, 0, o, hs, h => by
    simp at h
    subst h
    rw [backB, Bool.and_eq_true, List.all_eq_true] at hs
    intro e he
    simpa using hs.1 e (by simpa using he)
  | x :: l, i, k + 1, o, hs, h => by
    rw [backB, Bool.and_eq_true] at hs
    intro e he
    have := backB.get l (i + 1) k o hs.2 (by simpa using h) e he
    omega
theorem wpAny_rely (a0 : Act) (F : (Nat → Value) → Act) (hF : ∀ xs, frameX ops a0 xs = F xs) (S : World → Prop) (V : Nat → Value → World → Prop)
    (hd : apartB ops = true) (hacyc : backB 0 ops.toList = true) (hstep : Steps P ops Q F S V 0 ops.toList)
    (hQ : ∀ (xs : Nat → Value) (w : World), S w → (∀ j, j < ops.size → V j (xs j) w) → Q .normal (F xs) w) :
    ∀ (fuel : Nat) (listed : Array Bool) (xs : Nat → Value) (w : World), listed.size = ops.size → ((List.range ops.size).filter fun j => !isOn listed j).length ≤ fuel → S w → (∀ j, j < ops.size → isOn listed j = true → V j (xs j) w) →
      wpAny P .any ops Q fuel listed (frameX ops a0 xs) w := by
  have hback : ∀ (i : Nat) (o : Oper), ops[i]? = some o → ∀ e ∈ o.after, e.on < i := fun i o h e he => by
    have := backB.get _ 0 i o hacyc (by simpa using h) e he
    omega
  have hend : ∀ (listed : Array Bool) (xs : Nat → Value) (w : World), listed.size = ops.size → S w → (∀ j, j < ops.size → isOn listed j = true → V j (xs j) w) → Region.ready .any ops listed = [] → Q .normal (frameX ops a0 xs) w := by
    intro listed xs w hl hS hV hr
    have hall : ∀ j, j < ops.size → isOn listed j = true := by
      intro j
      induction j using Nat.strongRecOn with
      | _ j ih =>
        intro hj
        rcases hx : isOn listed j with _ | _
        · exfalso
          have hm : j ∈ Region.ready .any ops listed := mem_ready.2 ⟨hx, ops[j], Array.getElem?_eq_getElem hj, fun e he _ => by
            have h1 := hback j _ (Array.getElem?_eq_getElem hj) e he
            have h2 := ih e.on h1 (by omega)
            have h3 : e.on < listed.size := by omega
            simp only [isOn, Array.getD, h3, dif_pos] at h2 ⊢
            exact h2⟩
          rw [hr] at hm
          cases hm
        · rfl
    rw [hF]
    exact hQ xs w hS fun j hj => hV j hj (hall j hj)
  intro fuel
  induction fuel with
  | zero =>
    intro listed xs w hl hf hS hV
    have hr : Region.ready .any ops listed = [] := by
      apply List.eq_nil_iff_forall_not_mem.2
      intro j hj
      obtain ⟨h1, o, h2, _⟩ := mem_ready.1 hj
      have hjs : j < ops.size := (Array.getElem?_eq_some_iff.1 h2).1
      have : j ∈ (List.range ops.size).filter fun j => !isOn listed j := List.mem_filter.2 ⟨List.mem_range.2 hjs, by simp [isOn, h1]⟩
      rw [List.eq_nil_of_length_eq_zero (Nat.le_zero.1 hf)] at this
      cases this
    exact ⟨hr, hend listed xs w hl hS hV hr⟩
  | succ fuel ih =>
    intro listed xs w hl hf hS hV
    refine ⟨fun hr => hend listed xs w hl hS hV hr, fun i hi => ?_⟩
    obtain ⟨h1, o, h2, h3⟩ := mem_ready.1 hi
    have his : i < ops.size := (Array.getElem?_eq_some_iff.1 h2).1
    have hon : isOn listed i = false := h1
    have hset : ∀ j, isOn (listed.setIfInBounds i true) j = upd (isOn listed) i true j := by
      intro j
      by_cases hj : j = i
      · subst hj
        simp [isOn, upd, Array.getD, hl, his]
      · simp only [upd, hj, if_false]
        exact getD_set_ne true (Ne.symm hj)
    have e1 : o.dst = dstOf ops i := by simp [dstOf, h2]
    have hst := Steps.get _ 0 i o hstep (by simpa using h2)
    rw [Nat.zero_add] at hst
    have hneed : AllV V xs w (needs o) := AllV.of _ fun j hj => by
      obtain ⟨e, he, rfl⟩ := List.mem_map.1 hj
      obtain ⟨he1, he2⟩ := List.mem_filter.1 he
      have he1 : e ∈ o.after := by simpa using he1
      have h4 := h3 e he1 he2
      have hlt := hback i o h2 e he1
      have h5 : e.on < listed.size := by omega
      refine hV _ (by omega) ?_
      simp only [isOn, Array.getD, h5, dif_pos] at h4 ⊢
      exact h4
    refine wpOp_step h2 fun K hK => ?_
    rw [hF]
    refine hst xs w hS hneed K fun v w' hS' hVi hkeep => ?_
    have hfr : (F xs).put o.dst v = frameX ops a0 (upd xs i v) := by
      rw [← hF, e1, frameX, frameX, fold_set (dstOf ops) xs i v _ _ List.nodup_range (List.mem_range.2 his) fun j hj hne t ht hc => ?_]
      have := List.all_eq_true.1 (List.all_eq_true.1 hd i (List.mem_range.2 his)) j hj
      rw [ht, hc] at this
      simp [hne] at this
    rw [hfr]
    refine hK _ _ (ih _ _ _ (by simp [hl]) ?_ hS' ?_)
    · have : ((List.range ops.size).filter fun j => !isOn (listed.setIfInBounds i true) j).length < ((List.range ops.size).filter fun j => !isOn listed j).length := by
        refine filter_lt (i := i) (by rw [hset]; simp [upd]) (by simp [hon]) _ (List.mem_range.2 his) fun j hj => ?_
        rw [hset] at hj
        by_cases hji : j = i
        · subst hji; simp [hon]
        · simpa [upd, hji] using hj
      omega
    · intro j hj hjon
      rw [hset] at hjon
      by_cases hji : j = i
      · subst hji
        simpa [upd] using hVi
      · simp only [upd, hji, if_false] at hjon ⊢
        exact hkeep j _ (hV j hj hjon)
/-- The law for a drawn region. S: of the worlds. V: of each operation's value. F: the frame with the operations' slots open. -/
theorem wp_region_rely {id : Nat} {a : Act} {w : World} (S : World → Prop) (V : Nat → Value → World → Prop) (F : (Nat → Value) → Act) (hF : ∀ xs, frameX ops a xs = F xs)
    (hm : P.follows .mixedOrders = true) (hd : apartB ops = true) (hacyc : backB 0 ops.toList = true) (hS : S w.drew) (hstep : Steps P ops Q F S V 0 ops.toList)
    (hQ : ∀ (xs : Nat → Value) (w : World), S w → (∀ j, j < ops.size → V j (xs j) w) → Q .normal (F xs) w) : (Code.region id ops true).wp P Q a w := by
  refine wp_region_any hm ?_
  have h := wpAny_rely a F hF S V hd hacyc hstep hQ ops.size (Array.replicate ops.size false) (fun j => slot a (dstOf ops j)) w.drew (by simp) (Nat.le_trans (List.length_filter_le _ _) (by simp)) hS (fun j hj h => by simp [isOn, Array.getD, hj] at h)
  rw [frameX, fold_self] at h
  exact h
end
end Go.Proofs.YtnlkmljdcmfogaaGreatDoor
namespace Go.Proofs.YtnlkmljdcmfogaaGreatDoor
open Go
section
variable {P : Program} {ops : Array Oper} {Q : Exit → Act → World → Prop}
theorem Steps.take_get {F : (Nat → Value) → Act} {S : World → Prop} {V : Nat → Value → World → Prop} {n i : Nat} {o : Oper} (h : Steps P ops Q F S V 0 (ops.toList.take n)) (hi : i < n) (ho : ops[i]? = some o) : StepOk P ops Q F S V i o := by
  have := Steps.get _ 0 i o h (by rw [List.getElem?_take, if_pos hi]; simpa using ho)
  rwa [Nat.zero_add] at this
theorem wpAny_rely_tail (n : Nat) (a0 : Act) (F : (Nat → Value) → Act) (hF : ∀ xs, frameX ops a0 xs = F xs) (S : World → Prop) (V : Nat → Value → World → Prop) (L0 : Array Bool) (hL0 : L0 = (Array.range ops.size).map fun j => decide (j < n))
    (hd : apartB ops = true) (hacyc : backB 0 ops.toList = true) (hn : n < ops.size) (hs : Region.sinkB .any ops n = true) (hc : Region.chainB .any ops n = true) (hseq : Region.seqB .any ops (ops.size - n) n L0 = true) (hstep : Steps P ops Q F S V 0 (ops.toList.take n))
    (hT : ∀ (xs : Nat → Value) (w : World), S w → (∀ j, j < n → V j (xs j) w) → wpList P ops Q (ops.toList.drop n) (F xs) w) :
    ∀ (fuel : Nat) (listed : Array Bool) (xs : Nat → Value) (w : World), HeadInv .any ops n listed → ((List.range n).filter fun j => !isOn listed j).length = fuel → S w → (∀ j, j < n → isOn listed j = true → V j (xs j) w) →
      wpAny P .any ops Q (fuel + (ops.size - n)) listed (frameX ops a0 xs) w := by
  have hback : ∀ (i : Nat) (o : Oper), ops[i]? = some o → ∀ e ∈ o.after, e.on < i := fun i o h e he => by
    have := backB.get _ 0 i o hacyc (by simpa using h) e he
    omega
  intro fuel
  induction fuel with
  | zero =>
    intro listed xs w inv hf hS hV
    have hall : ∀ j, j < n → isOn listed j = true := fun j hj => by
      rcases hx : isOn listed j with _ | _
      · exfalso
        have : j ∈ (List.range n).filter fun j => !isOn listed j := List.mem_filter.2 ⟨List.mem_range.2 hj, by simp [hx]⟩
        rw [List.eq_nil_of_length_eq_zero hf] at this
        cases this
      · rfl
    have hl : listed = L0 := by
      rw [hL0]
      apply Array.ext
      · simp [inv.size]
      · intro k h1 h2
        have hk : k < ops.size := by rw [← inv.size]; exact h1
        simp only [Array.getElem_map, Array.getElem_range]
        by_cases hkn : k < n
        · have := hall k hkn
          simp only [isOn, Array.getD, h1, dif_pos] at this
          rw [decide_eq_true hkn]
          exact this
        · have := inv.tail k (by omega) hk
          simp only [Array.getD, h1, dif_pos] at this
          rw [decide_eq_false hkn]
          exact this
    rw [Nat.zero_add, hl, hF]
    have hlen : (ops.toList.drop n).length = ops.size - n := by simp
    have := wpAny_of_seq (P := P) (md := .any) (ops := ops) (Q' := Q) (ops.toList.drop n) n L0 (F xs) w (fun j => by simp) (by rw [hlen]; exact hseq) (hT xs w hS fun j hj => hV j hj (hall j hj))
    rwa [hlen] at this
  | succ fuel ih =>
    intro listed xs w inv hf hS hV
    obtain ⟨i0, hi0, hun0⟩ : ∃ i, i < n ∧ isOn listed i = false := by
      obtain ⟨i, hi⟩ := List.exists_mem_of_ne_nil ((List.range n).filter fun j => !isOn listed j) (fun h => by rw [h] at hf; cases hf)
      obtain ⟨h1, h2⟩ := List.mem_filter.1 hi
      exact ⟨i, List.mem_range.1 h1, by simpa using h2⟩
    rw [show fuel + 1 + (ops.size - n) = (fuel + (ops.size - n)) + 1 by omega]
    refine ⟨fun hr => ?_, fun i hi => ?_⟩
    · exfalso
      have hall : ∀ j, j < n → isOn listed j = true := by
        intro j
        induction j using Nat.strongRecOn with
        | _ j ihj =>
          intro hj
          rcases hx : isOn listed j with _ | _
          · exfalso
            have hjs : j < ops.size := by omega
            have hm : j ∈ Region.ready .any ops listed := mem_ready.2 ⟨hx, ops[j], Array.getElem?_eq_getElem hjs, fun e he _ => by
              have h1 := hback j _ (Array.getElem?_eq_getElem hjs) e he
              have h2 := ihj e.on h1 (by omega)
              have h3 : e.on < listed.size := by rw [inv.size]; omega
              simp only [isOn, Array.getD, h3, dif_pos] at h2 ⊢
              exact h2⟩
            rw [hr] at hm
            cases hm
          · rfl
      rw [hall i0 hi0] at hun0
      cases hun0
    · have hin : i < n := by
        rcases Nat.lt_or_ge i n with h | h
        · exact h
        · exact absurd hi (tail_waits hs hc hn inv _ i0 rfl hi0 hun0 i h)
      obtain ⟨h1, o, h2, h3⟩ := mem_ready.1 hi
      have his : i < ops.size := by omega
      have hon : isOn listed i = false := h1
      have hset : ∀ j, isOn (listed.setIfInBounds i true) j = upd (isOn listed) i true j := by
        intro j
        by_cases hj : j = i
        · subst hj
          simp [isOn, upd, Array.getD, inv.size, his]
        · simp only [upd, hj, if_false]
          exact getD_set_ne true (Ne.symm hj)
      have e1 : o.dst = dstOf ops i := by simp [dstOf, h2]
      have hst := Steps.take_get hstep hin h2
      have hneed : AllV V xs w (needs o) := AllV.of _ fun j hj => by
        obtain ⟨e, he, rfl⟩ := List.mem_map.1 hj
        obtain ⟨he1, he2⟩ := List.mem_filter.1 he
        have he1 : e ∈ o.after := by simpa using he1
        have h4 := h3 e he1 he2
        have hlt := hback i o h2 e he1
        have h5 : e.on < listed.size := by rw [inv.size]; omega
        refine hV _ (by omega) ?_
        simp only [isOn, Array.getD, h5, dif_pos] at h4 ⊢
        exact h4
      refine wpOp_step h2 fun K hK => ?_
      rw [hF]
      refine hst xs w hS hneed K fun v w' hS' hVi hkeep => ?_
      have hfr : (F xs).put o.dst v = frameX ops a0 (upd xs i v) := by
        rw [← hF, e1, frameX, frameX, fold_set (dstOf ops) xs i v _ _ List.nodup_range (List.mem_range.2 his) fun j hj hne t ht hc => ?_]
        have := List.all_eq_true.1 (List.all_eq_true.1 hd i (List.mem_range.2 his)) j hj
        rw [ht, hc] at this
        simp [hne] at this
      rw [hfr]
      refine hK _ _ (ih _ _ _ (inv.set hi hin) ?_ hS' ?_)
      · have hlt : ((List.range n).filter fun j => !isOn (listed.setIfInBounds i true) j).length + 1 = ((List.range n).filter fun j => !isOn listed j).length := by
          have key : ∀ l : List Nat, l.Nodup → i ∈ l → (l.filter fun j => !isOn (listed.setIfInBounds i true) j).length + 1 = (l.filter fun j => !isOn listed j).length := by
            intro l
            induction l with
            | nil => intro _ h; cases h
            | cons k l ihl =>
              intro hnd hm
              obtain ⟨hk, hnd⟩ := List.nodup_cons.1 hnd
              by_cases hki : k = i
              · subst hki
                have e2 : l.filter (fun j => !isOn (listed.setIfInBounds k true) j) = l.filter fun j => !isOn listed j := List.filter_congr fun j hj => by
                  rw [hset]
                  have : j ≠ k := fun e => hk (e ▸ hj)
                  simp [upd, this]
                have a1 : isOn (listed.setIfInBounds k true) k = true := by rw [hset]; simp [upd]
                rw [List.filter_cons_of_neg (by rw [a1]; decide), List.filter_cons_of_pos (by rw [hon]; rfl), e2, List.length_cons]
              · have hm2 : i ∈ l := by
                  rcases List.mem_cons.1 hm with h | h
                  · exact absurd h.symm hki
                  · exact h
                have a1 : isOn (listed.setIfInBounds i true) k = isOn listed k := by rw [hset]; simp [upd, hki]
                rw [List.filter_cons, List.filter_cons, a1]
                split
                · rw [List.length_cons, List.length_cons, ← ihl hnd hm2]
                · exact ihl hnd hm2
          exact key _ List.nodup_range (List.mem_range.2 hin)
        omega
      · intro j hj hjon
        rw [hset] at hjon
        by_cases hji : j = i
        · subst hji
          simpa [upd] using hVi
        · simp only [upd, hji, if_false] at hjon ⊢
          exact hkeep j _ (hV j hj hjon)
/-- The law for a drawn region whose operations from n on come last, in their row. -/
theorem wp_region_rely_tail (n : Nat) {id : Nat} {a : Act} {w : World} (S : World → Prop) (V : Nat → Value → World → Prop) (F : (Nat → Value) → Act) (hF : ∀ xs, frameX ops a xs = F xs)
    (hm : P.follows .mixedOrders = true) (hd : apartB ops = true) (hacyc : backB 0 ops.toList = true) (hn : n < ops.size) (hs : Region.sinkB .any ops n = true) (hc : Region.chainB .any ops n = true)
    (hseq : Region.seqB .any ops (ops.size - n) n ((Array.range ops.size).map fun j => decide (j < n)) = true) (hS : S w.drew) (hstep : Steps P ops Q F S V 0 (ops.toList.take n))
    (hT : ∀ (xs : Nat → Value) (w : World), S w → (∀ j, j < n → V j (xs j) w) → wpList P ops Q (ops.toList.drop n) (F xs) w) : (Code.region id ops true).wp P Q a w := by
  refine wp_region_any hm ?_
  have hinv : HeadInv .any ops n (Array.replicate ops.size false) := ⟨by simp, (fun j oj _ h => by rw [getD_replicate_false] at h; cases h), fun t _ ht => by simp [Array.getD, ht]⟩
  have hcount : ((List.range n).filter fun j => !isOn (Array.replicate ops.size false) j).length = n := by
    rw [List.filter_eq_self.2 fun j hj => by
      have := List.mem_range.1 hj
      simp [isOn, Array.getD, show j < ops.size by omega]]
    simp
  have h := wpAny_rely_tail n a F hF S V _ rfl hd hacyc hn hs hc hseq hstep hT n (Array.replicate ops.size false) (fun j => slot a (dstOf ops j)) w.drew hinv hcount hS (fun j hj h => by simp [isOn, Array.getD, show j < ops.size by omega] at h)
  rw [frameX, fold_self, show n + (ops.size - n) = ops.size by omega] at h
  exact h
end
end Go.Proofs.YtnlkmljdcmfogaaGreatDoor
namespace Go.Proofs.YtnlkmljdcmfogaaGreatDoor
open Go Go.RowKit Go.Shelf
def Tryz.lays99_ren : Go.Shelf.Ren := ⟨fun | 99 => 176 | 206 => 234 | n => n, fun | 9 => 9 | 4 => 4 | 3 => 3 | n => n, fun | n => n⟩
theorem Tryz.lays99 : Go.Proofs.Lays.n99 Tryz.prog Tryz.lays99_ren := {
  mixed := by kernel_rfl
  f99 := Tryz.func176.trans (congrArg some (by kernel_rfl))
  f206 := Tryz.func234.trans (congrArg some (by kernel_rfl))
  t3 := Tryz.underlying3
  a3 := Tryz.isAgg3
  z3 := Tryz.sizeOf3
  v3 := Tryz.zeroValue3
  t4 := Tryz.underlying4
  a4 := Tryz.isAgg4
  z4 := Tryz.sizeOf4
  v4 := Tryz.zeroValue4
  t9 := Tryz.underlying9
  a9 := Tryz.isAgg9
  z9 := Tryz.sizeOf9
  v9 := Tryz.zeroValue9 }
theorem slice_lit (s : ByteArray) (a b : Nat) (ai bi : Int) (ha : ai = (a : Int)) (hb : bi = (b : Int)) (hab : a ≤ b) (hbs : b ≤ s.size) : ∀ wx, (Instr.slice 9 (.string s) (some (.int .i64 ai)) (some (.int .i64 bi)) none).run Tryz.prog wx = .ok (.string (s.extract a b)) wx := by
  subst ha hb
  intro wx
  rw [run_slice_string _ _ _ _ _ _ _ Tryz.underlying9 (by omega) (by omega) (by omega)]
  simp
theorem slice_h (s : ByteArray) (b : Nat) (bi : Int) (hb : bi = (b : Int)) (hbs : b ≤ s.size) : ∀ wx, (Instr.slice 9 (.string s) none (some (.int .i64 bi)) none).run Tryz.prog wx = .ok (.string (s.extract 0 b)) wx := by
  subst hb
  intro wx
  rw [run_slice_string_h (ht := Tryz.underlying9) (h0 := by omega) (h2 := by omega)]
  simp
theorem slice_f (s r : ByteArray) (a : Nat) (ai : Int) (ha : ai = (a : Int)) (has : a ≤ s.size) (hr : s.extract a s.size = r) : ∀ wx, (Instr.slice 9 (.string s) (some (.int .i64 ai)) none none).run Tryz.prog wx = .ok (.string r) wx := by
  subst ha hr
  intro wx
  rw [run_slice_string_l (ht := Tryz.underlying9) (h0 := by omega) (h1 := by omega)]
  simp
theorem ext_bs (s : ByteArray) (a b : Nat) : s.extract a b = bs (((bl s).drop a).take (b - a)) := by rw [← bl_extract, bs_bl]
theorem slice_ij (s : ByteArray) (i j : Nat) (hij : i ≤ j) (hj : j ≤ s.size) : ∀ wx, (Instr.slice 9 (.string s) (some (.int .i64 (i : Int))) (some (.int .i64 (j : Int))) none).run Tryz.prog wx = .ok (.string (bs (((bl s).drop i).take (j - i)))) wx := by
  rw [← ext_bs]
  exact slice_lit s i j (i : Int) (j : Int) rfl rfl hij hj
/-- s[i:j], s[:j], s[i:] of a text that is a list. -/
theorem slice_bs (l : List UInt8) (i j : Nat) (hij : i ≤ j) (hj : j ≤ l.length) : ∀ wx, (Instr.slice 9 (.string (bs l)) (some (.int .i64 (i : Int))) (some (.int .i64 (j : Int))) none).run Tryz.prog wx = .ok (.string (bs ((l.drop i).take (j - i)))) wx :=
  slice_ij (bs l) i j hij (by rw [bs_size]; exact hj)
theorem slice_to (l : List UInt8) (j : Nat) (ji : Int) (hji : ji = (j : Int)) (hj : j ≤ l.length) : ∀ wx, (Instr.slice 9 (.string (bs l)) none (some (.int .i64 ji)) none).run Tryz.prog wx = .ok (.string (bs (l.take j))) wx := by
  have h := slice_h (bs l) j ji hji (by rw [bs_size]; exact hj)
  rw [ext_bs, bl_bs, List.drop_zero, Nat.sub_zero] at h
  exact h
theorem slice_from (l : List UInt8) (i : Nat) (ii : Int) (hii : ii = (i : Int)) (hi : i ≤ l.length) : ∀ wx, (Instr.slice 9 (.string (bs l)) (some (.int .i64 ii)) none none).run Tryz.prog wx = .ok (.string (bs (l.drop i))) wx :=
  slice_f (bs l) (bs (l.drop i)) i ii hii (by rw [bs_size]; exact hi) (by rw [ext_bs, bl_bs, List.take_of_length_le (by rw [List.length_drop, bs_size]; exact Nat.le_refl _)])
theorem bl_at (s : ByteArray) (k : Nat) (h : k < s.size) : (bl s)[k]? = some s[k] := by
  have h2 : k < (bl s).length := by rw [bl_length]; exact h
  rw [List.getElem?_eq_getElem h2]
  rfl
theorem bs_at (l : List UInt8) (k : Nat) (h : k < (bs l).size) : l[k]? = some (bs l)[k] := by
  have := bl_at (bs l) k h
  rwa [bl_bs] at this
theorem hasPrefix_any (l p : List UInt8) (w : World) {b : Bool} (H : Hid (p.isPrefixOf l = b)) : Calls Tryz.prog 176 #[.string (bs l), .string (bs p)] w fun e w' => e = .returned (.bool b) ∧ w = w' := by
  refine (Any.strings_HasPrefix Tryz.lays99 (bs l) (bs p) w).mono ?_
  rintro e w' ⟨rfl, h⟩
  rw [← H.out]
  exact ⟨rfl, h.symm⟩
end Go.Proofs.YtnlkmljdcmfogaaGreatDoor
