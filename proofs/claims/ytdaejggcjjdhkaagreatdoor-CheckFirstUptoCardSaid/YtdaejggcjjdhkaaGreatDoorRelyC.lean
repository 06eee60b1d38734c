/- A region in any order, its last operations in a forced row; what an operation uses up need not stay. -/
import Derived.Test.YtdaejggcjjdhkaaGreatDoorMkD
namespace Go.Proofs.YtdaejggcjjdhkaaGreatDoor
open Go
section
variable {P : Program} {ops : Array Oper} {Q : Exit → Act → World → Prop}
/-- what need not stay: the value of i itself, of what waits for i, what i or one ahead of it uses up. -/
def offB (ops : Array Oper) (c : Nat → Option Nat) (i : Nat) (o : Oper) (j : Nat) : Bool := j == i || ((ops[j]?).map fun o' => (needs o').contains i).getD false || (match c j with | some k => k == i || (needs o).contains k | none => false)
/-- what is asked of one operation; c: which operation uses up a value. -/
def StepOkC (P : Program) (ops : Array Oper) (Q : Exit → Act → World → Prop) (F : (Nat → Value) → Act) (S : World → Prop) (V : Nat → Value → World → Prop) (c : Nat → Option Nat) (i : Nat) (o : Oper) : Prop :=
  ∃ nn dd : List Nat, (nn.all fun j => (needs o).contains j && (c j == none || c j == some i)) = true ∧ (dd.all (offB ops c i o)) = true ∧
  ∀ (xs : Nat → Value) (w : World), S w → AllV V xs w nn →
    ∀ K : Act → World → Prop, Shut (∀ v w', S w' → V i v w' → (∀ j u, dd.contains j = false → V j u w → V j u w') → K ((F xs).put o.dst v) w') →
      if Region.wanted o (yielded ops (F xs).tmps) = true then Oper.wp P o (F xs) w K Q else K ((F xs).put o.dst undef) w
def StepsC (P : Program) (ops : Array Oper) (Q : Exit → Act → World → Prop) (F : (Nat → Value) → Act) (S : World → Prop) (V : Nat → Value → World → Prop) (c : Nat → Option Nat) : Nat → List Oper → Prop
  | _, [] => True
  | i, o :: l => StepOkC P ops Q F S V c i o ∧ StepsC P ops Q F S V c (i + 1) l
theorem StepsC.nil {F : (Nat → Value) → Act} {S : World → Prop} {V : Nat → Value → World → Prop} {c : Nat → Option Nat} {i : Nat} : StepsC P ops Q F S V c i [] := trivial
theorem StepsC.cons {F : (Nat → Value) → Act} {S : World → Prop} {V : Nat → Value → World → Prop} {c : Nat → Option Nat} {i k : Nat} {o : Oper} {l : List Oper} {n dd : List Nat} (hk : i + 1 = k) (hn : (n.all fun j => (needs o).contains j && (c j == none || c j == some i)) = true)
    (hdd : (dd.all (offB ops c i o)) = true) (h : ∀ (xs : Nat → Value) (w : World), S w → AllV V xs w n →
    ∀ K : Act → World → Prop, Shut (∀ v w', S w' → V i v w' → (∀ j u, dd.contains j = false → V j u w → V j u w') → K ((F xs).put o.dst v) w') →
      if Region.wanted o (yielded ops (F xs).tmps) = true then Oper.wp P o (F xs) w K Q else K ((F xs).put o.dst undef) w) (hs : StepsC P ops Q F S V c k l) : StepsC P ops Q F S V c i (o :: l) := by
  subst hk
  exact ⟨⟨n, dd, hn, hdd, h⟩, hs⟩
theorem StepsC.get {F : (Nat → Value) → Act} {S : World → Prop} {V : Nat → Value → World → Prop} {c : Nat → Option Nat} : ∀ (l : List Oper) (i k : Nat) (o : Oper), StepsC P ops Q F S V c i l → l[k]? = some o → StepOkC P ops Q F S V c (i + k) o
  | [], _, _, _, _, h => by simp at h
  | x :: l, i, 0, o, hs, h => by
    simp at h
    subst h
    exact hs.1
  | x :: l, i, k + 1, o, hs, h => by
    have := StepsC.get l (i + 1) k o hs.2 (by simpa using h)
    rwa [Nat.add_assoc, Nat.add_comm 1 k] at this
theorem StepsC.take_get {F : (Nat → Value) → Act} {S : World → Prop} {V : Nat → Value → World → Prop} {c : Nat → Option Nat} {n i : Nat} {o : Oper} (h : StepsC P ops Q F S V c 0 (ops.toList.take n)) (hi : i < n) (ho : ops[i]? = some o) : StepOkC P ops Q F S V c i o := by
  have := StepsC.get _ 0 i o h (by rw [List.getElem?_take, if_pos hi]; simpa using ho)
  rwa [Nat.zero_add] at this
theorem wpAny_rely_c (n : Nat) (a0 : Act) (F : (Nat → Value) → Act) (hF : ∀ xs, frameX ops a0 xs = F xs) (S : World → Prop) (V : Nat → Value → World → Prop) (c : Nat → Option Nat) (L0 : Array Bool) (hL0 : L0 = (Array.range ops.size).map fun j => decide (j < n))
    (hd : apartB ops = true) (hacyc : backB 0 ops.toList = true) (hn : n < ops.size) (hs : Region.sinkB .any ops n = true) (hc : Region.chainB .any ops n = true) (hseq : Region.seqB .any ops (ops.size - n) n L0 = true) (hstep : StepsC P ops Q F S V c 0 (ops.toList.take n))
    (hT : ∀ (xs : Nat → Value) (w : World), S w → (∀ j, j < n → (∀ k, c j = some k → n ≤ k) → V j (xs j) w) → wpList P ops Q (ops.toList.drop n) (F xs) w) :
    ∀ (fuel : Nat) (listed : Array Bool) (xs : Nat → Value) (w : World), HeadInv .any ops n listed → ((List.range n).filter fun j => !isOn listed j).length = fuel → S w → (∀ j, j < n → isOn listed j = true → (∀ k, c j = some k → k < n → isOn listed k = false) → V j (xs j) w) →
      wpAny P .any ops Q (fuel + (ops.size - n)) listed (frameX ops a0 xs) w := by
  have hback : ∀ (i : Nat) (o : Oper), ops[i]? = some o → ∀ e ∈ o.after, e.on < i := fun i o h e he => by
    have := backB.get _ 0 i o hacyc (by simpa using h) e he
    omega
  intro fuel
  induction fuel with
  | zero =>
    intro listed xs w inv hf hS hV
    have hall : ∀ j, j < n → isOn listed j = true := fun j hj => by
      rcases hx : isOn listed j with _ | _
      · exfalso
        have : j ∈ (List.range n).filter fun j => !isOn listed j := List.mem_filter.2 ⟨List.mem_range.2 hj, by simp [hx]⟩
        rw [List.eq_nil_of_length_eq_zero hf] at this
        cases this
      · rfl
    have hl : listed = L0 := by
      rw [hL0]
      apply Array.ext
      · simp [inv.size]
      · intro k h1 h2
        have hk : k < ops.size := by rw [← inv.size]; exact h1
        simp only [Array.getElem_map, Array.getElem_range]
        by_cases hkn : k < n
        · have := hall k hkn
          simp only [isOn, Array.getD, h1, dif_pos] at this
          rw [decide_eq_true hkn]
          exact this
        · have := inv.tail k (by omega) hk
          simp only [Array.getD, h1, dif_pos] at this
          rw [decide_eq_false hkn]
          exact this
    rw [Nat.zero_add, hl, hF]
    have hlen : (ops.toList.drop n).length = ops.size - n := by simp
    have := wpAny_of_seq (P := P) (md := .any) (ops := ops) (Q' := Q) (ops.toList.drop n) n L0 (F xs) w (fun j => by simp) (by rw [hlen]; exact hseq) (hT xs w hS fun j hj hcj => hV j hj (hall j hj) fun k hk hkn => by
      have := hcj k hk
      omega)
    rwa [hlen] at this
  | succ fuel ih =>
    intro listed xs w inv hf hS hV
    obtain ⟨i0, hi0, hun0⟩ : ∃ i, i < n ∧ isOn listed i = false := by
      obtain ⟨i, hi⟩ := List.exists_mem_of_ne_nil ((List.range n).filter fun j => !isOn listed j) (fun h => by rw [h] at hf; cases hf)
      obtain ⟨h1, h2⟩ := List.mem_filter.1 hi
      exact ⟨i, List.mem_range.1 h1, by simpa using h2⟩
    rw [show fuel + 1 + (ops.size - n) = (fuel + (ops.size - n)) + 1 by omega]
    refine ⟨fun hr => ?_, fun i hi => ?_⟩
    · exfalso
      have hall : ∀ j, j < n → isOn listed j = true := by
        intro j
        induction j using Nat.strongRecOn with
        | _ j ihj =>
          intro hj
          rcases hx : isOn listed j with _ | _
          · exfalso
            have hjs : j < ops.size := by omega
            have hm : j ∈ Region.ready .any ops listed := mem_ready.2 ⟨hx, ops[j], Array.getElem?_eq_getElem hjs, fun e he _ => by
              have h1 := hback j _ (Array.getElem?_eq_getElem hjs) e he
              have h2 := ihj e.on h1 (by omega)
              have h3 : e.on < listed.size := by rw [inv.size]; omega
              simp only [isOn, Array.getD, h3, dif_pos] at h2 ⊢
              exact h2⟩
            rw [hr] at hm
            cases hm
          · rfl
      rw [hall i0 hi0] at hun0
      cases hun0
    · have hin : i < n := by
        rcases Nat.lt_or_ge i n with h | h
        · exact h
        · exact absurd hi (tail_waits hs hc hn inv _ i0 rfl hi0 hun0 i h)
      obtain ⟨h1, o, h2, h3⟩ := mem_ready.1 hi
      have his : i < ops.size := by omega
      have hon : isOn listed i = false := h1
      have hset : ∀ j, isOn (listed.setIfInBounds i true) j = upd (isOn listed) i true j := by
        intro j
        by_cases hj : j = i
        · subst hj
          simp [isOn, upd, Array.getD, inv.size, his]
        · simp only [upd, hj, if_false]
          exact getD_set_ne true (Ne.symm hj)
      have e1 : o.dst = dstOf ops i := by simp [dstOf, h2]
      obtain ⟨nn, dd, hnn, hdd, hst⟩ := StepsC.take_get hstep hin h2
      have hneed : AllV V xs w nn := AllV.of _ fun j hj => by
        have hj2 := List.all_eq_true.1 hnn j hj
        rw [Bool.and_eq_true, Bool.or_eq_true, beq_iff_eq, beq_iff_eq] at hj2
        obtain ⟨hj3, hj4⟩ := hj2
        have hj5 : j ∈ needs o := by simpa using hj3
        obtain ⟨e, he, rfl⟩ := List.mem_map.1 hj5
        obtain ⟨he1, he2⟩ := List.mem_filter.1 he
        have he1 : e ∈ o.after := by simpa using he1
        have h4 := h3 e he1 he2
        have hlt := hback i o h2 e he1
        have h5 : e.on < listed.size := by rw [inv.size]; omega
        refine hV _ (by omega) ?_ fun k hk _ => ?_
        · simp only [isOn, Array.getD, h5, dif_pos] at h4 ⊢
          exact h4
        · rcases hj4 with hj4 | hj4
          · rw [hj4] at hk; cases hk
          · rw [hj4] at hk
            injection hk with hk
            subst hk
            exact hon
      refine wpOp_step h2 fun K hK => ?_
      rw [hF]
      refine hst xs w hS hneed K fun v w' hS' hVi hkeep => ?_
      have hfr : (F xs).put o.dst v = frameX ops a0 (upd xs i v) := by
        rw [← hF, e1, frameX, frameX, fold_set (dstOf ops) xs i v _ _ List.nodup_range (List.mem_range.2 his) fun j hj hne t ht hc => ?_]
        have := List.all_eq_true.1 (List.all_eq_true.1 hd i (List.mem_range.2 his)) j hj
        rw [ht, hc] at this
        simp [hne] at this
      rw [hfr]
      refine hK _ _ (ih _ _ _ (inv.set hi hin) ?_ hS' ?_)
      · have hlt : ((List.range n).filter fun j => !isOn (listed.setIfInBounds i true) j).length + 1 = ((List.range n).filter fun j => !isOn listed j).length := by
          have key : ∀ l : List Nat, l.Nodup → i ∈ l → (l.filter fun j => !isOn (listed.setIfInBounds i true) j).length + 1 = (l.filter fun j => !isOn listed j).length := by
            intro l
            induction l with
            | nil => intro _ h; cases h
            | cons k l ihl =>
              intro hnd hm
              obtain ⟨hk, hnd⟩ := List.nodup_cons.1 hnd
              by_cases hki : k = i
              · subst hki
                have e2 : l.filter (fun j => !isOn (listed.setIfInBounds k true) j) = l.filter fun j => !isOn listed j := List.filter_congr fun j hj => by
                  rw [hset]
                  have : j ≠ k := fun e => hk (e ▸ hj)
                  simp [upd, this]
                have a1 : isOn (listed.setIfInBounds k true) k = true := by rw [hset]; simp [upd]
                rw [List.filter_cons_of_neg (by rw [a1]; decide), List.filter_cons_of_pos (by rw [hon]; rfl), e2, List.length_cons]
              · have hm2 : i ∈ l := by
                  rcases List.mem_cons.1 hm with h | h
                  · exact absurd h.symm hki
                  · exact h
                have a1 : isOn (listed.setIfInBounds i true) k = isOn listed k := by rw [hset]; simp [upd, hki]
                rw [List.filter_cons, List.filter_cons, a1]
                split
                · rw [List.length_cons, List.length_cons, ← ihl hnd hm2]
                · exact ihl hnd hm2
          exact key _ List.nodup_range (List.mem_range.2 hin)
        omega
      · intro j hj hjon hcj
        rw [hset] at hjon
        by_cases hji : j = i
        · subst hji
          simpa [upd] using hVi
        · simp only [upd, hji, if_false] at hjon ⊢
          have hoff : ∀ k, c j = some k → k < n → k ≠ i ∧ isOn listed k = false := fun k hk hkn => by
            have := hcj k hk hkn
            rw [hset] at this
            by_cases hki : k = i
            · subst hki; simp [upd] at this
            · exact ⟨hki, by simpa [upd, hki] using this⟩
          have hci : dd.contains j = false := by
            rcases hdj : dd.contains j with _ | _
            · rfl
            · exfalso
              have h6 := List.all_eq_true.1 hdd j (by simpa using hdj)
              unfold offB at h6
              rw [Bool.or_eq_true, Bool.or_eq_true, beq_iff_eq] at h6
              have h6 : (match c j with | some k => k == i || (needs o).contains k | none => false) = true := by
                rcases h6 with (h6 | h6) | h6
                · exact absurd h6 hji
                · exfalso
                  have hjs : j < ops.size := by omega
                  rw [Array.getElem?_eq_getElem hjs, Option.map_some, Option.getD_some] at h6
                  have hj5 : i ∈ needs ops[j] := by simpa using h6
                  obtain ⟨e, he, hei⟩ := List.mem_map.1 hj5
                  obtain ⟨he1, he2⟩ := List.mem_filter.1 he
                  have he1 : e ∈ ops[j].after := by simpa using he1
                  have hjl : listed.getD j false = true := by
                    have hjz : j < listed.size := by rw [inv.size]; exact hjs
                    simp only [isOn, Array.getD, hjz, dif_pos] at hjon ⊢
                    exact hjon
                  have h8 := inv.closed j _ (Array.getElem?_eq_getElem hjs) hjl e he1 he2
                  rw [hei] at h8
                  have hiz : i < listed.size := by rw [inv.size]; exact his
                  simp only [isOn, Array.getD, hiz, dif_pos] at hon h8
                  rw [h8] at hon
                  cases hon
                · exact h6
              split at h6
              · rename_i k hk
                rw [Bool.or_eq_true, beq_iff_eq] at h6
                rcases h6 with h6 | h6
                · exact (hoff k hk (by omega)).1 h6
                · have hj5 : k ∈ needs o := by simpa using h6
                  obtain ⟨e, he, rfl⟩ := List.mem_map.1 hj5
                  obtain ⟨he1, he2⟩ := List.mem_filter.1 he
                  have he1 : e ∈ o.after := by simpa using he1
                  have h4 := h3 e he1 he2
                  have hlt := hback i o h2 e he1
                  have h5 : e.on < listed.size := by rw [inv.size]; omega
                  have h7 := (hoff e.on hk (by omega)).2
                  simp only [isOn, Array.getD, h5, dif_pos] at h4 h7
                  rw [h4] at h7
                  cases h7
              · cases h6
          exact hkeep j _ hci (hV j hj hjon fun k hk hkn => (hoff k hk hkn).2)
/-- The law for a drawn region whose operations from n on come last, in their row; c j: the operation that uses up the value of j. -/
theorem wp_region_rely_c (n : Nat) (c : Nat → Option Nat) {id : Nat} {a : Act} {w : World} (S : World → Prop) (V : Nat → Value → World → Prop) (F : (Nat → Value) → Act) (hF : ∀ xs, frameX ops a xs = F xs)
    (hm : P.follows .mixedOrders = true) (hd : apartB ops = true) (hacyc : backB 0 ops.toList = true) (hn : n < ops.size) (hs : Region.sinkB .any ops n = true) (hc : Region.chainB .any ops n = true)
    (hseq : Region.seqB .any ops (ops.size - n) n ((Array.range ops.size).map fun j => decide (j < n)) = true) (hS : S w.drew) (hstep : StepsC P ops Q F S V c 0 (ops.toList.take n))
    (hT : ∀ (xs : Nat → Value) (w : World), S w → (∀ j, j < n → (∀ k, c j = some k → n ≤ k) → V j (xs j) w) → wpList P ops Q (ops.toList.drop n) (F xs) w) : (Code.region id ops true).wp P Q a w := by
  refine wp_region_any hm ?_
  have hinv : HeadInv .any ops n (Array.replicate ops.size false) := ⟨by simp, (fun j oj _ h => by rw [getD_replicate_false] at h; cases h), fun t _ ht => by simp [Array.getD, ht]⟩
  have hcount : ((List.range n).filter fun j => !isOn (Array.replicate ops.size false) j).length = n := by
    rw [List.filter_eq_self.2 fun j hj => by
      have := List.mem_range.1 hj
      simp [isOn, Array.getD, show j < ops.size by omega]]
    simp
  have h := wpAny_rely_c n a F hF S V c _ rfl hd hacyc hn hs hc hseq hstep hT n (Array.replicate ops.size false) (fun j => slot a (dstOf ops j)) w.drew hinv hcount hS (fun j hj h => by simp [isOn, Array.getD, show j < ops.size by omega] at h)
  rw [frameX, fold_self, show n + (ops.size - n) = ops.size by omega] at h
  exact h
end
end Go.Proofs.YtdaejggcjjdhkaaGreatDoor
