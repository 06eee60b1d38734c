/- A region in any order, its last operations in a forced row; what these write is known while they wait. -/
import Derived.Test.YtdaejggcjjdhkaaGreatDoorMkD
import Derived.StillTail
namespace Go.Proofs.YtdaejggcjjdhkaaGreatDoor
open Go
section
variable {P : Program} {ops : Array Oper} {Q : Exit → Act → World → Prop}
theorem wpAny_rely_wait (n : Nat) (a0 : Act) (init : Nat → Value) (F : (Nat → Value) → Act) (hF : ∀ xs, (∀ j, n ≤ j → xs j = init j) → frameX ops a0 xs = F xs) (S : World → Prop) (V : Nat → Value → World → Prop) (L0 : Array Bool) (hL0 : L0 = (Array.range ops.size).map fun j => decide (j < n))
    (hd : apartB ops = true) (hacyc : backB 0 ops.toList = true) (hn : n < ops.size) (hs : Region.sinkB .any ops n = true) (hc : Region.chainB .any ops n = true) (hseq : Region.seqB .any ops (ops.size - n) n L0 = true) (hstep : Steps P ops Q F S V 0 (ops.toList.take n))
    (hT : ∀ (xs : Nat → Value) (w : World), S w → (∀ j, j < n → V j (xs j) w) → wpList P ops Q (ops.toList.drop n) (F xs) w) :
    ∀ (fuel : Nat) (listed : Array Bool) (xs : Nat → Value) (w : World), (∀ j, n ≤ j → xs j = init j) → HeadInv .any ops n listed → ((List.range n).filter fun j => !isOn listed j).length = fuel → S w → (∀ j, j < n → isOn listed j = true → V j (xs j) w) →
      wpAny P .any ops Q (fuel + (ops.size - n)) listed (frameX ops a0 xs) w := by
  have hback : ∀ (i : Nat) (o : Oper), ops[i]? = some o → ∀ e ∈ o.after, e.on < i := fun i o h e he => by
    have := backB.get _ 0 i o hacyc (by simpa using h) e he
    omega
  intro fuel
  induction fuel with
  | zero =>
    intro listed xs w hx0 inv hf hS hV
    have hall : ∀ j, j < n → isOn listed j = true := fun j hj => by
      rcases hx : isOn listed j with _ | _
      · exfalso
        have : j ∈ (List.range n).filter fun j => !isOn listed j := List.mem_filter.2 ⟨List.mem_range.2 hj, by simp [hx]⟩
        rw [List.eq_nil_of_length_eq_zero hf] at this
        cases this
      · rfl
    have hl : listed = L0 := by
      rw [hL0]
      apply Array.ext
      · simp [inv.size]
      · intro k h1 h2
        have hk : k < ops.size := by rw [← inv.size]; exact h1
        simp only [Array.getElem_map, Array.getElem_range]
        by_cases hkn : k < n
        · have := hall k hkn
          simp only [isOn, Array.getD, h1, dif_pos] at this
          rw [decide_eq_true hkn]
          exact this
        · have := inv.tail k (by omega) hk
          simp only [Array.getD, h1, dif_pos] at this
          rw [decide_eq_false hkn]
          exact this
    rw [Nat.zero_add, hl, hF xs hx0]
    have hlen : (ops.toList.drop n).length = ops.size - n := by simp
    have := wpAny_of_seq (P := P) (md := .any) (ops := ops) (Q' := Q) (ops.toList.drop n) n L0 (F xs) w (fun j => by simp) (by rw [hlen]; exact hseq) (hT xs w hS fun j hj => hV j hj (hall j hj))
    rwa [hlen] at this
  | succ fuel ih =>
    intro listed xs w hx0 inv hf hS hV
    obtain ⟨i0, hi0, hun0⟩ : ∃ i, i < n ∧ isOn listed i = false := by
      obtain ⟨i, hi⟩ := List.exists_mem_of_ne_nil ((List.range n).filter fun j => !isOn listed j) (fun h => by rw [h] at hf; cases hf)
      obtain ⟨h1, h2⟩ := List.mem_filter.1 hi
      exact ⟨i, List.mem_range.1 h1, by simpa using h2⟩
    rw [show fuel + 1 + (ops.size - n) = (fuel + (ops.size - n)) + 1 by omega]
    refine ⟨fun hr => ?_, fun i hi => ?_⟩
    · exfalso
      have hall : ∀ j, j < n → isOn listed j = true := by
        intro j
        induction j using Nat.strongRecOn with
        | _ j ihj =>
          intro hj
          rcases hx : isOn listed j with _ | _
          · exfalso
            have hjs : j < ops.size := by omega
            have hm : j ∈ Region.ready .any ops listed := mem_ready.2 ⟨hx, ops[j], Array.getElem?_eq_getElem hjs, fun e he _ => by
              have h1 := hback j _ (Array.getElem?_eq_getElem hjs) e he
              have h2 := ihj e.on h1 (by omega)
              have h3 : e.on < listed.size := by rw [inv.size]; omega
              simp only [isOn, Array.getD, h3, dif_pos] at h2 ⊢
              exact h2⟩
            rw [hr] at hm
            cases hm
          · rfl
      rw [hall i0 hi0] at hun0
      cases hun0
    · have hin : i < n := by
        rcases Nat.lt_or_ge i n with h | h
        · exact h
        · exact absurd hi (tail_waits hs hc hn inv _ i0 rfl hi0 hun0 i h)
      obtain ⟨h1, o, h2, h3⟩ := mem_ready.1 hi
      have his : i < ops.size := by omega
      have hon : isOn listed i = false := h1
      have hset : ∀ j, isOn (listed.setIfInBounds i true) j = upd (isOn listed) i true j := by
        intro j
        by_cases hj : j = i
        · subst hj
          simp [isOn, upd, Array.getD, inv.size, his]
        · simp only [upd, hj, if_false]
          exact getD_set_ne true (Ne.symm hj)
      have e1 : o.dst = dstOf ops i := by simp [dstOf, h2]
      have hst := Steps.take_get hstep hin h2
      have hneed : AllV V xs w (needs o) := AllV.of _ fun j hj => by
        obtain ⟨e, he, rfl⟩ := List.mem_map.1 hj
        obtain ⟨he1, he2⟩ := List.mem_filter.1 he
        have he1 : e ∈ o.after := by simpa using he1
        have h4 := h3 e he1 he2
        have hlt := hback i o h2 e he1
        have h5 : e.on < listed.size := by rw [inv.size]; omega
        refine hV _ (by omega) ?_
        simp only [isOn, Array.getD, h5, dif_pos] at h4 ⊢
        exact h4
      refine wpOp_step h2 fun K hK => ?_
      rw [hF xs hx0]
      refine hst xs w hS hneed K fun v w' hS' hVi hkeep => ?_
      have hfr : (F xs).put o.dst v = frameX ops a0 (upd xs i v) := by
        rw [← hF xs hx0, e1, frameX, frameX, fold_set (dstOf ops) xs i v _ _ List.nodup_range (List.mem_range.2 his) fun j hj hne t ht hc => ?_]
        have := List.all_eq_true.1 (List.all_eq_true.1 hd i (List.mem_range.2 his)) j hj
        rw [ht, hc] at this
        simp [hne] at this
      rw [hfr]
      refine hK _ _ (ih _ _ _ (fun j hj => by rw [upd, if_neg (by omega)]; exact hx0 j hj) (inv.set hi hin) ?_ hS' ?_)
      · have hlt : ((List.range n).filter fun j => !isOn (listed.setIfInBounds i true) j).length + 1 = ((List.range n).filter fun j => !isOn listed j).length := by
          have key : ∀ l : List Nat, l.Nodup → i ∈ l → (l.filter fun j => !isOn (listed.setIfInBounds i true) j).length + 1 = (l.filter fun j => !isOn listed j).length := by
            intro l
            induction l with
            | nil => intro _ h; cases h
            | cons k l ihl =>
              intro hnd hm
              obtain ⟨hk, hnd⟩ := List.nodup_cons.1 hnd
              by_cases hki : k = i
              · subst hki
                have e2 : l.filter (fun j => !isOn (listed.setIfInBounds k true) j) = l.filter fun j => !isOn listed j := List.filter_congr fun j hj => by
                  rw [hset]
                  have : j ≠ k := fun e => hk (e ▸ hj)
                  simp [upd, this]
                have a1 : isOn (listed.setIfInBounds k true) k = true := by rw [hset]; simp [upd]
                rw [List.filter_cons_of_neg (by rw [a1]; decide), List.filter_cons_of_pos (by rw [hon]; rfl), e2, List.length_cons]
              · have hm2 : i ∈ l := by
                  rcases List.mem_cons.1 hm with h | h
                  · exact absurd h.symm hki
                  · exact h
                have a1 : isOn (listed.setIfInBounds i true) k = isOn listed k := by rw [hset]; simp [upd, hki]
                rw [List.filter_cons, List.filter_cons, a1]
                split
                · rw [List.length_cons, List.length_cons, ← ihl hnd hm2]
                · exact ihl hnd hm2
          exact key _ List.nodup_range (List.mem_range.2 hin)
        omega
      · intro j hj hjon
        rw [hset] at hjon
        by_cases hji : j = i
        · subst hji
          simpa [upd] using hVi
        · simp only [upd, hji, if_false] at hjon ⊢
          exact hkeep j _ (hV j hj hjon)
/-- The law for a drawn region whose operations from n on come last, in their row. -/
theorem wp_region_rely_wait (n : Nat) {id : Nat} {a : Act} {w : World} (S : World → Prop) (V : Nat → Value → World → Prop) (F : (Nat → Value) → Act) (hF : ∀ xs, (∀ j, n ≤ j → xs j = slot a (dstOf ops j)) → frameX ops a xs = F xs)
    (hm : P.follows .mixedOrders = true) (hd : apartB ops = true) (hacyc : backB 0 ops.toList = true) (hn : n < ops.size) (hs : Region.sinkB .any ops n = true) (hc : Region.chainB .any ops n = true)
    (hseq : Region.seqB .any ops (ops.size - n) n ((Array.range ops.size).map fun j => decide (j < n)) = true) (hS : S w.drew) (hstep : Steps P ops Q F S V 0 (ops.toList.take n))
    (hT : ∀ (xs : Nat → Value) (w : World), S w → (∀ j, j < n → V j (xs j) w) → wpList P ops Q (ops.toList.drop n) (F xs) w) : (Code.region id ops true).wp P Q a w := by
  refine wp_region_any hm ?_
  have hinv : HeadInv .any ops n (Array.replicate ops.size false) := ⟨by simp, (fun j oj _ h => by rw [getD_replicate_false] at h; cases h), fun t _ ht => by simp [Array.getD, ht]⟩
  have hcount : ((List.range n).filter fun j => !isOn (Array.replicate ops.size false) j).length = n := by
    rw [List.filter_eq_self.2 fun j hj => by
      have := List.mem_range.1 hj
      simp [isOn, Array.getD, show j < ops.size by omega]]
    simp
  have h := wpAny_rely_wait n a (fun j => slot a (dstOf ops j)) F hF S V _ rfl hd hacyc hn hs hc hseq hstep hT n (Array.replicate ops.size false) (fun j => slot a (dstOf ops j)) w.drew (fun _ _ => rfl) hinv hcount hS (fun j hj h => by simp [isOn, Array.getD, show j < ops.size by omega] at h)
  rw [frameX, fold_self, show n + (ops.size - n) = ops.size by omega] at h
  exact h
end
end Go.Proofs.YtdaejggcjjdhkaaGreatDoor
