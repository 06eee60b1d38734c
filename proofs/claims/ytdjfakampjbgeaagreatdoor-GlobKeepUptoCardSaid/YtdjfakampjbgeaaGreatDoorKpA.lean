/- What GlobKeep's walk needs: lists that lie low, rows that stay, five rows in ranges of their own, entries written over. -/
import Derived.Test.YtdjfakampjbgeaaGreatDoorLentE
import Derived.Test.YtdjfakampjbgeaaGreatDoorKeepR
import Derived.Test.YtdjfakampjbgeaaGreatDoorReT
import Derived.Test.YtdjfakampjbgeaaGreatDoorGoH
namespace Go.Proofs.YtdjfakampjbgeaaGreatDoor
open Go Go.RowKit

theorem two_lt {RES : (Nat × Nat) ⊕ List Gl.Rl} {s : ByteArray} (hs : s.size ≤ 2000000) (H : Hid (Gl.parseL (bl s) = RES)) {w w1 w2 : World} {vr vl ve : Value} {N K : Int} (h1 : RefV RES w w1 vr N K) (h2 : ParV RES w1 w2 vl ve) (hb : Below w1.heap.size w1 w2) : Two RES w2 (fun g => g < w2.heap.size) N K vr vl ve := by
  have hlen : ∀ x ∈ Gl.cutL 10 (bl s), x.length ≤ 2000000 := fun x hx => by
    have := Gl.cutL_piece 10 _ _ hx
    rw [bl_length] at this
    omega
  have hp := H.out
  have hsz := hb.size
  cases RES with
  | inl nk =>
    obtain ⟨n, k⟩ := nk
    have he := (Gl.parseA_err hp).1
    obtain ⟨rfl, rfl⟩ := h1
    obtain ⟨rfl, rfl⟩ := h2
    exact .bad (by omega) (by omega) rfl rfl
  | inr rs =>
    obtain ⟨hz, ho⟩ := Gl.parseA_ok hp hlen (by simp) (fun r hr => by simp at hr)
    obtain ⟨rfl, rfl, A, c, rfl, hC⟩ := h1
    obtain ⟨B, rfl, rfl, hL⟩ := h2
    exact .ok B A c rs rfl rfl rfl rfl (hL.keep fun g hs _ => ⟨rfl, hs.2⟩) ((hC.below hb).keep fun g hs _ => ⟨rfl, by have := hs.2; omega⟩) hz ho
theorem enCs_app (a b : List En) : enCs (a ++ b) = enCs a ++ enCs b := by simp [enCs]
theorem enCs_length : ∀ l : List En, (enCs l).length = l.length * 5
  | [] => rfl
  | x :: l => by
    have e : enCs (x :: l) = enL x ++ enCs l := rfl
    rw [e, List.length_append, enCs_length l, List.length_cons, Nat.add_mul]
    show 5 + l.length * 5 = _
    omega
/-- the first of a row. -/
theorem re_front {w : World} {base g m c : Nat} {es M : List En} (h : w.ownsRow base 38 5 (.slice (some ⟨g, 0, none⟩) (es.length + m) c) (es.length + m) (enCs (es ++ M))) : RE w (fun _ => True) (.slice (some ⟨g, 0, none⟩) es.length c) es := by
  have h1 := RE.take (RC.own h (S := fun _ => True) fun _ _ => trivial) es.length es.length
  rw [List.take_left] at h1
  exact h1
theorem re_own {w : World} {base : Nat} {es : List En} {A : Option Addr} {c : Nat} (h : w.ownsRow base 38 5 (.slice A es.length c) es.length (enCs es)) : RE w (fun _ => True) (.slice A es.length c) es := RC.own h fun _ _ => trivial
theorem own_base {w : World} {b0 base : Nat} {e : TypeId} {k : Nat} {v : Value} {n : Nat} {xs : List Value} (h : w.ownsRow base e k v n xs) (hle : b0 ≤ base) : w.ownsRow b0 e k v n xs := by
  refine ⟨h.1, ?_⟩
  rcases h.2 with hn | ⟨g, cap, cur, h1, h2, h3⟩
  · exact .inl hn
  · exact .inr ⟨g, cap, cur, h1, Nat.le_trans hle h2, h3⟩
theorem own_fr {m : Nat} {V : Nat → Value} {w w' : World} {base : Nat} {e : TypeId} {k : Nat} {v : Value} {n : Nat} {xs : List Value} (h : w.ownsRow base e k v n xs) (hf : Ak.Fr m V w w') (hne : ∀ b, v.ownBlock = some b → ∀ j, j < m → (V j).ownBlock ≠ some b) : w'.ownsRow base e k v n xs := by
  refine ⟨h.1, ?_⟩
  rcases h.2 with hn | ⟨g, cap, cur, h1, h2, h3, h4⟩
  · exact .inl hn
  · subst h1
    have hlt := (h.lt g rfl).2
    exact .inr ⟨g, cap, cur, rfl, h2, (hf.block g hlt (hne g rfl)).trans h3, h4⟩
theorem ListAt.grown {w w' : World} {S : Nat → Prop} {B g : Nat} {rs : List Gl.Rl} (h : ListAt w S B rs) (hg : w.grownBy w' (some g)) (hS : ∀ b, S b → b ≠ g) : ListAt w' S B rs :=
  h.keep fun b hs hl => ⟨hg.block b hl (fun e => hS b hs (Option.some.inj e)), hs⟩
theorem RC.grown {w w' : World} {S : Nat → Prop} {g : Nat} {v : Value} {n : Nat} {cs : List Value} (h : RC w S v n cs) (hg : w.grownBy w' (some g)) (hS : ∀ b, S b → b ≠ g) : RC w' S v n cs :=
  h.keep fun b hs hl => ⟨hg.block b hl (fun e => hS b hs (Option.some.inj e)), hs⟩
theorem own_grown {w w' : World} {base g : Nat} {e : TypeId} {k : Nat} {v : Value} {n : Nat} {xs : List Value} (h : w.ownsRow base e k v n xs) (hg : w.grownBy w' (some g)) (hne : ∀ b, v.ownBlock = some b → b ≠ g) : w'.ownsRow base e k v n xs :=
  h.kept hg (by
    cases hv : v.ownBlock with
    | none => exact .inl rfl
    | some b => exact .inr (fun e => hne b hv (Option.some.inj e)))
/-- an entry written over. -/
def wE : En := ⟨[119, 114, 105, 116, 116, 101, 110, 47, 111, 118, 101, 114], 2, 0, [], []⟩
theorem put_over (L : List En) (x : En) (i : Nat) (hi : i < L.length) : Ak.putL (enCs (List.replicate i x ++ L.drop i)) (i * 5) (enL x) = enCs (List.replicate (i + 1) x ++ L.drop (i + 1)) := by
  have hd : L.drop i = L[i] :: L.drop (i + 1) := List.drop_eq_getElem_cons hi
  have e : enCs (L[i] :: L.drop (i + 1)) = enL L[i] ++ enCs (L.drop (i + 1)) := rfl
  have l5 : ∀ y : En, (enL y).length = 5 := fun _ => rfl
  have hl : (enCs (List.replicate i x)).length = i * 5 := by rw [enCs_length, List.length_replicate]
  have h := Ak.putL_eq (enL x) (enCs (List.replicate i x)) (enL L[i] ++ enCs (L.drop (i + 1))) (by rw [List.length_append, l5, l5]; omega)
  rw [hl, l5] at h
  rw [hd, enCs_app, e, h, List.drop_left' (l5 _), List.replicate_succ', enCs_app, enCs_app, List.append_assoc]
  simp [enCs]
theorem wE_path (n : Nat) : ∀ x ∈ List.replicate n wE, x.path.length ≤ 1100000 := fun x hx => by
  rw [List.eq_of_mem_replicate hx]
  have : wE.path.length = 12 := rfl
  omega
theorem over_set (w : World) (g o : Nat) : w.setCells g o (enL wE) = ((((w.setCell ⟨g, o, none⟩ (.string ⟨#[119, 114, 105, 116, 116, 101, 110, 47, 111, 118, 101, 114]⟩)).setCell ⟨g, o + 1, none⟩ (.int .i64 2)).setCell ⟨g, o + 2, none⟩ (.int .i64 0)).setCell ⟨g, o + 3, none⟩ (.string ⟨#[]⟩)).setCell ⟨g, o + 4, none⟩ (.string ⟨#[]⟩) := rfl
def V5 {α : Type} (a b c d f : α) : Nat → α
  | 0 => a
  | 1 => b
  | 2 => c
  | 3 => d
  | _ => f
def col5 (p q r s : Nat) : Nat → Nat := fun k => if k < p then 0 else if k < q then 1 else if k < r then 2 else if k < s then 3 else 4
theorem fam5 {w : World} {base : Nat} {va vb vc vd vf : Value} {na nb nc nd nf : Nat} {xa xb xc xd xf : List Value} {p q r s : Nat} {e : TypeId}
    (oa : w.ownsRow base e 5 va na xa) (ob : w.ownsRow base e 5 vb nb xb) (oc : w.ownsRow base e 5 vc nc xc) (od : w.ownsRow base e 5 vd nd xd) (of : w.ownsRow base e 5 vf nf xf)
    (ra : ∀ k, va.ownBlock = some k → k < p) (rb : ∀ k, vb.ownBlock = some k → p ≤ k ∧ k < q) (rc : ∀ k, vc.ownBlock = some k → q ≤ k ∧ k < r) (rd : ∀ k, vd.ownBlock = some k → r ≤ k ∧ k < s) (rf : ∀ k, vf.ownBlock = some k → s ≤ k) (hpq : p ≤ q) (hqr : q ≤ r) (hrs : r ≤ s) :
    ∀ j, j < 5 → w.ownsRow base e 5 (V5 va vb vc vd vf j) (V5 na nb nc nd nf j) (V5 xa xb xc xd xf j) ∧ ∀ k, (V5 va vb vc vd vf j).ownBlock = some k → col5 p q r s k = j := by
  intro j hj
  match j, hj with
  | 0, _ => exact ⟨oa, fun k hk => by have := ra k hk; unfold col5; (repeat' split) <;> omega⟩
  | 1, _ => exact ⟨ob, fun k hk => by have := rb k hk; unfold col5; (repeat' split) <;> omega⟩
  | 2, _ => exact ⟨oc, fun k hk => by have := rc k hk; unfold col5; (repeat' split) <;> omega⟩
  | 3, _ => exact ⟨od, fun k hk => by have := rd k hk; unfold col5; (repeat' split) <;> omega⟩
  | 4, _ => exact ⟨of, fun k hk => by have := rf k hk; unfold col5; (repeat' split) <;> omega⟩
theorem of5 {α : Type} {P : α → Prop} {a b c d f : α} (ha : P a) (hb : P b) (hc : P c) (hd : P d) (hf : P f) : ∀ j, P (V5 a b c d f j)
  | 0 => ha
  | 1 => hb
  | 2 => hc
  | 3 => hd
  | _ + 4 => hf
theorem cls5 (a b c d f : Value) : ∀ j, j < 5 → (#[a, b, c, d, f] : Array Value)[0 + j]? = some (V5 a b c d f j)
  | 0, _ => rfl
  | 1, _ => rfl
  | 2, _ => rfl
  | 3, _ => rfl
  | 4, _ => rfl
end Go.Proofs.YtdjfakampjbgeaaGreatDoor
