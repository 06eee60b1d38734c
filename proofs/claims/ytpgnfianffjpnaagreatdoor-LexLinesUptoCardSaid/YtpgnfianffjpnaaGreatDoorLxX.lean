/- Lists of lines in memory, each row in blocks of its own; what lex.Lines says, case by case. -/
import Derived.Test.YtpgnfianffjpnaaGreatDoorLxS
import Derived.Test.YtpgnfianffjpnaaGreatDoorLxU
import Derived.Test.YtpgnfianffjpnaaGreatDoorLxW
namespace Go.Proofs.YtpgnfianffjpnaaGreatDoor
open Go Go.RowKit

namespace Lx
/-- how many bytes lines have. -/
def tot (l : List Bs) : Nat := (l.map List.length).sum
theorem tot_cons (x : Bs) (l : List Bs) : tot (x :: l) = x.length + tot l := by simp [tot]
theorem tot_drop (l : List Bs) (i : Nat) : tot (l.drop i) ≤ tot l := by
  induction l generalizing i with
  | nil => simp
  | cons x l ih =>
    cases i with
    | zero => simp
    | succ i => rw [List.drop_succ_cons, tot_cons]; have := ih i; omega
theorem tot_cut (k : UInt8) : ∀ s : Bs, tot (Gl.cutL k s) ≤ s.length
  | [] => by simp [Gl.cutL, tot]
  | c :: r => by
    have ih := tot_cut k r
    rw [Gl.cutL_ne, tot_cons] at ih
    rw [Gl.cutL]
    split
    · rw [tot_cons, Gl.cutL_ne, tot_cons, List.length_cons, List.length_nil]; omega
    · rw [tot_cons, List.length_cons, List.length_cons]; omega
theorem tot_map {f : Bs → Bs} (hf : ∀ x, (f x).length ≤ x.length) : ∀ l : List Bs, tot (l.map f) ≤ tot l
  | [] => by simp
  | x :: l => by rw [List.map_cons, tot_cons, tot_cons]; have := tot_map hf l; have := hf x; omega
theorem tot_take (l : List Bs) (i : Nat) : tot (l.take i) ≤ tot l := by
  induction l generalizing i with
  | nil => simp
  | cons x l ih =>
    cases i with
    | zero => simp [tot]
    | succ i => rw [List.take_succ_cons, tot_cons, tot_cons]; have := ih i; omega
theorem tot_file (s : Bs) : tot (fileL s) ≤ s.length := by
  refine Nat.le_trans (tot_map (fun x => trimR_le x [13]) _) (Nat.le_trans ?_ (tot_cut 10 s))
  unfold dropE
  split
  · rw [List.dropLast_eq_take]; exact tot_take _ _
  · exact Nat.le_refl _
theorem goJ_len {e : UInt8} : ∀ (r : List Bs) (i : Nat) (a : Acc), (goJ e r i a).1.1.length ≤ a.1.length + tot r
  | [], i, a => by rw [goJ]; simp
  | x :: r, i, a => by
    rw [goJ, tot_cons]
    have hm := (more_len e a x (i + 1) 0).1
    split
    · have := goJ_len (e := e) r (i + 1) a; omega
    · split
      · have := goJ_len (e := e) r (i + 1) (moreL e a x (i + 1) 0); omega
      · simp only; omega
theorem joinL_len {e : UInt8} (x : Bs) (r : List Bs) (i : Nat) : (joinL e x r i).1.1.length ≤ x.length + tot r := by
  have hm := (more_len e ([], []) x (i + 1) (headN x)).1
  simp only [List.length_nil, Nat.zero_add] at hm
  rw [joinL]
  split
  · have := goJ_len (e := e) r (i + 1) (moreL e ([], []) x (i + 1) (headN x)); omega
  · simp only; omega
theorem empty_trim (t : Bs) : (Gl.trimL t).isEmpty = empty t := by
  unfold empty
  rw [show Gl.trimL t = Gl.lft (rgt t) from rfl]
  obtain ⟨b, hb, hbb⟩ := rgt_split t
  cases hl : Gl.lft t with
  | nil =>
    have hall : ∀ c ∈ t, isB c = true := by
      obtain ⟨p, hp, hpb⟩ := lft_split t
      rw [hl, List.append_nil] at hp
      rw [hp]; exact hpb
    have hr : rgt t = [] := by
      have := rgt_app [] hall
      rw [List.nil_append] at this
      rw [this]; rfl
    rw [hr]; rfl
  | cons c r =>
    cases hr : Gl.lft (rgt t) with
    | cons d q => rfl
    | nil =>
      exfalso
      obtain ⟨p, hp, hpb⟩ := lft_split (rgt t)
      rw [hr, List.append_nil] at hp
      rw [hp] at hb
      have : Gl.lft t = [] := by
        rw [hb]
        have h := lft_app (a := p ++ b) [] (fun x hx => by
          rcases List.mem_append.1 hx with h | h
          · exact hpb x h
          · exact hbb x h)
        rw [List.append_nil] at h
        rw [h]; rfl
      rw [hl] at this
      cases this
theorem main_skips {e : UInt8} {L : List Bs} {acc : List Ln} {i : Nat} : ∀ (j : Nat), i ≤ j → j ≤ L.length → (∀ k (h : k < L.length), i ≤ k → k < j → nothingL L[k] = true) → mainL e L (L.drop i) 0 i acc = mainL e L (L.drop j) 0 j acc
  | 0, hij, _, _ => by
    obtain rfl : i = 0 := by omega
    rfl
  | j + 1, hij, hj, h => by
    rcases Nat.lt_or_ge i (j + 1) with hlt | hge
    · rw [main_skips j (by omega) (by omega) (fun k hk h1 h2 => h k hk h1 (by omega))]
      exact main_nothing (by omega) (h j (by omega) (by omega) (by omega))
    · obtain rfl : i = j + 1 := by omega
      rfl
section
variable {s : Bs}
theorem lines_many (h : 65536 < s.length) : linesL s = .inl (5, 0, 0) := by rw [linesL, if_pos h]
theorem lines_text (h : ¬ 65536 < s.length) {l a : Nat} (hw : wrongL s 0 0 1 0 = some (l, a)) : linesL s = .inl (6, (l : Int), (a : Int)) := by rw [linesL, if_neg h, hw]
theorem lines_count (h : ¬ 65536 < s.length) (hw : wrongL s 0 0 1 0 = none) (hc : 4096 < (fileL s).length) : linesL s = .inl (5, 4097, 1) := by rw [linesL, if_neg h, hw]; simp only; rw [if_pos hc]
theorem lines_dirs (h : ¬ 65536 < s.length) (hw : wrongL s 0 0 1 0 = none) (hc : ¬ 4096 < (fileL s).length) {z : Err} (hd : dirsL (fileL s) = .inl z) : linesL s = .inl z := by rw [linesL, if_neg h, hw]; simp only; rw [if_neg hc, hd]
theorem lines_main (h : ¬ 65536 < s.length) (hw : wrongL s 0 0 1 0 = none) (hc : ¬ 4096 < (fileL s).length) {n : Nat} {e : UInt8} (hd : dirsL (fileL s) = .inr (n, e)) : linesL s = (match mainL e (fileL s) ((fileL s).drop n) 0 n [] with | .inl z => .inl z | .inr ls => .inr (e, ls)) := by
  rw [linesL, if_neg h, hw]; simp only; rw [if_neg hc, hd]
  rfl
end
end Lx
/-- the cells of a row of lines, each line's rows in blocks of its own, from lo on, below hi. -/
def LnOwn (w : World) : Nat → Nat → List Lx.Ln → List Value → Prop
  | lo, hi, [], cs => cs = [] ∧ lo ≤ hi
  | lo, hi, l :: ls, cs => ∃ vm vd m r, cs = [.int .i64 l.line, .string (bs l.text), vm, vd] ++ r ∧ lo ≤ m ∧ w.ownsRow lo 136 3 vm l.marks.length (mkC l.marks) ∧ (∀ b, vm.ownBlock = some b → b < m) ∧
      w.ownsRow lo 83 4 vd l.docs.length (dcC l.docs) ∧ (∀ b, vd.ownBlock = some b → b < m) ∧ LnOwn w m hi ls r
theorem LnOwn.le {w : World} : ∀ {ls : List Lx.Ln} {lo hi : Nat} {cs : List Value}, LnOwn w lo hi ls cs → lo ≤ hi
  | [], _, _, _, h => h.2
  | _ :: _, _, _, _, ⟨_, _, _, _, _, h1, _, _, _, _, h2⟩ => Nat.le_trans h1 h2.le
theorem LnOwn.length {w : World} : ∀ {ls : List Lx.Ln} {lo hi : Nat} {cs : List Value}, LnOwn w lo hi ls cs → cs.length = ls.length * 4
  | [], _, _, _, h => by rw [h.1]; rfl
  | _ :: ls, _, _, _, ⟨_, _, _, _, e, _, _, _, _, _, h⟩ => by rw [e, List.length_append, h.length, List.length_cons]; simp; omega
theorem LnOwn.keep {w w' : World} : ∀ {ls : List Lx.Ln} {lo hi : Nat} {cs : List Value}, LnOwn w lo hi ls cs → (∀ b ys e, b < hi → w.heap[b]? = some (.cells ys e (0, 0)) → (e = 136 ∨ e = 83) → w'.heap[b]? = w.heap[b]?) → LnOwn w' lo hi ls cs
  | [], _, _, _, h, _ => h
  | _ :: ls, lo, hi, _, ⟨vm, vd, m, r, e, h1, h2, h3, h4, h5, h6⟩, hk => by
    have hm := h6.le
    have own : ∀ {t : TypeId} {k n : Nat} {v : Value} {xs : List Value}, (t = 136 ∨ t = 83) → w.ownsRow lo t k v n xs → (∀ b, v.ownBlock = some b → b < m) → w'.ownsRow lo t k v n xs := fun {t k n v xs} ht ho hb => by
      refine ⟨ho.1, ?_⟩
      rcases ho.2 with q | ⟨g, cap, cur, rfl, q1, q2, q3⟩
      · exact .inl q
      · exact .inr ⟨g, cap, cur, rfl, q1, (hk g cur t (by have := hb g rfl; omega) q2 ht).trans q2, q3⟩
    exact ⟨vm, vd, m, r, e, h1, own (.inl rfl) h2 h3, h3, own (.inr rfl) h4 h5, h5, h6.keep hk⟩
theorem LnOwn.fx {w w' : World} {S : Nat → Prop} {ls : List Lx.Ln} {lo hi : Nat} {cs : List Value} (h : LnOwn w lo hi ls cs) (k : Fx S w w') (hS : ∀ b ys e, S b → w.heap[b]? = some (.cells ys e (0, 0)) → e ≠ 136 ∧ e ≠ 83) : LnOwn w' lo hi ls cs :=
  h.keep fun b ys e _ hb he => k.block b (by
    rcases Nat.lt_or_ge b w.heap.size with h1 | h1
    · exact h1
    · rw [Array.getElem?_eq_none h1] at hb; cases hb) (fun hs => by
      obtain ⟨h1, h2⟩ := hS b ys e hs hb
      rcases he with he | he
      · exact h1 he
      · exact h2 he)
theorem LnOwn.new {w w' : World} {ls : List Lx.Ln} {lo hi : Nat} {cs : List Value} (h : LnOwn w lo hi ls cs) (k : Below w.heap.size w w') : LnOwn w' lo hi ls cs := h.fx (S := fun _ => False) (Fx.new k) (fun _ _ _ hf => hf.elim)
theorem LnOwn.more {w : World} : ∀ {ls : List Lx.Ln} {lo hi hi' : Nat} {cs : List Value}, LnOwn w lo hi ls cs → hi ≤ hi' → LnOwn w lo hi' ls cs
  | [], _, _, _, _, h, hh => ⟨h.1, Nat.le_trans h.2 hh⟩
  | _ :: _, _, _, _, _, ⟨vm, vd, m, r, e, h1, h2, h3, h4, h5, h6⟩, hh => ⟨vm, vd, m, r, e, h1, h2, h3, h4, h5, h6.more hh⟩
theorem LnOwn.snoc {w : World} {l : Lx.Ln} {vm vd : Value} {hi' : Nat} : ∀ {ls : List Lx.Ln} {lo hi : Nat} {cs : List Value}, LnOwn w lo hi ls cs → hi ≤ hi' → w.ownsRow hi 136 3 vm l.marks.length (mkC l.marks) → (∀ b, vm.ownBlock = some b → b < hi') →
    w.ownsRow hi 83 4 vd l.docs.length (dcC l.docs) → (∀ b, vd.ownBlock = some b → b < hi') → LnOwn w lo hi' (ls ++ [l]) (cs ++ [.int .i64 l.line, .string (bs l.text), vm, vd])
  | [], lo, hi, cs, h, hh, h1, h2, h3, h4 => by
    obtain ⟨rfl, hl⟩ := h
    exact ⟨vm, vd, hi', [], by simp, by omega, own_base h1 hl, h2, own_base h3 hl, h4, rfl, Nat.le_refl _⟩
  | _ :: ls, lo, hi, _, ⟨vm', vd', m, r, e, q1, q2, q3, q4, q5, q6⟩, hh, h1, h2, h3, h4 =>
    ⟨vm', vd', m, r ++ [.int .i64 l.line, .string (bs l.text), vm, vd], by rw [e, List.append_assoc], q1, q2, q3, q4, q5, q6.snoc hh h1 h2 h3 h4⟩
end Go.Proofs.YtpgnfianffjpnaaGreatDoor
