/- Each byte of a line's text is the file's byte at its place; lines rise: plain. -/
import Derived.Test.YtpgnfianffjpnaaDoorLyA
namespace Go.Proofs.YtpgnfianffjpnaaDoor
open Go Go.RowKit
namespace Lx
/-- a byte stands at a place. -/
def At (L : List Bs) (p : Int × Int) (c : UInt8) : Prop := ∃ i k : Nat, p = ((i : Int) + 1, (k : Int) + 1) ∧ ∃ x, L[i]? = some x ∧ x[k]? = some c
def risesM : Int → List Mk → Prop
  | _, [] => True
  | lo, m :: ms => lo < m.line ∧ risesM m.line ms
def risesL : Int → List Ln → Prop
  | _, [] => True
  | lo, l :: ls => lo < l.line ∧ risesL l.line ls
theorem risesM_snoc {m : Mk} : ∀ {ms : List Mk} {lo : Int}, risesM lo ms → (∀ x ∈ ms, x.line < m.line) → lo < m.line → risesM lo (ms ++ [m])
  | [], _, _, _, h => ⟨h, trivial⟩
  | x :: ms, _, h, hl, _ => ⟨h.1, risesM_snoc h.2 (fun y hy => hl y (by simp [hy])) (hl x (by simp))⟩
theorem risesL_snoc {m : Ln} : ∀ {ms : List Ln} {lo : Int}, risesL lo ms → (∀ x ∈ ms, x.line < m.line) → lo < m.line → risesL lo (ms ++ [m])
  | [], _, _, _, h => ⟨h, trivial⟩
  | x :: ms, _, h, hl, _ => ⟨h.1, risesL_snoc h.2 (fun y hy => hl y (by simp [hy])) (hl x (by simp))⟩
structure AccOk (L : List Bs) (lo : Int) (hi : Nat) (a : Acc) : Prop where
  at_ : ∀ (k : Nat) c, a.1[k]? = some c → ∀ d, At L (placeM a.2 k d) c
  rise : risesM lo a.2
  top : ∀ m ∈ a.2, m.line ≤ (hi : Int)
section
variable {L : List Bs} {lo : Int} {hi n : Nat} {a : Acc}
theorem AccOk.up (h : AccOk L lo hi a) (hn : hi ≤ n) : AccOk L lo n a := ⟨h.at_, h.rise, fun m hm => by have := h.top m hm; omega⟩
theorem AccOk.add (h : AccOk L lo hi a) {i ahead : Nat} {x y : Bs} (hh : hi ≤ i) (hlo : lo ≤ (i : Int)) (hy : L[i]? = some y) (hx : ∀ (k : Nat) c, x[k]? = some c → y[ahead + k]? = some c) (_ : a.1.length ≤ 1000000) (h2 : x.length ≤ 1000000) (h3 : ahead ≤ 1000000) :
    AccOk L lo (i + 1) (addL a x (i + 1) ahead) := by
  rw [addL]
  split
  · exact h.up (by omega)
  · refine ⟨fun k c hk d => ?_, risesM_snoc h.rise (fun m hm => by have := h.top m hm; show _ < ((i + 1 : Nat) : Int); omega) (by show _ < ((i + 1 : Nat) : Int); omega), fun m hm => ?_⟩
    · rw [placeM_snoc]
      rcases Nat.lt_or_ge k a.1.length with hlt | hge
      · rw [List.getElem?_append_left hlt] at hk
        rw [if_neg (by show ¬ ((a.1.length : Int) ≤ (k : Int)); omega)]
        exact h.at_ k c hk d
      · rw [List.getElem?_append_right hge] at hk
        have hkx := (List.getElem?_eq_some_iff.1 hk).1
        rw [if_pos (by show ((a.1.length : Int) ≤ (k : Int)); omega)]
        refine ⟨i, ahead + (k - a.1.length), ?_, y, hy, hx _ c hk⟩
        show (((i + 1 : Nat) : Int), w64 ((ahead : Int) + 1 + w64 ((k : Int) - (a.1.length : Int)))) = _
        rw [show w64 ((k : Int) - (a.1.length : Int)) = (k : Int) - (a.1.length : Int) from IntWalk.i64_in _ (by omega), show w64 ((ahead : Int) + 1 + ((k : Int) - (a.1.length : Int))) = (ahead : Int) + 1 + ((k : Int) - (a.1.length : Int)) from IntWalk.i64_in _ (by omega)]
        refine Prod.ext ?_ ?_
        · show ((i + 1 : Nat) : Int) = _; omega
        · show _ = ((ahead + (k - a.1.length) : Nat) : Int) + 1; omega
    · rcases List.mem_append.1 hm with hm | hm
      · have := h.top m hm; omega
      · rw [List.mem_singleton] at hm; subst hm; exact Int.le_refl _
theorem rgt_pre {x : Bs} {k : Nat} {c : UInt8} (h : (rgt x)[k]? = some c) : x[k]? = some c := by
  obtain ⟨b, hb, _⟩ := rgt_split x
  rw [hb, List.getElem?_append_left (List.getElem?_eq_some_iff.1 h).1]
  exact h
theorem AccOk.more {e : UInt8} (h : AccOk L lo hi a) {i ahead : Nat} {y : Bs} (hh : hi ≤ i) (hlo : lo ≤ (i : Int)) (hy : L[i]? = some y) (h1 : a.1.length ≤ 1000000) (h2 : y.length ≤ 1000000) (h3 : ahead ≤ 1000000) :
    AccOk L lo (i + 1) (moreL e a y (i + 1) ahead) := by
  have hd : (y.drop ahead).length ≤ 1000000 := by rw [List.length_drop]; omega
  have hr := trimR_le (y.drop ahead) Gl.bls
  rw [moreL]
  split
  · refine h.add hh hlo hy (fun k c hk => ?_) h1 (by rw [List.length_dropLast]; show (rgt (y.drop ahead)).length - 1 ≤ _; unfold rgt; omega) h3
    have hk2 : (rgt (y.drop ahead))[k]? = some c := by
      rw [List.dropLast_eq_take, List.getElem?_take] at hk
      split at hk
      · exact hk
      · cases hk
    have := rgt_pre hk2
    rwa [List.getElem?_drop] at this
  · exact h.add hh hlo hy (fun k c hk => by rwa [List.getElem?_drop] at hk) h1 hd h3
theorem drop_get {L : List Bs} {i : Nat} {x : Bs} {r : List Bs} (h : L.drop i = x :: r) : L[i]? = some x ∧ L.drop (i + 1) = r ∧ i < L.length := by
  have hlt : i < L.length := by
    rcases Nat.lt_or_ge i L.length with h1 | h1
    · exact h1
    · rw [List.drop_eq_nil_of_le h1] at h; cases h
  rw [List.drop_eq_getElem_cons hlt] at h
  injection h with h1 h2
  exact ⟨by rw [List.getElem?_eq_getElem hlt, h1], h2, hlt⟩
theorem goJ_ok {e : UInt8} : ∀ (r : List Bs) (i hi : Nat) (a : Acc), L.drop i = r → AccOk L lo hi a → hi ≤ i → lo ≤ (i : Int) → a.1.length + tot r ≤ 1000000 → AccOk L lo (goJ e r i a).2 (goJ e r i a).1
  | [], i, hi, a, _, h, hh, _, _ => by rw [goJ]; exact h.up hh
  | x :: r, i, hi, a, hr, h, hh, hlo, hb => by
    obtain ⟨h1, h2, h3⟩ := drop_get hr
    rw [tot_cons] at hb
    rw [goJ]
    split
    · exact goJ_ok r (i + 1) hi a h2 h (by omega) (by omega) (by omega)
    · have hm := (more_len e a x (i + 1) 0).1
      split
      · exact goJ_ok r (i + 1) (i + 1) _ h2 (h.more hh hlo h1 (by omega) (by omega) (by omega)) (Nat.le_refl _) (by omega) (by omega)
      · exact h.more hh hlo h1 (by omega) (by omega) (by omega)
theorem AccOk.nil : AccOk L lo hi ([], []) := ⟨fun k c h => by simp at h, trivial, fun m hm => by cases hm⟩
theorem joinL_ok {e : UInt8} {x : Bs} {r : List Bs} {i : Nat} (hr : L.drop i = x :: r) (hb : tot (x :: r) ≤ 1000000) : AccOk L (i : Int) (joinL e x r i).2 (joinL e x r i).1 := by
  obtain ⟨h1, h2, h3⟩ := drop_get hr
  rw [tot_cons] at hb
  have hh := headN_le x
  have hm := (more_len e ([], []) x (i + 1) (headN x)).1
  simp only [List.length_nil, Nat.zero_add] at hm
  have h0 : AccOk L (i : Int) (i + 1) (moreL e ([], []) x (i + 1) (headN x)) := (AccOk.nil (hi := i)).more (Nat.le_refl _) (Int.le_refl _) h1 (by simp) (by omega) (by omega)
  rw [joinL]
  split
  · exact goJ_ok r (i + 1) (i + 1) _ h2 h0 (Nat.le_refl _) (by omega) (by omega)
  · exact h0
end
/-- what holds of each line. -/
def LnOk (L : List Bs) (l : Ln) : Prop := risesM (l.line - 1) l.marks ∧ ∀ (k : Nat) c, l.text[k]? = some c → ∀ d, At L (placeM l.marks k d) c
theorem main_ok {e : UInt8} {L : List Bs} (hb : tot L ≤ 1000000) : ∀ (m i : Nat) (acc ls : List Ln), L.length - i ≤ m → mainL e L (L.drop i) 0 i acc = .inr ls → risesL 0 acc → (∀ l ∈ acc, l.line ≤ (i : Int) ∧ LnOk L l) → risesL 0 ls ∧ ∀ l ∈ ls, LnOk L l := by
  intro m
  induction m with
  | zero =>
    intro i acc ls hm h hr ha
    rw [main_end (by omega)] at h
    injection h with h
    subst h
    exact ⟨hr, fun l hl => (ha l hl).2⟩
  | succ m ih =>
    intro i acc ls hm h hr ha
    rcases Nat.lt_or_ge i L.length with hi | hi
    · cases hn : nothingL L[i] with
      | true =>
        rw [main_nothing hi hn] at h
        exact ih (i + 1) acc ls (by omega) h hr fun l hl => ⟨by have := (ha l hl).1; omega, (ha l hl).2⟩
      | false =>
        obtain ⟨t, ht⟩ : ∃ t, joinL e L[i] (L.drop (i + 1)) i = t := ⟨_, rfl⟩
        obtain ⟨a, j⟩ := t
        have hle := (joinL_le (e := e) L[i] (L.drop (i + 1)) i).1
        have hd := List.drop_eq_getElem_cons hi
        have hok := joinL_ok (e := e) hd (by rw [← hd]; have := tot_drop L i; omega)
        rw [ht] at hle hok
        simp only at hle hok
        cases he : empty a.1 with
        | true =>
          rw [main_empty hi hn ht he] at h
          exact ih j acc ls (by omega) h hr fun l hl => ⟨by have := (ha l hl).1; omega, (ha l hl).2⟩
        | false =>
          cases hdd : docsL e L ⟨(i : Int) + 1, a.1, a.2, []⟩ j with
          | inl z => rw [main_err hi hn ht he hdd] at h; cases h
          | inr dm =>
            obtain ⟨ds, m2⟩ := dm
            have hm2 := (docsL_le hdd).1
            rw [main_line hi hn ht he hdd] at h
            refine ih m2 _ ls (by omega) h (risesL_snoc hr (fun x hx => by have := (ha x hx).1; show _ < (i : Int) + 1; omega) (by show (0 : Int) < (i : Int) + 1; omega)) fun l hl => ?_
            rcases List.mem_append.1 hl with hl | hl
            · exact ⟨by have := (ha l hl).1; omega, (ha l hl).2⟩
            · rw [List.mem_singleton] at hl
              subst hl
              refine ⟨by show (i : Int) + 1 ≤ _; omega, ?_, hok.at_⟩
              show risesM ((i : Int) + 1 - 1) a.2
              rw [show (i : Int) + 1 - 1 = (i : Int) by omega]
              exact hok.rise
    · rw [main_end hi] at h
      injection h with h
      subst h
      exact ⟨hr, fun l hl => (ha l hl).2⟩
theorem places_ok {s : Bs} {e : UInt8} {ls : List Ln} (h : linesL s = .inr (e, ls)) : risesL 0 ls ∧ ∀ l ∈ ls, LnOk (fileL s) l := by
  rcases Nat.lt_or_ge 65536 s.length with h1 | h1
  · rw [lines_many h1] at h; cases h
  · cases hw : wrongL s 0 0 1 0 with
    | some p => rw [lines_text (by omega) hw] at h; cases h
    | none =>
      rcases Nat.lt_or_ge 4096 (fileL s).length with hc | hc
      · rw [lines_count (by omega) hw hc] at h; cases h
      · cases hd : dirsL (fileL s) with
        | inl z => rw [lines_dirs (by omega) hw (by omega) hd] at h; cases h
        | inr ne =>
          obtain ⟨n, e2⟩ := ne
          rw [lines_main (by omega) hw (by omega) hd] at h
          cases hm : mainL e2 (fileL s) ((fileL s).drop n) 0 n [] with
          | inl z => rw [hm] at h; cases h
          | inr ls2 =>
            rw [hm] at h
            injection h with h
            injection h with _ h
            subst h
            have := tot_file s
            exact main_ok (by omega) _ n [] ls2 (Nat.le_refl _) hm trivial fun l hl => by cases hl
theorem clamp_in {l : Ln} {k : Nat} (h : k < l.text.length) : clampL l (k : Int) = (k : Int) := by unfold clampL; omega
theorem place_ok {L : List Bs} {l : Ln} (h : LnOk L l) {k : Nat} {c : UInt8} (hc : l.text[k]? = some c) : At L (placeL l (k : Int)) c := by
  rw [placeL, clamp_in (List.getElem?_eq_some_iff.1 hc).1]
  exact h.2 k c hc _
end Lx
end Go.Proofs.YtpgnfianffjpnaaDoor
