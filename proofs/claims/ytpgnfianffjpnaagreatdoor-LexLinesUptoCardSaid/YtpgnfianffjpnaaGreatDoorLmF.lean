/- strataref14.Lines, walked. -/
import Derived.Test.YtpgnfianffjpnaaGreatDoorLyA
import Derived.Test.YtpgnfianffjpnaaGreatDoorLmC
import Derived.Test.YtpgnfianffjpnaaGreatDoorLmB
import Derived.Test.YtpgnfianffjpnaaGreatDoorLnR
import Derived.Test.YtpgnfianffjpnaaGreatDoorLrG
namespace Go.Proofs.YtpgnfianffjpnaaGreatDoor
open Go Go.RowKit
namespace Lx
/-- a byte stands at a place. -/
def At (L : List Bs) (p : Int × Int) (c : UInt8) : Prop := ∃ i k : Nat, p = ((i : Int) + 1, (k : Int) + 1) ∧ ∃ x, L[i]? = some x ∧ x[k]? = some c
def risesM : Int → List Mk → Prop
  | _, [] => True
  | lo, m :: ms => lo < m.line ∧ risesM m.line ms
def risesL : Int → List Ln → Prop
  | _, [] => True
  | lo, l :: ls => lo < l.line ∧ risesL l.line ls
theorem risesM_snoc {m : Mk} : ∀ {ms : List Mk} {lo : Int}, risesM lo ms → (∀ x ∈ ms, x.line < m.line) → lo < m.line → risesM lo (ms ++ [m])
  | [], _, _, _, h => ⟨h, trivial⟩
  | x :: ms, _, h, hl, _ => ⟨h.1, risesM_snoc h.2 (fun y hy => hl y (by simp [hy])) (hl x (by simp))⟩
theorem risesL_snoc {m : Ln} : ∀ {ms : List Ln} {lo : Int}, risesL lo ms → (∀ x ∈ ms, x.line < m.line) → lo < m.line → risesL lo (ms ++ [m])
  | [], _, _, _, h => ⟨h, trivial⟩
  | x :: ms, _, h, hl, _ => ⟨h.1, risesL_snoc h.2 (fun y hy => hl y (by simp [hy])) (hl x (by simp))⟩
structure AccOk (L : List Bs) (lo : Int) (hi : Nat) (a : Acc) : Prop where
  at_ : ∀ (k : Nat) c, a.1[k]? = some c → ∀ d, At L (placeM a.2 k d) c
  rise : risesM lo a.2
  top : ∀ m ∈ a.2, m.line ≤ (hi : Int)
section
variable {L : List Bs} {lo : Int} {hi n : Nat} {a : Acc}
theorem AccOk.up (h : AccOk L lo hi a) (hn : hi ≤ n) : AccOk L lo n a := ⟨h.at_, h.rise, fun m hm => by have := h.top m hm; omega⟩
theorem AccOk.add (h : AccOk L lo hi a) {i ahead : Nat} {x y : Bs} (hh : hi ≤ i) (hlo : lo ≤ (i : Int)) (hy : L[i]? = some y) (hx : ∀ (k : Nat) c, x[k]? = some c → y[ahead + k]? = some c) (_ : a.1.length ≤ 1000000) (h2 : x.length ≤ 1000000) (h3 : ahead ≤ 1000000) :
    AccOk L lo (i + 1) (addL a x (i + 1) ahead) := by
  rw [addL]
  split
  · exact h.up (by omega)
  · refine ⟨fun k c hk d => ?_, risesM_snoc h.rise (fun m hm => by have := h.top m hm; show _ < ((i + 1 : Nat) : Int); omega) (by show _ < ((i + 1 : Nat) : Int); omega), fun m hm => ?_⟩
    · rw [placeM_snoc]
      rcases Nat.lt_or_ge k a.1.length with hlt | hge
      · rw [List.getElem?_append_left hlt] at hk
        rw [if_neg (by show ¬ ((a.1.length : Int) ≤ (k : Int)); omega)]
        exact h.at_ k c hk d
      · rw [List.getElem?_append_right hge] at hk
        have hkx := (List.getElem?_eq_some_iff.1 hk).1
        rw [if_pos (by show ((a.1.length : Int) ≤ (k : Int)); omega)]
        refine ⟨i, ahead + (k - a.1.length), ?_, y, hy, hx _ c hk⟩
        show (((i + 1 : Nat) : Int), w64 ((ahead : Int) + 1 + w64 ((k : Int) - (a.1.length : Int)))) = _
        rw [show w64 ((k : Int) - (a.1.length : Int)) = (k : Int) - (a.1.length : Int) from IntWalk.i64_in _ (by omega), show w64 ((ahead : Int) + 1 + ((k : Int) - (a.1.length : Int))) = (ahead : Int) + 1 + ((k : Int) - (a.1.length : Int)) from IntWalk.i64_in _ (by omega)]
        refine Prod.ext ?_ ?_
        · show ((i + 1 : Nat) : Int) = _; omega
        · show _ = ((ahead + (k - a.1.length) : Nat) : Int) + 1; omega
    · rcases List.mem_append.1 hm with hm | hm
      · have := h.top m hm; omega
      · rw [List.mem_singleton] at hm; subst hm; exact Int.le_refl _
theorem rgt_pre {x : Bs} {k : Nat} {c : UInt8} (h : (rgt x)[k]? = some c) : x[k]? = some c := by
  obtain ⟨b, hb, _⟩ := rgt_split x
  rw [hb, List.getElem?_append_left (List.getElem?_eq_some_iff.1 h).1]
  exact h
theorem AccOk.more {e : UInt8} (h : AccOk L lo hi a) {i ahead : Nat} {y : Bs} (hh : hi ≤ i) (hlo : lo ≤ (i : Int)) (hy : L[i]? = some y) (h1 : a.1.length ≤ 1000000) (h2 : y.length ≤ 1000000) (h3 : ahead ≤ 1000000) :
    AccOk L lo (i + 1) (moreL e a y (i + 1) ahead) := by
  have hd : (y.drop ahead).length ≤ 1000000 := by rw [List.length_drop]; omega
  have hr := trimR_le (y.drop ahead) Gl.bls
  rw [moreL]
  split
  · refine h.add hh hlo hy (fun k c hk => ?_) h1 (by rw [List.length_dropLast]; show (rgt (y.drop ahead)).length - 1 ≤ _; unfold rgt; omega) h3
    have hk2 : (rgt (y.drop ahead))[k]? = some c := by
      rw [List.dropLast_eq_take, List.getElem?_take] at hk
      split at hk
      · exact hk
      · cases hk
    have := rgt_pre hk2
    rwa [List.getElem?_drop] at this
  · exact h.add hh hlo hy (fun k c hk => by rwa [List.getElem?_drop] at hk) h1 hd h3
theorem drop_get {L : List Bs} {i : Nat} {x : Bs} {r : List Bs} (h : L.drop i = x :: r) : L[i]? = some x ∧ L.drop (i + 1) = r ∧ i < L.length := by
  have hlt : i < L.length := by
    rcases Nat.lt_or_ge i L.length with h1 | h1
    · exact h1
    · rw [List.drop_eq_nil_of_le h1] at h; cases h
  rw [List.drop_eq_getElem_cons hlt] at h
  injection h with h1 h2
  exact ⟨by rw [List.getElem?_eq_getElem hlt, h1], h2, hlt⟩
theorem goJ_ok {e : UInt8} : ∀ (r : List Bs) (i hi : Nat) (a : Acc), L.drop i = r → AccOk L lo hi a → hi ≤ i → lo ≤ (i : Int) → a.1.length + tot r ≤ 1000000 → AccOk L lo (goJ e r i a).2 (goJ e r i a).1
  | [], i, hi, a, _, h, hh, _, _ => by rw [goJ]; exact h.up hh
  | x :: r, i, hi, a, hr, h, hh, hlo, hb => by
    obtain ⟨h1, h2, h3⟩ := drop_get hr
    rw [tot_cons] at hb
    rw [goJ]
    split
    · exact goJ_ok r (i + 1) hi a h2 h (by omega) (by omega) (by omega)
    · have hm := (more_len e a x (i + 1) 0).1
      split
      · exact goJ_ok r (i + 1) (i + 1) _ h2 (h.more hh hlo h1 (by omega) (by omega) (by omega)) (Nat.le_refl _) (by omega) (by omega)
      · exact h.more hh hlo h1 (by omega) (by omega) (by omega)
theorem AccOk.nil : AccOk L lo hi ([], []) := ⟨fun k c h => by simp at h, trivial, fun m hm => by cases hm⟩
theorem joinL_ok {e : UInt8} {x : Bs} {r : List Bs} {i : Nat} (hr : L.drop i = x :: r) (hb : tot (x :: r) ≤ 1000000) : AccOk L (i : Int) (joinL e x r i).2 (joinL e x r i).1 := by
  obtain ⟨h1, h2, h3⟩ := drop_get hr
  rw [tot_cons] at hb
  have hh := headN_le x
  have hm := (more_len e ([], []) x (i + 1) (headN x)).1
  simp only [List.length_nil, Nat.zero_add] at hm
  have h0 : AccOk L (i : Int) (i + 1) (moreL e ([], []) x (i + 1) (headN x)) := (AccOk.nil (hi := i)).more (Nat.le_refl _) (Int.le_refl _) h1 (by simp) (by omega) (by omega)
  rw [joinL]
  split
  · exact goJ_ok r (i + 1) (i + 1) _ h2 h0 (Nat.le_refl _) (by omega) (by omega)
  · exact h0
end
/-- what holds of each line. -/
def LnOk (L : List Bs) (l : Ln) : Prop := risesM (l.line - 1) l.marks ∧ ∀ (k : Nat) c, l.text[k]? = some c → ∀ d, At L (placeM l.marks k d) c
theorem main_ok {e : UInt8} {L : List Bs} (hb : tot L ≤ 1000000) : ∀ (m i : Nat) (acc ls : List Ln), L.length - i ≤ m → mainL e L (L.drop i) 0 i acc = .inr ls → risesL 0 acc → (∀ l ∈ acc, l.line ≤ (i : Int) ∧ LnOk L l) → risesL 0 ls ∧ ∀ l ∈ ls, LnOk L l := by
  intro m
  induction m with
  | zero =>
    intro i acc ls hm h hr ha
    rw [main_end (by omega)] at h
    injection h with h
    subst h
    exact ⟨hr, fun l hl => (ha l hl).2⟩
  | succ m ih =>
    intro i acc ls hm h hr ha
    rcases Nat.lt_or_ge i L.length with hi | hi
    · cases hn : nothingL L[i] with
      | true =>
        rw [main_nothing hi hn] at h
        exact ih (i + 1) acc ls (by omega) h hr fun l hl => ⟨by have := (ha l hl).1; omega, (ha l hl).2⟩
      | false =>
        obtain ⟨t, ht⟩ : ∃ t, joinL e L[i] (L.drop (i + 1)) i = t := ⟨_, rfl⟩
        obtain ⟨a, j⟩ := t
        have hle := (joinL_le (e := e) L[i] (L.drop (i + 1)) i).1
        have hd := List.drop_eq_getElem_cons hi
        have hok := joinL_ok (e := e) hd (by rw [← hd]; have := tot_drop L i; omega)
        rw [ht] at hle hok
        simp only at hle hok
        cases he : empty a.1 with
        | true =>
          rw [main_empty hi hn ht he] at h
          exact ih j acc ls (by omega) h hr fun l hl => ⟨by have := (ha l hl).1; omega, (ha l hl).2⟩
        | false =>
          cases hdd : docsL e L ⟨(i : Int) + 1, a.1, a.2, []⟩ j with
          | inl z => rw [main_err hi hn ht he hdd] at h; cases h
          | inr dm =>
            obtain ⟨ds, m2⟩ := dm
            have hm2 := (docsL_le hdd).1
            rw [main_line hi hn ht he hdd] at h
            refine ih m2 _ ls (by omega) h (risesL_snoc hr (fun x hx => by have := (ha x hx).1; show _ < (i : Int) + 1; omega) (by show (0 : Int) < (i : Int) + 1; omega)) fun l hl => ?_
            rcases List.mem_append.1 hl with hl | hl
            · exact ⟨by have := (ha l hl).1; omega, (ha l hl).2⟩
            · rw [List.mem_singleton] at hl
              subst hl
              refine ⟨by show (i : Int) + 1 ≤ _; omega, ?_, hok.at_⟩
              show risesM ((i : Int) + 1 - 1) a.2
              rw [show (i : Int) + 1 - 1 = (i : Int) by omega]
              exact hok.rise
    · rw [main_end hi] at h
      injection h with h
      subst h
      exact ⟨hr, fun l hl => (ha l hl).2⟩
theorem places_ok {s : Bs} {e : UInt8} {ls : List Ln} (h : linesL s = .inr (e, ls)) : risesL 0 ls ∧ ∀ l ∈ ls, LnOk (fileL s) l := by
  rcases Nat.lt_or_ge 65536 s.length with h1 | h1
  · rw [lines_many h1] at h; cases h
  · cases hw : wrongL s 0 0 1 0 with
    | some p => rw [lines_text (by omega) hw] at h; cases h
    | none =>
      rcases Nat.lt_or_ge 4096 (fileL s).length with hc | hc
      · rw [lines_count (by omega) hw hc] at h; cases h
      · cases hd : dirsL (fileL s) with
        | inl z => rw [lines_dirs (by omega) hw (by omega) hd] at h; cases h
        | inr ne =>
          obtain ⟨n, e2⟩ := ne
          rw [lines_main (by omega) hw (by omega) hd] at h
          cases hm : mainL e2 (fileL s) ((fileL s).drop n) 0 n [] with
          | inl z => rw [hm] at h; cases h
          | inr ls2 =>
            rw [hm] at h
            injection h with h
            injection h with _ h
            subst h
            have := tot_file s
            exact main_ok (by omega) _ n [] ls2 (Nat.le_refl _) hm trivial fun l hl => by cases hl
theorem clamp_in {l : Ln} {k : Nat} (h : k < l.text.length) : clampL l (k : Int) = (k : Int) := by unfold clampL; omega
theorem place_ok {L : List Bs} {l : Ln} (h : LnOk L l) {k : Nat} {c : UInt8} (hc : l.text[k]? = some c) : At L (placeL l (k : Int)) c := by
  rw [placeL, clamp_in (List.getElem?_eq_some_iff.1 hc).1]
  exact h.2 k c hc _
end Lx
end Go.Proofs.YtpgnfianffjpnaaGreatDoor
namespace Go.Proofs.YtpgnfianffjpnaaGreatDoor
open Go Go.RowKit
namespace Lx
/-- what holds of each line that is made holds of all. -/
theorem main_all {e : UInt8} {L : List Bs} {P : Ln → Prop} (hP : ∀ (i : Nat) (hi : i < L.length) (t : Acc) (j : Nat) (ds : List Dc) (m : Nat), joinL e L[i] (L.drop (i + 1)) i = (t, j) → docsL e L ⟨(i : Int) + 1, t.1, t.2, []⟩ j = .inr (ds, m) → P ⟨(i : Int) + 1, t.1, t.2, ds⟩) :
    ∀ (m i : Nat) (acc ls : List Ln), L.length - i ≤ m → mainL e L (L.drop i) 0 i acc = .inr ls → (∀ l ∈ acc, P l) → ∀ l ∈ ls, P l := by
  intro m
  induction m with
  | zero =>
    intro i acc ls hm h ha
    rw [main_end (by omega)] at h
    injection h with h
    subst h
    exact ha
  | succ m ih =>
    intro i acc ls hm h ha
    rcases Nat.lt_or_ge i L.length with hi | hi
    · cases hn : nothingL L[i] with
      | true =>
        rw [main_nothing hi hn] at h
        exact ih (i + 1) acc ls (by omega) h ha
      | false =>
        obtain ⟨t, ht⟩ : ∃ t, joinL e L[i] (L.drop (i + 1)) i = t := ⟨_, rfl⟩
        obtain ⟨a, j⟩ := t
        have hle := (joinL_le (e := e) L[i] (L.drop (i + 1)) i).1
        rw [ht] at hle
        simp only at hle
        cases he : empty a.1 with
        | true =>
          rw [main_empty hi hn ht he] at h
          exact ih j acc ls (by omega) h ha
        | false =>
          cases hdd : docsL e L ⟨(i : Int) + 1, a.1, a.2, []⟩ j with
          | inl z => rw [main_err hi hn ht he hdd] at h; cases h
          | inr dm =>
            obtain ⟨ds, m2⟩ := dm
            have hm2 := (docsL_le hdd).1
            rw [main_line hi hn ht he hdd] at h
            refine ih m2 _ ls (by omega) h fun l hl => ?_
            rcases List.mem_append.1 hl with hl | hl
            · exact ha l hl
            · rw [List.mem_singleton] at hl
              subst hl
              exact hP i hi a j ds m2 ht hdd
    · rw [main_end hi] at h
      injection h with h
      subst h
      exact ha
theorem goJ_marks {e : UInt8} : ∀ (r : List Bs) (i : Nat) (a : Acc), (goJ e r i a).1.2.length ≤ a.2.length + r.length
  | [], i, a => by rw [goJ]; simp
  | x :: r, i, a => by
    rw [goJ, List.length_cons]
    have hm := (more_len e a x (i + 1) 0).2
    split
    · have := goJ_marks (e := e) r (i + 1) a; omega
    · split
      · have := goJ_marks (e := e) r (i + 1) (moreL e a x (i + 1) 0); omega
      · simp only; omega
theorem joinL_marks {e : UInt8} (x : Bs) (r : List Bs) (i : Nat) : (joinL e x r i).1.2.length ≤ 1 + r.length := by
  have hm := (more_len e ([], []) x (i + 1) (headN x)).2
  simp only [List.length_nil, Nat.zero_add] at hm
  rw [joinL]
  split
  · have := goJ_marks (e := e) r (i + 1) (moreL e ([], []) x (i + 1) (headN x)); omega
  · simp only; omega
def LnB (l : Ln) : Prop := 1 ≤ l.line ∧ l.line ≤ 1000000 ∧ l.text.length ≤ 1000000 ∧ l.marks.length ≤ 1000000
theorem lines_len {s : Bs} {e : UInt8} {ls : List Ln} (h : linesL s = .inr (e, ls)) : ∀ l ∈ ls, LnB l := by
  rcases Nat.lt_or_ge 65536 s.length with h1 | h1
  · rw [lines_many h1] at h; cases h
  · cases hw : wrongL s 0 0 1 0 with
    | some p => rw [lines_text (by omega) hw] at h; cases h
    | none =>
      rcases Nat.lt_or_ge 4096 (fileL s).length with hc | hc
      · rw [lines_count (by omega) hw hc] at h; cases h
      · cases hd : dirsL (fileL s) with
        | inl z => rw [lines_dirs (by omega) hw (by omega) hd] at h; cases h
        | inr ne =>
          obtain ⟨n, e2⟩ := ne
          rw [lines_main (by omega) hw (by omega) hd] at h
          cases hm : mainL e2 (fileL s) ((fileL s).drop n) 0 n [] with
          | inl z => rw [hm] at h; cases h
          | inr ls2 =>
            rw [hm] at h
            injection h with h
            injection h with _ h
            subst h
            refine main_all (fun i hi t j ds m ht _ => ?_) _ n [] ls2 (Nat.le_refl _) hm fun l hl => by cases hl
            have q1 := joinL_len (e := e2) (fileL s)[i] ((fileL s).drop (i + 1)) i
            have q2 := joinL_marks (e := e2) (fileL s)[i] ((fileL s).drop (i + 1)) i
            have q3 := tot_file s
            have q4 := tot_drop (fileL s) i
            rw [List.drop_eq_getElem_cons hi, tot_cons] at q4
            rw [ht] at q1 q2
            rw [List.length_drop] at q2
            simp only at q1 q2
            exact ⟨by show (1 : Int) ≤ (i : Int) + 1; omega, by show (i : Int) + 1 ≤ _; omega, by show t.1.length ≤ _; omega, by show t.2.length ≤ _; omega⟩
end Lx
end Go.Proofs.YtpgnfianffjpnaaGreatDoor
namespace Go.Proofs.YtpgnfianffjpnaaGreatDoor
open Go Go.RowKit
theorem Ls.own2 {w : World} {base n : Nat} {t : TypeId} {A : Option Addr} {c : Nat} {L : List (List UInt8)} (h : w.ownsRow base t 1 (.slice A n c) n (sc L)) : Ls w A L := by
  intro h0
  rcases h.2 with ⟨_, e⟩ | ⟨g, cap, cur, e, _, hg, _⟩
  · have h1 := h.1
    rw [e, Nat.zero_mul] at h1
    rw [show (sc L).length = L.length by simp [sc]] at h1
    omega
  · injection e with e1 _ e3
    subst e1
    refine ⟨g, rfl, ?_, fun j x hx => ?_⟩
    · rcases Nat.lt_or_ge g w.heap.size with h1 | h1
      · exact h1
      · rw [Array.getElem?_eq_none h1] at hg; cases hg
    · have := h.cells (g := g) rfl j (.string (bs x)) (by simp [sc, hx])
      rwa [Addr.add_lit, Nat.zero_add] at this
theorem Lx.goJ_marks2 {e : UInt8} : ∀ (r : List Lx.Bs) (i : Nat) (a : Lx.Acc), (Lx.goJ e r i a).1.2.length ≤ a.2.length + r.length
  | [], i, a => by rw [Lx.goJ]; simp
  | x :: r, i, a => by
    rw [Lx.goJ, List.length_cons]
    have hm := (more_len e a x (i + 1) 0).2
    split
    · have := Lx.goJ_marks2 (e := e) r (i + 1) a; omega
    · split
      · have := Lx.goJ_marks2 (e := e) r (i + 1) (Lx.moreL e a x (i + 1) 0); omega
      · simp only; omega
theorem joinL_marks2 {e : UInt8} (x : Lx.Bs) (r : List Lx.Bs) (i : Nat) : (Lx.joinL e x r i).1.2.length ≤ 1 + r.length := by
  have hm := (more_len e ([], []) x (i + 1) (Lx.headN x)).2
  simp only [List.length_nil, Nat.zero_add] at hm
  rw [Lx.joinL]
  split
  · have := Lx.goJ_marks2 (e := e) r (i + 1) (Lx.moreL e ([], []) x (i + 1) (Lx.headN x)); omega
  · simp only; omega
theorem LnOwn.push {w8 w9 : World} {b0 lo mid : Nat} {v vm vd : Value} {ls : List Lx.Ln} {cs : List Value} {l : Lx.Ln} {o : Obj} (hown : w8.ownsRow b0 64 4 v ls.length cs) (hr : LnOwn w8 lo mid ls cs)
    (hvm : w8.ownsRow mid 136 3 vm l.marks.length (mkC l.marks)) (hvd : w8.ownsRow mid 83 4 vd l.docs.length (dcC l.docs)) (hmid : mid ≤ w8.heap.size) (hg : (w8.alloc o).grownBy w9 v.ownBlock) :
    LnOwn w9 lo w9.heap.size (ls ++ [l]) (cs ++ [.int .i64 l.line, .string (bs l.text), vm, vd]) := by
  have hbl := (Below.refl w8.heap.size w8).alloc (Nat.le_refl _) o
  have hA := own_below hown hbl
  have hF : Fx (fun b => v.ownBlock = some b) (w8.alloc o) w9 := Fx.of_grown hg
  have hvb : ∀ b ys e, v.ownBlock = some b → (w8.alloc o).heap[b]? = some (.cells ys e (0, 0)) → e = 64 := fun b ys e hb hy => by
    rcases hA.2 with ⟨rfl, _⟩ | ⟨g', cap, cur, rfl, _, hg', _⟩
    · cases hb
    · have : g' = b := by simpa [Value.ownBlock] using hb
      subst this
      rw [hg'] at hy
      injection hy with hy
      injection hy with _ hy
      exact hy.symm
  have h1 : LnOwn w9 lo mid ls cs := (hr.new hbl).fx hF fun b ys e hb hy => by
    have := hvb b ys e hb hy
    subst this
    exact ⟨by decide, by decide⟩
  have h2 := (own_below hvm hbl).kept hg (own_own (own_below hvm hbl) hA (by decide))
  have h3 := (own_below hvd hbl).kept hg (own_own (own_below hvd hbl) hA (by decide))
  have hsz := hg.size
  rw [World.size_alloc] at hsz
  exact h1.snoc (by omega) h2 (fun b hb => (h2.lt b hb).2) h3 (fun b hb => (h3.lt b hb).2)
theorem docsW_no18 {L : List (List UInt8)} {ln : Lx.Ln} : ∀ (ws : List Lx.Wd) (j : Nat) (acc : List Lx.Dc) (z : Lx.Err), Lx.docsW L ln ws j acc = .inl z → z.1 = 26
  | [], j, acc, z, h => by rw [Lx.docsW] at h; cases h
  | w :: ws, j, acc, z, h => by
    rw [Lx.docsW] at h
    split at h
    · split at h
      · split at h
        · injection h with h; rw [← h]; rfl
        · exact docsW_no18 ws _ _ z h
      · injection h with h; rw [← h]; rfl
    · exact docsW_no18 ws _ _ z h
theorem docsL_no {e : UInt8} {L : List (List UInt8)} {ln : Lx.Ln} {j : Nat} {z : Lx.Err} (h : Lx.docsL e L ln j = .inl z) : z.1 = 18 ∨ z.1 = 26 := by
  rw [Lx.docsL] at h
  split at h
  · split at h
    · injection h with h; rw [← h]; exact .inl rfl
    · exact .inr (docsW_no18 _ _ _ z h)
  · cases h
theorem dirsL_no {L : List (List UInt8)} {z : Lx.Err} (h : Lx.dirsL L = .inl z) : z.1 = 4 ∨ z.1 = 11 := by
  cases L with
  | nil => rw [Lx.dirsL] at h; cases h
  | cons x r =>
    rw [Lx.dirsL] at h
    split at h
    · cases h
    · split at h
      · split at h
        · split at h
          · cases h
          · split at h
            · injection h with h; rw [← h]; exact .inr rfl
            · cases h
        · injection h with h; rw [← h]; exact .inl rfl
      · injection h with h; rw [← h]; exact .inl rfl
theorem dirsL_le {L : List (List UInt8)} {n : Nat} {e : UInt8} (h : Lx.dirsL L = .inr (n, e)) : n ≤ L.length := by
  cases L with
  | nil => rw [Lx.dirsL] at h; injection h with h; injection h with h _; omega
  | cons x r =>
    rw [Lx.dirsL] at h
    split at h
    · injection h with h; injection h with h _; omega
    · split at h
      · split at h
        · split at h
          · injection h with h; injection h with h _; simp; omega
          · split at h
            · cases h
            · injection h with h; injection h with h _; simp; omega
        · cases h
      · cases h
theorem head_empty (t : List UInt8) : decide (Lx.headI t < 0) = Lx.empty t := by
  unfold Lx.empty Lx.headI Lx.hdI
  cases h : Gl.lft t with
  | nil => rfl
  | cons c r =>
    rw [if_neg (by simp), decide_eq_false_iff_not.2 (by omega)]
    rfl
/-- what the reference's Lines answers. -/
def LnsAns14 (w' : World) (RES : Lx.Err ⊕ (UInt8 × List Lx.Ln)) (r : Ending) : Prop := match RES with
  | .inl z => r = .returned (.tuple #[.int .u8 0, .slice none 0 0, .int .i64 (z.1 : Int), .int .i64 z.2.1, .int .i64 z.2.2])
  | .inr (e, ls) => ∃ A c, r = .returned (.tuple #[.int .u8 (e.toNat : Int), .slice A ls.length c, .int .i64 0, .int .i64 0, .int .i64 0]) ∧ LsRd w' (.slice A ls.length c) ls
theorem LnOwn.rd {w : World} {base lo hi n c : Nat} {A : Option Addr} {ls : List Lx.Ln} {cs : List Value} (ho : w.ownsRow base 64 4 (.slice A n c) n cs) (hl : LnOwn w lo hi ls cs) (hn : n = ls.length) : LsRd w (.slice A ls.length c) ls := by
  subst hn
  obtain ⟨A', c', e, hc⟩ := RdRow.own ho
  injection e with e1 _ e3
  subst e1 e3
  refine ⟨A, c, rfl, fun i hi => ?_⟩
  obtain ⟨vm, vd, q0, q1, q2, q3, q4, q5⟩ := hl.get i hi
  obtain ⟨b, o, rfl, d0⟩ := hc _ _ q0
  obtain ⟨b1, o1, e1, d1⟩ := hc _ _ q1
  injection e1 with e1; injection e1 with x1 y1; subst x1 y1
  obtain ⟨b1, o1, e1, d2⟩ := hc _ _ q2
  injection e1 with e1; injection e1 with x1 y1; subst x1 y1
  obtain ⟨b1, o1, e1, d3⟩ := hc _ _ q3
  injection e1 with e1; injection e1 with x1 y1; subst x1 y1
  exact ⟨b, o, vm, vd, rfl, d0, by rw [Nat.add_assoc]; exact d1, by rw [Nat.add_assoc]; exact d2, by rw [Nat.add_assoc]; exact d3, q4, q5⟩
set_option maxRecDepth 100000 in
set_option maxHeartbeats 8000000 in
theorem lines14_any (s : List UInt8) (hs : s.length ≤ 2000000) (w : World) {RES : Lx.Err ⊕ (UInt8 × List Lx.Ln)} (H : Hid (Lx.linesL s = RES)) :
    Calls Tryz.prog 8 #[.string (bs s)] w fun r w' => LnsAns14 w' RES r ∧ Below w.heap.size w w' := by
  have HZ := Lib.hid (bs_size s)
  have hzs : (bs s).size ≤ 2000000 := by rw [HZ.out]; exact hs
  rcases Nat.lt_or_ge 65536 (bs s).size with hbig | hsm
  · have t1 : decide ((65536 : Int) < ((bs s).size : Int)) = true := by rw [decide_eq_true_eq]; omega
    have HR : Hid (RES = .inl (5, 0, 0)) := by show _ = _; rw [← H.out, Lx.lines_many (by rw [← HZ.out]; exact hbig)]
    go_enter Tryz.func8, Tryz.ntmps8
    go_wp2_with fail
    go_returns
    exact ⟨by rw [HR.out]; rfl, Below.refl _ _⟩
  · have t1 : decide ((65536 : Int) < ((bs s).size : Int)) = false := by rw [decide_eq_false_iff_not]; omega
    have hs6 : ¬ 65536 < s.length := by rw [← HZ.out]; omega
    cases hw : Lx.wrongL s 0 0 1 0 with
    | some p =>
      obtain ⟨a, b⟩ := p
      have HW : Hid (Lx.wrP (Lx.wrongL s 0 0 1 0) = (a, b)) := Lib.hid (by rw [hw]; rfl)
      have ha : 1 ≤ a := wrongL_pos s 0 0 1 0 a b (by omega) hw
      have HR : Hid (RES = .inl (6, (a : Int), (b : Int))) := by show _ = _; rw [← H.out, Lx.lines_text hs6 hw]
      have t2 : decide ((0 : Int) < (a : Int)) = true := by rw [decide_eq_true_eq]; omega
      clear hw hsm
      go_enter Tryz.func8, Tryz.ntmps8
      go_wp2_with fail
      refine (wrong14_any s hs _ HW).mono ?_
      rintro r w1 ⟨rfl, rfl⟩
      go_wp2_with fail
      go_returns
      exact ⟨by rw [HR.out]; rfl, Below.refl _ _⟩
    | none =>
      have HW : Hid (Lx.wrP (Lx.wrongL s 0 0 1 0) = (0, 0)) := Lib.hid (by rw [hw]; rfl)
      obtain ⟨L, hL⟩ : ∃ L, Hid (Lx.fileL s = L) := ⟨_, Lib.hid rfl⟩
      obtain ⟨N, hN⟩ : ∃ N, L.length = N := ⟨_, rfl⟩
      have HN := Lib.hid hN
      have HWN := Lib.hid hw
      have hNle : N ≤ 2000001 := by have := Lx.fileL_count s; rw [hL.out, hN] at this; omega
      have HTOT : Hid (Lx.tot L ≤ 65536) := Lib.hid (by have := Lx.tot_file s; rw [hL.out] at this; omega)
      clear hw hN hsm
      rcases Nat.lt_or_ge 4096 N with hN4 | hN4
      · have HR : Hid (RES = .inl (5, 4097, 1)) := by show _ = _; rw [← H.out, Lx.lines_count hs6 HWN.out (by rw [hL.out, HN.out]; exact hN4)]
        have t3 : decide ((4096 : Int) < (N : Int)) = true := by rw [decide_eq_true_eq]; omega
        go_enter Tryz.func8, Tryz.ntmps8
        go_wp2_with fail
        refine (wrong14_any s hs _ HW).mono ?_
        rintro r w1 ⟨rfl, rfl⟩
        go_wp2_with fail
        refine (cut14_any s hs _ hL).mono ?_
        rintro r w2 ⟨⟨A, c, rfl, hown⟩, p2⟩
        rw [HN.out]
        clear hown
        go_wp2_with fail
        go_returns
        exact ⟨by rw [HR.out]; rfl, p2⟩
      · have t3 : decide ((4096 : Int) < (N : Int)) = false := by rw [decide_eq_false_iff_not]; omega
        have t4 : N ≤ 4096 := hN4
        have hc4 : ¬ 4096 < (Lx.fileL s).length := by rw [hL.out, HN.out]; omega
        have hxl : Hid (∀ x ∈ L, x.length ≤ 70000) := Lib.hid fun x hx => by rw [← hL.out] at hx; have := Lx.fileL_len hx; omega
        obtain ⟨DR, hDR⟩ : ∃ r, Hid (Lx.dirsL L = r) := ⟨_, Lib.hid rfl⟩
        cases DR with
        | inl z =>
          obtain ⟨z1, z2, z3⟩ := z
          have HR : Hid (RES = .inl (z1, z2, z3)) := by show _ = _; rw [← H.out, Lx.lines_dirs hs6 HWN.out hc4 (by rw [hL.out]; exact hDR.out)]
          have hz1 : z1 = 4 ∨ z1 = 11 := dirsL_no hDR.out
          have t5 : ((z1 : Int) != 0) = true := by rcases hz1 with rfl | rfl <;> rfl
          have t6 : (z1 != 0) = true := by rcases hz1 with rfl | rfl <;> rfl
          have t7 : z1 ≠ 0 := by omega
          clear hc4 hs6 hz1
          go_enter Tryz.func8, Tryz.ntmps8
          go_wp2_with fail
          refine (wrong14_any s hs _ HW).mono ?_
          rintro r w1 ⟨rfl, rfl⟩
          go_wp2_with fail
          refine (cut14_any s hs _ hL).mono ?_
          rintro r w2 ⟨⟨A, c, rfl, hown⟩, p2⟩
          have HLS := Lib.hid (Ls.own2 hown)
          rw [HN.out]
          have HP2 := Lib.hid p2
          clear hown p2
          go_wp2_with fail
          have hcall := directives14_any w2 (c := c) HLS.out (by rw [HN.out]; omega) hxl hDR
          rw [HN.out] at hcall
          refine hcall.mono ?_
          rintro r w3 ⟨rfl, p3⟩
          have HP3 := Lib.hid (below_of_below HP2.out p3 HP2.out.size)
          clear hcall p3
          unfold dirsTup
          go_wp2_with fail
          go_returns
          exact ⟨by rw [HR.out]; rfl, HP3.out⟩
        | inr ne =>
          obtain ⟨n, e⟩ := ne
          obtain ⟨RM, hRM⟩ : ∃ RM, Hid (Lx.mainL e L (L.drop n) 0 n [] = RM) := ⟨_, Lib.hid rfl⟩
          have HR : Hid (RES = withE e RM) := by
            show _ = _
            have h1 := Lx.lines_main hs6 HWN.out hc4 (n := n) (e := e) (by rw [hL.out]; exact hDR.out)
            rw [hL.out, hRM.out] at h1
            rw [← H.out]
            exact h1
          have hnN : n ≤ N := by have := dirsL_le hDR.out; rw [HN.out] at this; exact this
          have hbe : e.toNat < 256 := UInt8.toNat_lt _
          clear hc4 hs6 H
          go_enter Tryz.func8, Tryz.ntmps8
          go_wp2_with fail
          refine (wrong14_any s hs _ HW).mono ?_
          rintro r w1 ⟨rfl, rfl⟩
          go_wp2_with fail
          refine (cut14_any s hs _ hL).mono ?_
          rintro r w2 ⟨⟨A, c, rfl, hown⟩, p2⟩
          have HLS := Lib.hid (Ls.own2 hown)
          rw [HN.out]
          have HP2 := Lib.hid p2
          clear hown p2
          go_wp2_with fail
          have hcall := directives14_any w2 (c := c) HLS.out (by rw [HN.out]; omega) hxl hDR
          rw [HN.out] at hcall
          refine hcall.mono ?_
          rintro r w3 ⟨rfl, p3⟩
          have HP3 := Lib.hid (below_of_below HP2.out p3 HP2.out.size)
          have HLS3 := Lib.hid (HLS.out.below p3 (Nat.le_refl _))
          clear hcall p3 HLS
          unfold dirsTup
          go_wp2_with fail
          go_loopw [10, 13, 14, 15, 16, 17, 18, 19] (fun t10 t13 _ _ _ _ _ _ wr => ∃ (i : Nat) (ls : List Lx.Ln) (cs : List Value), i ≤ N ∧ t10 = .int .i64 (i : Int) ∧ ls.length ≤ i ∧ Hid (Lx.mainL e L (L.drop i) 0 i ls = RM) ∧ wr.ownsRow w3.heap.size 64 4 t13 ls.length cs ∧ Hid (LnOwn wr w3.heap.size wr.heap.size ls cs) ∧ Hid (Below w3.heap.size w3 wr)) (fun t10 _ _ _ _ _ _ _ _ => N - (intOf t10).toNat)
          case atStart => exact ⟨n, [], [], hnN, by first | rfl | trivial, by simp, hRM, World.ownsRow_nil _ _ _ _, Lib.hid ⟨rfl, Nat.le_refl _⟩, Lib.hid (Below.refl _ _)⟩
          case round =>
            clear hRM
            rename World => wr
            obtain ⟨i, ls, cs, hi, rfl, hli, HM, hown, HLN, HB⟩ := hrel
            obtain ⟨VA, vc, rfl⟩ := ownk_form hown
            have j0 : (0 : Int) ≤ (i : Int) := by omega
            rcases Nat.lt_or_ge i N with hin | hin
            · have i0 : decide ((i : Int) < (N : Int)) = true := by rw [decide_eq_true_eq]; omega
              have i1 : (i : Int) < (N : Int) := by omega
              have hiL : i < L.length := by rw [HN.out]; exact hin
              have hlsr := HLS3.out.below HB.out (Nat.le_refl _)
              obtain ⟨x, hxe⟩ : ∃ x, L[i] = x := ⟨_, rfl⟩
              have hxi : L[i]? = some x := by rw [List.getElem?_eq_getElem hiL, hxe]
              obtain ⟨g, hAg, hgw, hcell⟩ := hlsr (by omega)
              have hci := hcell i x hxi
              have hxx : x.length ≤ 2000000 := by have := hxl.out x (List.mem_of_getElem? hxi); omega
              obtain ⟨nb, hnb⟩ : ∃ b, Hid (Lx.nothingL x = b) := ⟨_, Lib.hid rfl⟩
              have HLSR := Lib.hid hlsr
              have HXI := Lib.hid hxi
              have HXE := Lib.hid hxe
              have HOWN := Lib.hid hown
              subst hAg
              clear hcell hlsr hxi hxe hown
              go_wp2_with fail
              refine (nothing14_any x hxx _ hnb).mono ?_
              rintro r w4 ⟨rfl, rfl⟩
              clear hci
              cases nb with
              | true =>
                have HM2 : Hid (Lx.mainL e L (L.drop (i + 1)) 0 (i + 1) ls = RM) := by show _ = _; rw [← HM.out, Lx.main_nothing hiL (by rw [HXE.out]; exact hnb.out)]
                clear HM
                go_wp2_with fail
                go_roundw
                case rel => exact ⟨i + 1, ls, cs, by omega, by go_num, by omega, HM2, HOWN.out, HLN, HB⟩
                case measure => simp [intOf]; omega
              | false =>
                obtain ⟨JR, hJR⟩ : ∃ r, Hid (Lx.joinL e x (L.drop (i + 1)) i = r) := ⟨_, Lib.hid rfl⟩
                obtain ⟨a, m⟩ := JR
                have hjle := Lx.joinL_le (e := e) x (L.drop (i + 1)) i
                have hjlen := Lx.joinL_len (e := e) x (L.drop (i + 1)) i
                have hjmk : a.2.length ≤ 1 + N := by
                  have h := joinL_marks2 (e := e) x (L.drop (i + 1)) i
                  rw [hJR.out, List.length_drop, HN.out] at h
                  simp only at h
                  omega
                rw [hJR.out] at hjle hjlen
                rw [List.length_drop, HN.out] at hjle
                simp only at hjle hjlen
                have htd := Lx.tot_drop L i
                have hxe' := HXE.out
                rw [List.drop_eq_getElem_cons hiL, Lx.tot_cons, hxe'] at htd
                have hal : a.1.length ≤ 65536 := by have := HTOT.out; omega
                have hmN : m ≤ N := by omega
                have him : i + 1 ≤ m := hjle.1
                have hnf : Lx.nothingL x = false := hnb.out
                have HNF := Lib.hid hnf
                clear hjlen htd hjle hxe' hnf
                go_wp2_with fail
                have hcall := join14_any wr (c := c) HLSR.out i (by rw [HN.out]; omega) hxl (by have := HTOT.out; omega) e HXI.out HNF.out hJR
                rw [HN.out] at hcall
                refine hcall.mono ?_
                rintro r w4 ⟨⟨vm, rfl, hvm⟩, p4⟩
                obtain ⟨mA, mc, rfl⟩ := ownk_form hvm
                have hB4 := below_of_below HB.out p4 HB.out.size
                have hsz4 := p4.size
                have hbb := (Below.refl w4.heap.size w4).alloc (Nat.le_refl _) (.cells #[.int .i64 ((i : Int) + 1), .string (bs a.1), .slice mA a.2.length mc, .slice none 0 0] 64)
                have hbx := Blk.new w4 64 #[.int .i64 ((i : Int) + 1), .string (bs a.1), .slice mA a.2.length mc, .slice none 0 0]
                have hbl := p4.trans (hbb.mono hsz4)
                have hLN5 := (HLN.out.new p4).more (hi' := wr.heap.size) (Nat.le_refl _)
                have hO5 := own_below (own_below HOWN.out p4) hbb
                have hvm5 := own_below hvm hbb
                have hLNa := (HLN.out.new p4).new hbb
                have hls5 := HLSR.out.below hbl (Nat.le_refl _)
                obtain ⟨w5, hw5⟩ : ∃ w5, w4.alloc (.cells #[.int .i64 ((i : Int) + 1), .string (bs a.1), .slice mA a.2.length mc, .slice none 0 0] 64) = w5 := ⟨_, rfl⟩
                have hz5 : w5.heap.size = w4.heap.size + 1 := by rw [← hw5]; simp
                rw [hw5] at hbx hbl hO5 hvm5 hLNa hls5
                have hB5 := HB.out.trans (hbl.mono HB.out.size)
                obtain ⟨B, hBq⟩ : ∃ B, w4.heap.size = B := ⟨_, rfl⟩
                rw [hBq] at hbx hz5 hsz4
                have HW5 := Lib.hid hw5
                have HBQ := Lib.hid hBq
                have HBX := Lib.hid hbx
                have HO5 := Lib.hid hO5
                have HVM5 := Lib.hid hvm5
                have HLN5 := Lib.hid hLNa
                have HLS5 := Lib.hid hls5
                have HB5 := Lib.hid hB5
                have HPB := Lib.hid hbl
                clear hcall hvm p4 hB4 hbb hbx hLN5 hO5 hvm5 hLNa hls5 hw5 hBq hB5 hbl
                go_upto_region 18 with fail
                rw [HW5.out, HBQ.out]
                clear HW5 HBQ
                have d1 : w5.cell? ⟨B, 1, none⟩ = some (.string (bs a.1)) := HBX.out.cell 1
                obtain ⟨hv, hhv⟩ : ∃ v, Hid (Lx.headI a.1 = v) := ⟨_, Lib.hid rfl⟩
                obtain ⟨eb, heb⟩ : ∃ b, Lx.empty a.1 = b := ⟨_, rfl⟩
                have t8 : decide (hv < 0) = eb := by rw [← hhv.out, head_empty, heb]
                have HEB := Lib.hid heb
                clear heb
                go_wp2_with fail
                refine (head_any a.1 (by omega) _ hhv).mono ?_
                rintro r w9 ⟨rfl, rfl⟩
                clear d1
                cases eb with
                | true =>
                  have HM2 : Hid (Lx.mainL e L (L.drop m) 0 m ls = RM) := by show _ = _; rw [← HM.out, Lx.main_empty hiL (by rw [HXE.out]; exact HNF.out) (by rw [HXE.out]; exact hJR.out) HEB.out]
                  have HLN6 : Hid (LnOwn w5 w3.heap.size w5.heap.size ls cs) := Lib.hid (HLN5.out.more (by omega))
                  clear HM
                  go_wp2_with fail
                  go_roundw
                  case rel => exact ⟨m, ls, cs, hmN, by first | rfl | trivial, by omega, HM2, HO5.out, HLN6, HB5⟩
                  case measure => simp [intOf]; omega
                | false =>
                  obtain ⟨DQ, hDQ⟩ : ∃ r, Hid (Lx.docsL e L ⟨(i : Int) + 1, a.1, a.2, []⟩ m = r) := ⟨_, Lib.hid rfl⟩
                  have c0 : w5.cell? ⟨B, 0, none⟩ = some (.int .i64 ((i : Int) + 1)) := HBX.out.cell 0
                  have c1 : w5.cell? ⟨B, 1, none⟩ = some (.string (bs a.1)) := HBX.out.cell 1
                  have c2 : w5.cell? ⟨B, 2, none⟩ = some (.slice mA a.2.length mc) := HBX.out.cell 2
                  have c3 : w5.cell? ⟨B, 3, none⟩ = some (.slice none 0 0) := HBX.out.cell 3
                  go_wp2_with fail
                  have hcall := docs14_any w5 (c := c) HLS5.out m (by rw [HN.out]; exact hmN) (by rw [HN.out]; omega) hxl e ⟨(i : Int) + 1, a.1, a.2, []⟩ mA none mc 0 0 (RdRow.own HVM5.out) (by show a.1.length ≤ _; omega) (by show a.2.length ≤ _; omega) hDQ
                  rw [HN.out] at hcall
                  refine hcall.mono ?_
                  rintro r w6 ⟨hDA, p6⟩
                  have HB6 := Lib.hid (below_of_below HB5.out p6 HB5.out.size)
                  have HBX6 := Lib.hid (HBX.out.below p6 HBX.out.lt)
                  have HO6 := Lib.hid (own_below HO5.out p6)
                  have HVM6 := Lib.hid (own_below HVM5.out p6)
                  have HLN6 := Lib.hid (HLN5.out.new p6)
                  have hsz6 := p6.size
                  clear hcall p6 c0 c1 c2 c3
                  cases DQ with
                  | inl z =>
                    obtain ⟨z1, z2, z3⟩ := z
                    obtain ⟨zi, hr⟩ := hDA
                    subst hr
                    have hz1 : z1 = 18 ∨ z1 = 26 := docsL_no hDQ.out
                    have HRM : Hid (RM = .inl (z1, z2, z3)) := by show _ = _; rw [← HM.out, Lx.main_err hiL (by rw [HXE.out]; exact HNF.out) (by rw [HXE.out]; exact hJR.out) HEB.out hDQ.out]
                    have t5 : ((z1 : Int) != 0) = true := by rcases hz1 with rfl | rfl <;> rfl
                    have t6 : (z1 != 0) = true := by rcases hz1 with rfl | rfl <;> rfl
                    have t7 : z1 ≠ 0 := by omega
                    clear hz1 HM
                    go_wp2_with fail
                    go_returns
                    refine ⟨?_, below_of_below HP3.out HB6.out HP3.out.size⟩
                    rw [HR.out, HRM.out]
                    rfl
                  | inr dm =>
                    obtain ⟨ds, m2⟩ := dm
                    obtain ⟨vd, hr, hvd⟩ := hDA
                    subst hr
                    obtain ⟨dA, dc, rfl⟩ := ownk_form hvd
                    have hm2 := Lx.docsL_le hDQ.out
                    have hm2N : m2 ≤ N := by have := hm2.2 (by rw [HN.out]; exact hmN); rw [HN.out] at this; exact this
                    have hmm2 : m ≤ m2 := hm2.1
                    have HM2 : Hid (Lx.mainL e L (L.drop m2) 0 m2 (ls ++ [⟨(i : Int) + 1, a.1, a.2, ds⟩]) = RM) := by show _ = _; rw [← HM.out, Lx.main_line hiL (by rw [HXE.out]; exact HNF.out) (by rw [HXE.out]; exact hJR.out) HEB.out hDQ.out]
                    have m3 := HBX6.out.frozen 3
                    have c33 : w6.cell? ⟨B, 3, none⟩ = some (.slice none 0 0) := HBX6.out.cell 3
                    have hBlt := HBX6.out.lt
                    have hBX7 : Blk (w6.setCell ⟨B, 3, none⟩ (.slice dA ds.length dc)) B 64 #[.int .i64 ((i : Int) + 1), .string (bs a.1), .slice mA a.2.length mc, .slice dA ds.length dc] := by
                      have := HBX6.out.set_ 3 (.slice dA ds.length dc)
                      simpa using this
                    have hF7 := Fx.set w6 B 3 (.slice dA ds.length dc)
                    have hty : ∀ (b : Nat) (ys : Array Value) (e : TypeId), b = B → w6.heap[b]? = some (.cells ys e (0, 0)) → e ≠ 136 ∧ e ≠ 83 := fun b ys e hb hy => by
                      subst hb
                      have := blk_is HBX6.out hy
                      subst this
                      exact ⟨by decide, by decide⟩
                    have hO7 := hF7.own HO6.out (fun gg hgg e => by have := (HOWN.out.lt gg hgg).2; omega)
                    have hLN7 := HLN6.out.fx hF7 hty
                    have hVM7 := hF7.own HVM6.out (fun gg hgg e => own_blk HVM6.out HBX6.out (by decide) (by rw [← e]; exact hgg))
                    have hVD7 := hF7.own hvd (fun gg hgg e => own_blk hvd HBX6.out (by decide) (by rw [← e]; exact hgg))
                    have hB7 := HB6.out.setCell (p := ⟨B, 3, none⟩) (by show w3.heap.size ≤ B; have := HB.out.size; omega) (.slice dA ds.length dc)
                    obtain ⟨w7, hw7⟩ : ∃ w7, w6.setCell ⟨B, 3, none⟩ (.slice dA ds.length dc) = w7 := ⟨_, rfl⟩
                    rw [hw7] at hBX7 hO7 hLN7 hVM7 hVD7 hB7
                    have HW7 := Lib.hid hw7
                    have c0 : w7.cell? ⟨B, 0, none⟩ = some (.int .i64 ((i : Int) + 1)) := hBX7.cell 0
                    have c1 : w7.cell? ⟨B, 1, none⟩ = some (.string (bs a.1)) := hBX7.cell 1
                    have c2 : w7.cell? ⟨B, 2, none⟩ = some (.slice mA a.2.length mc) := hBX7.cell 2
                    have c3 : w7.cell? ⟨B, 3, none⟩ = some (.slice dA ds.length dc) := hBX7.cell 3
                    have HO7 := Lib.hid hO7
                    have HLN7 := Lib.hid hLN7
                    have HVM7 := Lib.hid (own_base hVM7 (Nat.le_refl wr.heap.size))
                    have HVD7 := Lib.hid (own_base hVD7 (show wr.heap.size ≤ w5.heap.size by omega))
                    have HB7 := Lib.hid hB7
                    have hmid7 : wr.heap.size ≤ w7.heap.size := by rw [← HW7.out, setCell_size]; omega
                    clear hvd hm2 HM hF7 hty hLN7 hVM7 hVD7 hw7 hBX7 hDQ HB6 HLN6 HVM6 HO6 HB5 HLN5 HVM5 HO5
                    go_upto_region 23 with fail
                    rw [HW7.out]
                    have hown := HO7.out
                    have hbel := HB7.out
                    have hszw := HB7.out.size
                    clear hO7 hB7 HW7 m3 c33
                    go_wp2_with (at_builtin; refine wpList_appk rfl _ _ _ rfl lineK _ _ _ _ rfl (by exact hown.alloc _) _ _ _ _ rfl rfl (by exact news_at _ _ (by simp) _ _) (by simp [Value.oneCell']) (by omega) (by omega) (by exact hbel.alloc hszw _) (by simp; omega) ?_; intro v1 w9 ho1 hb1 hg1 hat1)
                    have hP := LnOwn.push (l := ⟨(i : Int) + 1, a.1, a.2, ds⟩) HO7.out HLN7.out HVM7.out HVD7.out hmid7 hg1
                    go_roundw
                    case rel => exact ⟨m2, ls ++ [⟨(i : Int) + 1, a.1, a.2, ds⟩], _, hm2N, by first | rfl | trivial, by rw [List.length_append, List.length_singleton]; omega, HM2, by rw [List.length_append]; exact ho1, Lib.hid hP, Lib.hid hb1⟩
                    case measure => simp [intOf]; omega
            · have i0 : decide ((i : Int) < (N : Int)) = false := by rw [decide_eq_false_iff_not]; omega
              have HRM : Hid (RM = .inr ls) := by show _ = _; rw [← HM.out, Lx.main_end (by rw [HN.out]; exact hin)]
              go_wp2_with fail
              go_returns
              refine ⟨?_, below_of_below HP3.out HB.out HP3.out.size⟩
              rw [HR.out, HRM.out]
              exact ⟨VA, vc, rfl, LnOwn.rd hown HLN.out rfl⟩
end Go.Proofs.YtpgnfianffjpnaaGreatDoor
namespace Go.Proofs.YtpgnfianffjpnaaGreatDoor
open Go Go.RowKit
namespace Lx
theorem docsW_c {L : List Bs} {ln : Ln} : ∀ (ws : List Wd) (j : Nat) (acc ds : List Dc) (m : Nat), docsW L ln ws j acc = .inr (ds, m) → j ≤ L.length → acc.length ≤ j → ds.length ≤ m
  | [], j, acc, ds, m, h, _, hl => by
    rw [docsW] at h
    injection h with h
    injection h with h1 h2
    subst h1 h2
    exact hl
  | w :: ws, j, acc, ds, m, h, hj, hl => by
    rw [docsW] at h
    split at h
    · split at h
      · cases hb : bodyL (openName w.raw) (openTabs w.raw) (L.drop j) [] j with
        | none => rw [hb] at h; cases h
        | some tk =>
          obtain ⟨t, k⟩ := tk
          rw [hb] at h
          have h1 := bodyL_le _ _ _ _ _ hb
          rw [List.length_drop] at h1
          exact docsW_c ws k _ ds m h (by omega) (by rw [List.length_append, List.length_singleton]; omega)
      · cases h
    · exact docsW_c ws j acc ds m h hj hl
theorem docsL_c {e : UInt8} {L : List Bs} {ln : Ln} {j m : Nat} {ds : List Dc} (h : docsL e L ln j = .inr (ds, m)) (hj : j ≤ L.length) : ds.length ≤ m := by
  rw [docsL] at h
  split at h
  · split at h
    · cases h
    · exact docsW_c _ _ _ _ _ h hj (by simp)
  · injection h with h
    injection h with h1 h2
    subst h1 h2
    simp
theorem main_c {e : UInt8} {L : List Bs} : ∀ (m i : Nat) (acc ls : List Ln), L.length - i ≤ m → i ≤ L.length → mainL e L (L.drop i) 0 i acc = .inr ls → acc.length ≤ i → (∀ l ∈ acc, l.docs.length ≤ L.length) → ls.length ≤ L.length ∧ ∀ l ∈ ls, l.docs.length ≤ L.length := by
  intro m
  induction m with
  | zero =>
    intro i acc ls hm hi h hl ha
    rw [main_end (by omega)] at h
    injection h with h
    subst h
    exact ⟨by omega, ha⟩
  | succ m ih =>
    intro i acc ls hm hiL h hl ha
    rcases Nat.lt_or_ge i L.length with hi | hi
    · cases hn : nothingL L[i] with
      | true =>
        rw [main_nothing hi hn] at h
        exact ih (i + 1) acc ls (by omega) hi h (by omega) ha
      | false =>
        obtain ⟨t, ht⟩ : ∃ t, joinL e L[i] (L.drop (i + 1)) i = t := ⟨_, rfl⟩
        obtain ⟨a, j⟩ := t
        have hle := joinL_le (e := e) L[i] (L.drop (i + 1)) i
        rw [ht, List.length_drop] at hle
        simp only at hle
        cases he : empty a.1 with
        | true =>
          rw [main_empty hi hn ht he] at h
          exact ih j acc ls (by omega) (by omega) h (by omega) ha
        | false =>
          cases hdd : docsL e L ⟨(i : Int) + 1, a.1, a.2, []⟩ j with
          | inl z => rw [main_err hi hn ht he hdd] at h; cases h
          | inr dm =>
            obtain ⟨ds, m2⟩ := dm
            have hm2 := docsL_le hdd
            have hm3 := hm2.2 (by omega)
            have hb := docsL_c hdd (by omega)
            rw [main_line hi hn ht he hdd] at h
            refine ih m2 _ ls (by omega) hm3 h (by rw [List.length_append, List.length_singleton]; omega) fun l hl => ?_
            rcases List.mem_append.1 hl with hl | hl
            · exact ha l hl
            · rw [List.mem_singleton] at hl
              subst hl
              show ds.length ≤ _
              omega
    · rw [main_end hi] at h
      injection h with h
      subst h
      exact ⟨by omega, ha⟩
theorem main_no {e : UInt8} {L : List Bs} {z : Err} : ∀ (m i : Nat) (acc : List Ln), L.length - i ≤ m → mainL e L (L.drop i) 0 i acc = .inl z → z.1 = 18 ∨ z.1 = 26 := by
  intro m
  induction m with
  | zero =>
    intro i acc hm h
    rw [main_end (by omega)] at h
    cases h
  | succ m ih =>
    intro i acc hm h
    rcases Nat.lt_or_ge i L.length with hi | hi
    · cases hn : nothingL L[i] with
      | true =>
        rw [main_nothing hi hn] at h
        exact ih (i + 1) acc (by omega) h
      | false =>
        obtain ⟨t, ht⟩ : ∃ t, joinL e L[i] (L.drop (i + 1)) i = t := ⟨_, rfl⟩
        obtain ⟨a, j⟩ := t
        have hle := joinL_le (e := e) L[i] (L.drop (i + 1)) i
        rw [ht, List.length_drop] at hle
        simp only at hle
        cases he : empty a.1 with
        | true =>
          rw [main_empty hi hn ht he] at h
          exact ih j acc (by omega) h
        | false =>
          cases hdd : docsL e L ⟨(i : Int) + 1, a.1, a.2, []⟩ j with
          | inl z2 =>
            rw [main_err hi hn ht he hdd] at h
            injection h with h
            subst h
            exact docsL_no hdd
          | inr dm =>
            obtain ⟨ds, m2⟩ := dm
            have hm2 := docsL_le hdd
            rw [main_line hi hn ht he hdd] at h
            exact ih m2 _ (by omega) h
    · rw [main_end hi] at h
      cases h
end Lx
theorem lines_no {s : List UInt8} {z : Lx.Err} (h : Lx.linesL s = .inl z) : 1 ≤ z.1 ∧ z.1 ≤ 32 := by
  rcases Nat.lt_or_ge 65536 s.length with h1 | h1
  · rw [Lx.lines_many h1] at h; injection h with h; subst h; exact ⟨by decide, by decide⟩
  · cases hw : Lx.wrongL s 0 0 1 0 with
    | some p => rw [Lx.lines_text (by omega) hw] at h; injection h with h; subst h; exact ⟨by show 1 ≤ 6; decide, by show 6 ≤ 32; decide⟩
    | none =>
      rcases Nat.lt_or_ge 4096 (Lx.fileL s).length with hc | hc
      · rw [Lx.lines_count (by omega) hw hc] at h; injection h with h; subst h; exact ⟨by decide, by decide⟩
      · cases hd : Lx.dirsL (Lx.fileL s) with
        | inl z2 =>
          rw [Lx.lines_dirs (by omega) hw (by omega) hd] at h
          injection h with h
          subst h
          rcases dirsL_no hd with q | q <;> rw [q] <;> exact ⟨by decide, by decide⟩
        | inr ne =>
          obtain ⟨n, e2⟩ := ne
          rw [Lx.lines_main (by omega) hw (by omega) hd] at h
          cases hm : Lx.mainL e2 (Lx.fileL s) ((Lx.fileL s).drop n) 0 n [] with
          | inr ls2 => rw [hm] at h; cases h
          | inl z2 =>
            rw [hm] at h
            injection h with h
            subst h
            rcases Lx.main_no _ n [] (Nat.le_refl _) hm with q | q <;> rw [q] <;> exact ⟨by decide, by decide⟩
theorem lines_small {s : List UInt8} {e : UInt8} {ls : List Lx.Ln} (h : Lx.linesL s = .inr (e, ls)) : ls.length ≤ 5000 ∧ ∀ x ∈ ls, x.marks.length ≤ 1000000 ∧ x.docs.length ≤ 1000000 := by
  have hb := Lx.lines_len h
  rcases Nat.lt_or_ge 65536 s.length with h1 | h1
  · rw [Lx.lines_many h1] at h; cases h
  · cases hw : Lx.wrongL s 0 0 1 0 with
    | some p => rw [Lx.lines_text (by omega) hw] at h; cases h
    | none =>
      rcases Nat.lt_or_ge 4096 (Lx.fileL s).length with hc | hc
      · rw [Lx.lines_count (by omega) hw hc] at h; cases h
      · cases hd : Lx.dirsL (Lx.fileL s) with
        | inl z => rw [Lx.lines_dirs (by omega) hw (by omega) hd] at h; cases h
        | inr ne =>
          obtain ⟨n, e2⟩ := ne
          have hn := dirsL_le hd
          rw [Lx.lines_main (by omega) hw (by omega) hd] at h
          cases hm : Lx.mainL e2 (Lx.fileL s) ((Lx.fileL s).drop n) 0 n [] with
          | inl z => rw [hm] at h; cases h
          | inr ls2 =>
            rw [hm] at h
            injection h with h
            injection h with _ h
            subst h
            have := Lx.main_c _ n [] ls2 (Nat.le_refl _) hn hm (by simp) (fun l hl => by cases hl)
            exact ⟨by omega, fun x hx => ⟨(hb x hx).2.2.2, by have := this.2 x hx; omega⟩⟩
end Go.Proofs.YtpgnfianffjpnaaGreatDoor
