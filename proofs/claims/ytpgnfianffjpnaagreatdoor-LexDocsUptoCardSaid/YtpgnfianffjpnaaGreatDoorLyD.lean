/- What stands in a document is its text, plain. -/
import Derived.Test.YtpgnfianffjpnaaGreatDoorLyJ
namespace Go.Proofs.YtpgnfianffjpnaaGreatDoor
open Go Go.RowKit
namespace Lx
abbrev cmdX : Bs := [67, 77, 68, 32, 120]
def copyLn (name : Bs) : Bs := [67, 79, 80, 89, 32, 60, 60] ++ (name ++ [32, 100])
def docFile (name t : Bs) : Bs := copyLn name ++ 10 :: (t ++ (name ++ 10 :: (cmdX ++ [10])))
theorem letter_ne {c d : UInt8} (h : letter c = true) (hd : letter d = false) : c ≠ d := fun e => by rw [e, hd] at h; cases h
theorem letter_blank {c : UInt8} (h : letter c = true) : blank c = false := by
  have h1 := letter_ne (d := 32) h (by decide)
  have h2 := letter_ne (d := 9) h (by decide)
  have h3 := letter_ne (d := 13) h (by decide)
  unfold blank
  simp [h1, h2, h3]
theorem nameOk_letters {n : Bs} (h : nameOk n = true) : (∀ c ∈ n, letter c = true) ∧ n ≠ [] := by
  unfold nameOk at h
  simp only [Bool.and_eq_true, decide_eq_true_eq, bne_iff_ne] at h
  exact ⟨fun c hc => List.all_eq_true.1 h.1.1 c hc, h.1.2⟩
theorem fileOf_file : ∀ (m : Nat) (t : Bs), t.length ≤ m → (∀ c, t.getLast? = some c → c = 10) → (∀ c ∈ t, c ≠ 13) → fileOf (fileL t) = t := by
  intro m
  induction m with
  | zero =>
    intro t ht _ _
    have : t = [] := List.eq_nil_of_length_eq_zero (by omega)
    subst this
    rfl
  | succ m ih =>
    intro t ht hl hno
    rcases Gl.index_byte 10 t with ⟨_, h2⟩ | ⟨a, r, h1, h2, _⟩
    · rcases List.eq_nil_or_concat t with rfl | ⟨y, c, hy⟩
      · rfl
      · exfalso
        rw [List.concat_eq_append] at hy
        exact h2 c (by rw [hy]; simp) (hl c (by rw [hy]; simp))
    · have hlen := congrArg List.length h1
      rw [List.length_append, List.length_cons] at hlen
      have e := ih r (by omega) (fun c hc => hl c (by
        rw [h1, List.getLast?_append, List.getLast?_cons, hc]
        rfl)) (fun c hc => hno c (by rw [h1]; simp [hc]))
      rw [h1, fileL_cut a r h2, fileOf_cons, e, cr_id fun c hc => hno c (by rw [h1]; simp [List.mem_of_mem_getLast? hc])]
theorem file_pre (r : Bs) : ∀ (l : List Bs), (∀ x ∈ l, (∀ c ∈ x, c ≠ 10) ∧ cr x = x) → fileL (fileOf l ++ r) = l ++ fileL r
  | [], _ => rfl
  | x :: l, h => by
    rw [fileOf_cons, List.append_assoc, List.cons_append, fileL_cut x _ (h x (by simp)).1, (h x (by simp)).2, file_pre r l fun y hy => h y (by simp [hy])]
    rfl
theorem body_at {name : Bs} {r : List Bs} : ∀ (l : List Bs) (acc : Bs) (k : Nat), (∀ x ∈ l, x ≠ name) → bodyL name false (l ++ name :: r) acc k = some (acc ++ fileOf l, k + l.length + 1)
  | [], acc, k, _ => by
    rw [List.nil_append, bodyL, if_pos (by rfl)]
    simp [fileOf]
  | x :: l, acc, k, h => by
    rw [List.cons_append, bodyL, if_neg (show ¬ bare false x = name from h x (by simp)), show bare false x = x from rfl, body_at l _ _ fun y hy => h y (by simp [hy]), fileOf_cons, List.length_cons]
    simp
    omega
theorem runW_plain {s : Bs} {e : UInt8} {f : Nat} {r : Bs} : ∀ (x : Bs) (i : Nat), (∀ c ∈ x, blank c = false ∧ c ≠ 39 ∧ c ≠ 34 ∧ c ≠ e) → runW s e (x ++ r) i (.win f) = runW s e r (i + x.length) (.win f)
  | [], i, _ => rfl
  | c :: x, i, h => by
    obtain ⟨h1, h2, h3, h4⟩ := h c (by simp)
    rw [List.cons_append, runW, if_neg (by rw [h1]; simp), inn, if_neg h2, if_neg h3, if_neg h4, runW_plain x (i + 1) fun y hy => h y (by simp [hy]), List.length_cons, show i + 1 + x.length = i + (x.length + 1) by omega]
theorem words_copy {name : Bs} (hn : ∀ c ∈ name, letter c = true) : wordsL (copyLn name) 92 = .inr [⟨0, [67, 79, 80, 89]⟩, ⟨5, [60, 60] ++ name⟩, ⟨8 + name.length, [100]⟩] := by
  obtain ⟨s, hs⟩ : ∃ s, copyLn name = s := ⟨_, rfl⟩
  have hb : ∀ c ∈ name, blank c = false ∧ c ≠ 39 ∧ c ≠ 34 ∧ c ≠ (92 : UInt8) := fun c hc => by
    have h := hn c hc
    exact ⟨letter_blank h, letter_ne h (by decide), letter_ne h (by decide), letter_ne h (by decide)⟩
  have e0 : sl s 0 4 = [67, 79, 80, 89] := by rw [← hs]; rfl
  have e1 : sl s 5 (7 + name.length) = [60, 60] ++ name := by
    rw [← hs, copyLn, sl, show 7 + name.length - 5 = name.length + 2 by omega]
    show List.take (name.length + 2) (60 :: 60 :: (name ++ [32, 100])) = _
    rw [List.take_succ_cons, List.take_succ_cons, List.take_left]
    rfl
  have e2 : s.drop (8 + name.length) = [100] := by
    have hp : s = ([67, 79, 80, 89, 32, 60, 60] ++ (name ++ [32])) ++ [100] := by rw [← hs]; simp [copyLn]
    have hl : 8 + name.length = ([67, 79, 80, 89, 32, 60, 60] ++ (name ++ [32]) : Bs).length := by simp; omega
    rw [hl, hp, List.drop_left]
  have e3 : wordsL s 92 = pushW ⟨0, sl s 0 4⟩ (runW s 92 (name ++ [32, 100]) 7 (.win 5)) := by
    conv => lhs; rw [wordsL]
    rw [show escOf 92 = 92 from rfl]
    conv => lhs; arg 3; rw [← hs]
    rfl
  rw [hs, e3, runW_plain name 7 hb, e0]
  have e4 : runW s 92 [32, 100] (7 + name.length) (.win 5) = .inr [⟨5, sl s 5 (7 + name.length)⟩, ⟨7 + name.length + 1, s.drop (7 + name.length + 1)⟩] := rfl
  rw [e4, e1, show 7 + name.length + 1 = 8 + name.length by omega, e2]
  rfl
theorem open_plain {name : Bs} (h1 : name.head? ≠ some 45) (h2 : name.head? ≠ some 34) (h3 : name.head? ≠ some 39) : openName ([60, 60] ++ name) = name ∧ openRaw ([60, 60] ++ name) = false ∧ openTabs ([60, 60] ++ name) = false := by
  have e : ([60, 60] ++ name).drop 2 = name := rfl
  have t : Lib.hasPrefix name [45] = false := by
    cases name with
    | nil => rfl
    | cons c r =>
      have : c ≠ 45 := fun e => h1 (by rw [e]; rfl)
      have h5 : ((45 : UInt8) == c) = false := beq_eq_false_iff_ne.2 fun e => this e.symm
      simp [Lib.hasPrefix, List.isPrefixOf, h5]
  have tp : Lib.trimPrefix name [45] = name := by
    unfold Lib.trimPrefix
    rw [t]; simp
  have q : quotedB name = false := by
    unfold quotedB
    have a : (name.head? == some 34) = false := beq_eq_false_iff_ne.2 h2
    have b : (name.head? == some 39) = false := beq_eq_false_iff_ne.2 h3
    rw [a, b]; simp
  refine ⟨?_, ?_, ?_⟩
  · rw [openName, e, tp, q, if_neg (by simp)]
  · rw [openRaw, e, tp, q]
  · rw [openTabs, e, t]
theorem docs_lines {name t : Bs} (hok : nameOk name = true) (hn : name.length ≤ 200) (ht : t.length ≤ 50001) (hl : ∀ c, t.getLast? = some c → c = 10) (h13 : ∀ c ∈ t, c ≠ 13) (hno : ∀ x ∈ fileL t, x ≠ name) :
    (∃ z, linesL (docFile name t) = .inl z) ∨ ∃ ms l2 ms2, linesL (docFile name t) = .inr (92, [⟨1, copyLn name, ms, [⟨name, false, 2, t⟩]⟩, ⟨l2, cmdX, ms2, []⟩]) := by
  obtain ⟨hlet, hne⟩ := nameOk_letters hok
  obtain ⟨T, hT⟩ : ∃ T, docFile name t = T := ⟨_, rfl⟩
  have hlen : T.length ≤ 65536 := by
    rw [← hT]
    simp [docFile, copyLn]
    omega
  have hA10 : ∀ c ∈ copyLn name, c ≠ 10 := fun c hc => by
    rcases List.mem_append.1 hc with hc | hc
    · exact (show ∀ c ∈ ([67, 79, 80, 89, 32, 60, 60] : Bs), c ≠ 10 by decide) c hc
    · rcases List.mem_append.1 hc with hc | hc
      · exact letter_ne (hlet c hc) (by decide)
      · exact (show ∀ c ∈ ([32, 100] : Bs), c ≠ 10 by decide) c hc
  have hAcr : cr (copyLn name) = copyLn name := by
    have : copyLn name = ([67, 79, 80, 89, 32, 60, 60] ++ (name ++ [32])) ++ [100] := by simp [copyLn]
    rw [this, cr_no _ (by decide)]
  have hN10 : ∀ c ∈ name, c ≠ 10 := fun c hc => letter_ne (hlet c hc) (by decide)
  have hNcr : cr name = name := cr_id fun c hc => letter_ne (hlet c (List.mem_of_mem_getLast? hc)) (by decide)
  have hf : fileL T = copyLn name :: (fileL t ++ [name, cmdX]) := by
    rw [← hT, docFile, fileL_cut _ _ hA10, hAcr]
    have e := fileOf_file t.length t (Nat.le_refl _) hl h13
    conv => lhs; rw [← e]
    rw [file_pre _ _ fun x hx => ⟨fileL_no10 hx, fileL_cr hx⟩, fileL_cut _ _ hN10, hNcr]
    rfl
  rw [hT]
  cases hw : wrongL T 0 0 1 0 with
  | some p => exact .inl ⟨_, lines_text (by omega) hw⟩
  | none =>
    rcases Nat.lt_or_ge 4096 (fileL T).length with hc | hc
    · exact .inl ⟨_, lines_count (by omega) hw hc⟩
    · right
      obtain ⟨l, hfl⟩ : ∃ l, fileL t = l := ⟨_, rfl⟩
      rw [hfl] at hf hno
      have htl : fileOf l = t := by rw [← hfl]; exact fileOf_file t.length t (Nat.le_refl _) hl h13
      obtain ⟨A, hA⟩ : ∃ A, copyLn name = A := ⟨_, rfl⟩
      have hAc : A = 67 :: ([79, 80, 89, 32, 60, 60] ++ (name ++ [32, 100])) := by rw [← hA]; rfl
      have hd : dirsL (fileL T) = .inr (0, 92) := by rw [hf, hA, hAc]; exact dirs_in (by decide) (by decide)
      have hm := lines_main (by omega) hw (by omega) hd
      rw [List.drop_zero] at hm
      have hL : fileL T = A :: (l ++ [name, cmdX]) := by rw [hf, hA]
      obtain ⟨L, hLL⟩ : ∃ L, fileL T = L := ⟨_, rfl⟩
      rw [hLL] at hm hL
      have hn0 : nothingL A = false := by rw [hAc]; exact nothing_in (by decide) (by decide)
      have hh : headN A = 0 := by rw [hAc]; exact headN_in (by decide)
      have hAe : A = ([67, 79, 80, 89, 32, 60, 60] ++ (name ++ [32])) ++ [100] := by rw [← hA]; simp [copyLn]
      have hon : onL 92 A = false := onL_of (by rw [hAe, rgt_snoc _ (by decide), List.getLast?_concat]; decide)
      have hAne : A ≠ [] := by rw [hAc]; simp
      have hj : joinL 92 A (L.drop 1) 0 = ((A, [⟨0, 1, 1⟩]), 1) := by
        rw [joinL, hh, List.drop_zero, hon, if_neg (by simp), moreL, List.drop_zero, hon, if_neg (by simp), addL_ne hAne]
        rfl
      have he : empty A = false := by rw [hAc]; exact empty_in (by decide)
      have hcop : copL A = true := by
        have hl4 : Gl.lft A = 67 :: 79 :: 80 :: 89 :: 32 :: (60 :: 60 :: (name ++ [32, 100])) := by rw [hAc]; exact lft_in _ (by decide)
        unfold copL
        rw [hl4, decide_eq_true (by simp only [List.length_cons]; omega)]
        rfl
      obtain ⟨ho1, ho2, ho3⟩ := open_plain (name := name) (fun e => letter_ne (hlet 45 (List.mem_of_mem_head? e)) (d := 45) (by decide) rfl) (fun e => letter_ne (hlet 34 (List.mem_of_mem_head? e)) (d := 34) (by decide) rfl) (fun e => letter_ne (hlet 39 (List.mem_of_mem_head? e)) (d := 39) (by decide) rfl)
      have hdrop : L.drop 1 = l ++ name :: [cmdX] := by rw [hL]; rfl
      have hdoc : docsL 92 L ⟨((0 : Nat) : Int) + 1, A, [⟨0, 1, 1⟩], []⟩ 1 = .inr ([⟨name, false, 2, t⟩], 1 + l.length + 1) := by
        unfold docsL
        rw [hcop, if_pos rfl, ← hA, words_copy hlet]
        show docsW _ _ [⟨5, [60, 60] ++ name⟩, ⟨8 + name.length, [100]⟩] 1 [] = _
        rw [docsW, if_pos (by rfl), ho1, hok, if_pos rfl, ho3, hdrop, body_at l [] 1 hno, ho2]
        simp only
        rw [docsW, if_neg (by show ¬ isDoc [100] = true; decide), docsW, htl]
        rfl
      have hx0 : L[0]'(by rw [hL]; simp) = A := by simp [hL]
      have hj0 : joinL 92 (L[0]'(by rw [hL]; simp)) (L.drop (0 + 1)) 0 = ((A, [⟨0, 1, 1⟩]), 1) := by rw [hx0]; exact hj
      have s1 := main_line (L := L) (i := 0) (acc := []) (by rw [hL]; simp) (by rw [hx0]; exact hn0) hj0 he hdoc
      have hlenL : L.length = 1 + l.length + 2 := by rw [hL]; simp; omega
      have hx1 : L[1 + l.length + 1]'(by omega) = cmdX := by
        have : L[1 + l.length + 1]? = some cmdX := by
          rw [hL, show 1 + l.length + 1 = (l.length + 1) + 1 by omega, List.getElem?_cons_succ, List.getElem?_append_right (by omega)]
          simp
        rw [List.getElem?_eq_getElem (by omega)] at this
        injection this
      have hdrop2 : L.drop (1 + l.length + 1 + 1) = [] := List.drop_eq_nil_of_le (by omega)
      have hj2 : joinL 92 cmdX [] (1 + l.length + 1) = ((cmdX, [⟨0, ((1 + l.length + 1 + 1 : Nat) : Int), 1⟩]), 1 + l.length + 1 + 1) := by rfl
      have hj20 : joinL 92 (L[1 + l.length + 1]'(by omega)) (L.drop (1 + l.length + 1 + 1)) (1 + l.length + 1) = ((cmdX, [⟨0, ((1 + l.length + 1 + 1 : Nat) : Int), 1⟩]), 1 + l.length + 1 + 1) := by rw [hx1, hdrop2]; exact hj2
      have hd20 : docsL 92 L ⟨((1 + l.length + 1 : Nat) : Int) + 1, cmdX, [⟨0, ((1 + l.length + 1 + 1 : Nat) : Int), 1⟩], []⟩ (1 + l.length + 1 + 1) = .inr ([], 1 + l.length + 1 + 1) := by
        unfold docsL
        rw [if_neg (by show ¬ copL cmdX = true; decide)]
      have s2 := main_line (L := L) (i := 1 + l.length + 1) (e := 92) (acc := [] ++ [⟨((0 : Nat) : Int) + 1, A, [⟨0, 1, 1⟩], [⟨name, false, 2, t⟩]⟩]) (by omega) (by rw [hx1]; rfl) hj20 (by rfl) hd20
      rw [main_end (i := 1 + l.length + 1 + 1) (by omega)] at s2
      have s3 := s1.trans s2
      rw [List.drop_zero] at s3
      rw [hm, s3]
      refine ⟨[⟨0, 1, 1⟩], ((1 + l.length + 1 : Nat) : Int) + 1, [⟨0, ((1 + l.length + 1 + 1 : Nat) : Int), 1⟩], ?_⟩
      rw [← hA]
      rfl
end Lx
end Go.Proofs.YtpgnfianffjpnaaGreatDoor
