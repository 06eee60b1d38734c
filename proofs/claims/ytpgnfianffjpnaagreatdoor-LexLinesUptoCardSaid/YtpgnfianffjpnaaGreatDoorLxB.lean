/- The lines of a build file, plain: what layer 14 says. -/
import Derived.Test.YtpgnfianffjpnaaGreatDoorLxA
namespace Go.Proofs.YtpgnfianffjpnaaGreatDoor
open Go Go.RowKit
namespace Lx
/-- how many bytes a character has that begins with these; 0: none does. -/
def charN (n b0 b1 b2 b3 : Nat) : Nat :=
  if b0 < 128 then 1
  else if 194 ≤ b0 ∧ b0 ≤ 223 then (if 2 ≤ n ∧ (128 ≤ b1 ∧ b1 ≤ 191) then 2 else 0)
  else if 224 ≤ b0 ∧ b0 ≤ 239 then (if 3 ≤ n ∧ ((if b0 = 224 then 160 else 128) ≤ b1 ∧ b1 ≤ (if b0 = 237 then 159 else 191)) ∧ (128 ≤ b2 ∧ b2 ≤ 191) then 3 else 0)
  else if 240 ≤ b0 ∧ b0 ≤ 244 then (if 4 ≤ n ∧ ((if b0 = 240 then 144 else 128) ≤ b1 ∧ b1 ≤ (if b0 = 244 then 143 else 191)) ∧ (128 ≤ b2 ∧ b2 ≤ 191) ∧ (128 ≤ b3 ∧ b3 ≤ 191) then 4 else 0)
  else 0
def charLen (l : Bs) : Nat := charN l.length (l.getD 0 0).toNat (l.getD 1 0).toNat (l.getD 2 0).toNat (l.getD 3 0).toNat
/-- the line and place at which no character begins. -/
def wrongL : Bs → Nat → Nat → Nat → Nat → Option (Nat × Nat)
  | [], _, _, _, _ => none
  | _ :: r, k + 1, i, line, f => wrongL r k (i + 1) line f
  | c :: r, 0, i, line, f => match charLen (c :: r) with
    | 0 => some (line, i - f + 1)
    | n + 1 => wrongL r n (i + 1) (if c = 10 then line + 1 else line) (if c = 10 then i + 1 else f)
theorem wrongL_skip : ∀ (k : Nat) (l : Bs) (i line f : Nat), wrongL l k i line f = wrongL (l.drop k) 0 (i + k) line f
  | 0, l, i, line, f => by rw [List.drop_zero, Nat.add_zero]
  | k + 1, [], i, line, f => by rw [List.drop_nil, wrongL, wrongL]
  | k + 1, c :: r, i, line, f => by rw [wrongL, List.drop_succ_cons, wrongL_skip k r, show i + 1 + k = i + (k + 1) by omega]
theorem wrong_at {s : Bs} {i line f : Nat} (h : i < s.length) (h0 : charLen (s.drop i) = 0) : wrongL (s.drop i) 0 i line f = some (line, i - f + 1) := by
  rw [List.drop_eq_getElem_cons h] at h0 ⊢
  rw [wrongL, h0]
theorem wrong_go {s : Bs} {i line f n : Nat} (h : i < s.length) (h0 : charLen (s.drop i) = n + 1) :
    wrongL (s.drop i) 0 i line f = wrongL (s.drop (i + (n + 1))) 0 (i + (n + 1)) (if s[i] = 10 then line + 1 else line) (if s[i] = 10 then i + 1 else f) := by
  rw [List.drop_eq_getElem_cons h] at h0 ⊢
  rw [wrongL, h0]
  simp only
  rw [wrongL_skip, List.drop_drop, show i + 1 + n = i + (n + 1) by omega]
theorem wrong_end {s : Bs} {i line f : Nat} (h : s.length ≤ i) : wrongL (s.drop i) 0 i line f = none := by rw [List.drop_eq_nil_of_le h, wrongL]
theorem charN_le (n b0 b1 b2 b3 : Nat) (h : 1 ≤ n) : charN n b0 b1 b2 b3 ≤ n := by
  unfold charN
  repeat' split
  all_goals omega

/-- the file's lines. -/
def dropE (l : List Bs) : List Bs := if l.getLast? = some [] then l.dropLast else l
def cr (x : Bs) : Bs := Lib.trimRightS x [13]
def fileL (s : Bs) : List Bs := (dropE (Gl.cutL 10 s)).map cr
theorem dropE_cons (x : Bs) {l : List Bs} (h : l ≠ []) : dropE (x :: l) = x :: dropE l := by
  unfold dropE
  cases l with
  | nil => exact absurd rfl h
  | cons y r =>
    rw [List.getLast?_cons_cons]
    split
    · rfl
    · rfl
theorem cutL_nn (k : UInt8) (s : Bs) : Gl.cutL k s ≠ [] := by rw [Gl.cutL_ne]; simp
theorem fileL_cut (a r : Bs) (h : ∀ c ∈ a, c ≠ 10) : fileL (a ++ 10 :: r) = cr a :: fileL r := by
  rw [fileL, Gl.cutL_cut 10 a r h, dropE_cons _ (cutL_nn 10 r), List.map_cons]; rfl
theorem fileL_nil : fileL [] = [] := rfl
theorem fileL_one (a : Bs) (h : ∀ c ∈ a, c ≠ 10) (hne : a ≠ []) : fileL a = [cr a] := by
  rw [fileL, Gl.cutL_no 10 a h, dropE]
  rw [if_neg (by simp; exact hne)]
  rfl
theorem dropE_le (l : List Bs) : (dropE l).length ≤ l.length := by
  unfold dropE; split <;> simp
theorem dropE_sub {l : List Bs} {x : Bs} (h : x ∈ dropE l) : x ∈ l := by
  unfold dropE at h; split at h
  · exact List.dropLast_subset _ h
  · exact h
theorem fileL_count (s : Bs) : (fileL s).length ≤ s.length + 1 := by
  rw [fileL, List.length_map]
  exact Nat.le_trans (dropE_le _) (Gl.cutL_length 10 s)
theorem trimR_le (x cs : Bs) : (Lib.trimRightS x cs).length ≤ x.length := by
  unfold Lib.trimRightS
  rw [List.length_reverse]
  exact Nat.le_trans (List.dropWhile_sublist _).length_le (by rw [List.length_reverse]; exact Nat.le_refl _)
theorem trimL_le (x cs : Bs) : (Lib.trimLeftS x cs).length ≤ x.length := (List.dropWhile_sublist _).length_le
theorem fileL_len {s x : Bs} (h : x ∈ fileL s) : x.length ≤ s.length := by
  obtain ⟨y, hy, rfl⟩ := List.mem_map.1 h
  exact Nat.le_trans (trimR_le y [13]) (Gl.cutL_piece 10 s y (dropE_sub hy))

/-! ### lines -/
def headN (l : Bs) : Nat := l.length - (Gl.lft l).length
def rgt (l : Bs) : Bs := Lib.trimRightS l Gl.bls
theorem lft_drop (l : Bs) : Gl.lft l = l.drop (headN l) := by
  have e : l = l.takeWhile (Gl.bls.contains ·) ++ Gl.lft l := (List.takeWhile_append_dropWhile ..).symm
  have h2 : headN l = (l.takeWhile (Gl.bls.contains ·)).length := by
    have := congrArg List.length e
    rw [List.length_append] at this
    unfold headN; omega
  rw [h2]
  generalize l.takeWhile (Gl.bls.contains ·) = a at e
  conv => rhs; rw [e]
  rw [List.drop_left]
theorem headN_le (l : Bs) : headN l ≤ l.length := by unfold headN; omega
def nothingL (l : Bs) : Bool := match Gl.lft l with
  | [] => true
  | c :: _ => c == 35
def low (c : UInt8) : UInt8 := if 65 ≤ c ∧ c ≤ 90 then c + 32 else c
def sameL (s w : Bs) : Bool := s.map low == w
abbrev escW : Bs := [101, 115, 99, 97, 112, 101]
abbrev copyW : Bs := [99, 111, 112, 121]
/-- where the value of a directive begins. -/
def dirP (line : Bs) : Option Nat := match Gl.lft line with
  | [] => none
  | c :: r => if c = 35 then (if sameL ((Gl.lft r).take 6) escW then (match Gl.lft ((Gl.lft r).drop 6) with
    | [] => none
    | d :: v => if d = 61 then some (line.length - v.length) else none) else none) else none
def dirV (line : Bs) (p : Nat) : Bs := Gl.trimL (line.drop p)
abbrev Err := Nat × Int × Int
/-- the directives: how many, the escape. -/
def dirsL : List Bs → Err ⊕ (Nat × UInt8)
  | [] => .inr (0, 92)
  | x :: r => match dirP x with
    | none => .inr (0, 92)
    | some p => match dirV x p with
      | [c] => if c = 92 ∨ c = 96 then (match r with
          | [] => .inr (1, c)
          | y :: _ => if (dirP y).isSome then .inl (11, 2, (headN y : Int) + 1) else .inr (1, c))
        else .inl (4, 1, (p : Int))
      | _ => .inl (4, 1, (p : Int))
structure Mk where
  at_ : Int
  line : Int
  col : Int
structure Dc where
  name : Bs
  raw : Bool
  line : Int
  text : Bs
structure Ln where
  line : Int
  text : Bs
  marks : List Mk
  docs : List Dc
abbrev w64 (x : Int) : Int := IntKind.i64.wrap x
def clampL (l : Ln) (a : Int) : Int := max 0 (min a l.text.length)
def placeM (ms : List Mk) (a : Int) (d : Int × Int) : Int × Int := ms.foldl (fun r m => if m.at_ ≤ a then (m.line, w64 (m.col + w64 (a - m.at_))) else r) d
/-- where a byte of a line stands. -/
def placeL (l : Ln) (a : Int) : Int × Int := placeM l.marks (clampL l a) (l.line, clampL l a + 1)
theorem placeM_snoc (ms : List Mk) (m : Mk) (a : Int) (d : Int × Int) : placeM (ms ++ [m]) a d = if m.at_ ≤ a then (m.line, w64 (m.col + w64 (a - m.at_))) else placeM ms a d := by
  rw [placeM, List.foldl_append]; rfl
abbrev Acc := Bs × List Mk
def addL (a : Acc) (x : Bs) (n ahead : Nat) : Acc := if x = [] then a else (a.1 ++ x, a.2 ++ [⟨(a.1.length : Int), (n : Int), (ahead : Int) + 1⟩])
def onL (e : UInt8) (x : Bs) : Bool := (rgt x).getLast? == some e
/-- a line is put behind; does it go on? -/
def moreL (e : UInt8) (a : Acc) (line : Bs) (n ahead : Nat) : Acc :=
  if onL e (line.drop ahead) then addL a (rgt (line.drop ahead)).dropLast n ahead else addL a (line.drop ahead) n ahead
def goJ (e : UInt8) : List Bs → Nat → Acc → Acc × Nat
  | [], i, a => (a, i)
  | x :: r, i, a => if nothingL x then goJ e r (i + 1) a else if onL e x then goJ e r (i + 1) (moreL e a x (i + 1) 0) else (moreL e a x (i + 1) 0, i + 1)
def joinL (e : UInt8) (x : Bs) (r : List Bs) (i : Nat) : Acc × Nat :=
  if onL e (x.drop (headN x)) then goJ e r (i + 1) (moreL e ([], []) x (i + 1) (headN x)) else (moreL e ([], []) x (i + 1) (headN x), i + 1)
def copL (text : Bs) : Bool := decide (4 < (Gl.lft text).length) && sameL ((Gl.lft text).take 4) copyW && blank ((Gl.lft text).getD 4 0)
def quotedB (s : Bs) : Bool := decide (2 ≤ s.length) && (s.head? == some 34 || s.head? == some 39) && s.getLast? == s.head?
def letter (c : UInt8) : Bool := (97 ≤ c && c ≤ 122) || (65 ≤ c && c ≤ 90) || c == 95 || (48 ≤ c && c ≤ 57)
def nameOk (n : Bs) : Bool := n.all letter && n != [] && decide (n.length ≤ 96)
def openName (raw : Bs) : Bs := if quotedB (Lib.trimPrefix (raw.drop 2) [45]) then (Lib.trimPrefix (raw.drop 2) [45]).tail.dropLast else Lib.trimPrefix (raw.drop 2) [45]
def openTabs (raw : Bs) : Bool := Lib.hasPrefix (raw.drop 2) [45]
def openRaw (raw : Bs) : Bool := quotedB (Lib.trimPrefix (raw.drop 2) [45])
def bare (tabs : Bool) (x : Bs) : Bs := if tabs then Lib.trimLeftS x [9] else x
/-- a document's text, and how many lines it takes. -/
def bodyL (name : Bs) (tabs : Bool) : List Bs → Bs → Nat → Option (Bs × Nat)
  | [], _, _ => none
  | x :: r, acc, k => if bare tabs x = name then some (acc, k + 1) else bodyL name tabs r (acc ++ bare tabs x ++ [10]) (k + 1)
abbrev isDoc (raw : Bs) : Bool := [60, 60].isPrefixOf raw
def errAt (n : Nat) (p : Int × Int) : Err := (n, p.1, p.2)
def docsW (L : List Bs) (ln : Ln) : List Wd → Nat → List Dc → Err ⊕ (List Dc × Nat)
  | [], j, acc => .inr (acc, j)
  | w :: ws, j, acc => if isDoc w.raw then (if nameOk (openName w.raw) then (match bodyL (openName w.raw) (openTabs w.raw) (L.drop j) [] j with
      | none => .inl (errAt 26 (placeL ln w.at_))
      | some (t, k) => docsW L ln ws k (acc ++ [⟨openName w.raw, openRaw w.raw, (j : Int) + 1, t⟩]))
    else .inl (errAt 26 (placeL ln w.at_))) else docsW L ln ws j acc
def docsL (e : UInt8) (L : List Bs) (ln : Ln) (j : Nat) : Err ⊕ (List Dc × Nat) :=
  if copL ln.text then (match wordsL ln.text e with
    | .inl q => .inl (errAt 18 (placeL ln q))
    | .inr ws => docsW L ln ws.tail j []) else .inr ([], j)
def empty (t : Bs) : Bool := (Gl.lft t).isEmpty
/-- the lines of a build file, from line i of the file on. -/
def mainL (e : UInt8) (L : List Bs) : List Bs → Nat → Nat → List Ln → Err ⊕ List Ln
  | [], _, _, acc => .inr acc
  | _ :: r, k + 1, i, acc => mainL e L r k (i + 1) acc
  | x :: r, 0, i, acc => if nothingL x then mainL e L r 0 (i + 1) acc else
    if empty (joinL e x r i).1.1 then mainL e L r ((joinL e x r i).2 - (i + 1)) (i + 1) acc else
      match docsL e L ⟨(i : Int) + 1, (joinL e x r i).1.1, (joinL e x r i).1.2, []⟩ (joinL e x r i).2 with
      | .inl z => .inl z
      | .inr (ds, m) => mainL e L r (m - (i + 1)) (i + 1) (acc ++ [⟨(i : Int) + 1, (joinL e x r i).1.1, (joinL e x r i).1.2, ds⟩])
def linesL (s : Bs) : Err ⊕ (UInt8 × List Ln) :=
  if 65536 < s.length then .inl (5, 0, 0) else match wrongL s 0 0 1 0 with
  | some (l, a) => .inl (6, (l : Int), (a : Int))
  | none => if 4096 < (fileL s).length then .inl (5, 4097, 1) else match dirsL (fileL s) with
    | .inl z => .inl z
    | .inr (n, e) => match mainL e (fileL s) ((fileL s).drop n) 0 n [] with
      | .inl z => .inl z
      | .inr ls => .inr (e, ls)
theorem mainL_skip {e : UInt8} {L : List Bs} : ∀ (k : Nat) (l : List Bs) (i : Nat) (acc : List Ln), mainL e L l k i acc = mainL e L (l.drop k) 0 (i + k) acc
  | 0, l, i, acc => by rw [List.drop_zero, Nat.add_zero]
  | k + 1, [], i, acc => by rw [List.drop_nil, mainL, mainL]
  | k + 1, c :: r, i, acc => by rw [mainL, List.drop_succ_cons, mainL_skip k r, show i + 1 + k = i + (k + 1) by omega]
theorem goJ_le {e : UInt8} : ∀ (r : List Bs) (i : Nat) (a : Acc), i ≤ (goJ e r i a).2 ∧ (goJ e r i a).2 ≤ i + r.length
  | [], i, a => by rw [goJ]; simp
  | x :: r, i, a => by
    rw [goJ, List.length_cons]
    split
    · have := goJ_le (e := e) r (i + 1) a; omega
    · split
      · have := goJ_le (e := e) r (i + 1) (moreL e a x (i + 1) 0); omega
      · simp only; omega
theorem joinL_le {e : UInt8} (x : Bs) (r : List Bs) (i : Nat) : i + 1 ≤ (joinL e x r i).2 ∧ (joinL e x r i).2 ≤ i + 1 + r.length := by
  rw [joinL]
  split
  · exact goJ_le r (i + 1) _
  · simp only; omega
theorem bodyL_le {name : Bs} {tabs : Bool} : ∀ (r : List Bs) (acc : Bs) (k : Nat) (t : Bs) (m : Nat), bodyL name tabs r acc k = some (t, m) → k < m ∧ m ≤ k + r.length
  | [], acc, k, t, m, h => by rw [bodyL] at h; cases h
  | x :: r, acc, k, t, m, h => by
    rw [bodyL] at h
    split at h
    · injection h with h; injection h with _ h; rw [List.length_cons]; omega
    · have := bodyL_le r _ _ t m h; rw [List.length_cons]; omega
theorem docsW_le {L : List Bs} {ln : Ln} : ∀ (ws : List Wd) (j : Nat) (acc : List Dc) (ds : List Dc) (m : Nat), docsW L ln ws j acc = .inr (ds, m) → j ≤ m ∧ (j ≤ L.length → m ≤ L.length)
  | [], j, acc, ds, m, h => by rw [docsW] at h; injection h with h; injection h with _ h; omega
  | w :: ws, j, acc, ds, m, h => by
    rw [docsW] at h
    split at h
    · split at h
      · cases hb : bodyL (openName w.raw) (openTabs w.raw) (L.drop j) [] j with
        | none => rw [hb] at h; cases h
        | some tk =>
          obtain ⟨t, k⟩ := tk
          rw [hb] at h
          have h1 := bodyL_le _ _ _ _ _ hb
          rw [List.length_drop] at h1
          have h2 := docsW_le ws k _ ds m h
          exact ⟨by omega, fun hj => h2.2 (by omega)⟩
      · cases h
    · exact docsW_le ws j acc ds m h
theorem docsL_le {e : UInt8} {L : List Bs} {ln : Ln} {j : Nat} {ds : List Dc} {m : Nat} (h : docsL e L ln j = .inr (ds, m)) : j ≤ m ∧ (j ≤ L.length → m ≤ L.length) := by
  rw [docsL] at h
  split at h
  · split at h
    · cases h
    · exact docsW_le _ _ _ _ _ h
  · injection h with h; injection h with _ h; omega
section
variable {e : UInt8} {L : List Bs} {i : Nat} {acc : List Ln}
theorem main_end (h : L.length ≤ i) : mainL e L (L.drop i) 0 i acc = .inr acc := by rw [List.drop_eq_nil_of_le h, mainL]
theorem main_nothing (h : i < L.length) (hn : nothingL L[i] = true) : mainL e L (L.drop i) 0 i acc = mainL e L (L.drop (i + 1)) 0 (i + 1) acc := by
  rw [List.drop_eq_getElem_cons h, mainL, if_pos hn]
theorem main_empty (h : i < L.length) (hn : nothingL L[i] = false) {t : Acc} {j : Nat} (hj : joinL e L[i] (L.drop (i + 1)) i = (t, j)) (he : empty t.1 = true) :
    mainL e L (L.drop i) 0 i acc = mainL e L (L.drop j) 0 j acc := by
  have hle := joinL_le (e := e) L[i] (L.drop (i + 1)) i
  rw [hj] at hle
  rw [List.drop_eq_getElem_cons h, mainL, if_neg (by rw [hn]; simp), hj, if_pos he, mainL_skip, List.drop_drop, show i + 1 + (j - (i + 1)) = j by have := hle.1; simp only at this; omega]
theorem main_err (h : i < L.length) (hn : nothingL L[i] = false) {t : Acc} {j : Nat} (hj : joinL e L[i] (L.drop (i + 1)) i = (t, j)) (he : empty t.1 = false) {z : Err} (hd : docsL e L ⟨(i : Int) + 1, t.1, t.2, []⟩ j = .inl z) :
    mainL e L (L.drop i) 0 i acc = .inl z := by
  rw [List.drop_eq_getElem_cons h, mainL, if_neg (by rw [hn]; simp), hj, if_neg (by rw [he]; simp)]
  simp only
  rw [hd]
theorem main_line (h : i < L.length) (hn : nothingL L[i] = false) {t : Acc} {j : Nat} (hj : joinL e L[i] (L.drop (i + 1)) i = (t, j)) (he : empty t.1 = false) {ds : List Dc} {m : Nat} (hd : docsL e L ⟨(i : Int) + 1, t.1, t.2, []⟩ j = .inr (ds, m)) :
    mainL e L (L.drop i) 0 i acc = mainL e L (L.drop m) 0 m (acc ++ [⟨(i : Int) + 1, t.1, t.2, ds⟩]) := by
  have hle := joinL_le (e := e) L[i] (L.drop (i + 1)) i
  rw [hj] at hle
  have hm := docsL_le hd
  rw [List.drop_eq_getElem_cons h, mainL, if_neg (by rw [hn]; simp), hj, if_neg (by rw [he]; simp)]
  simp only
  rw [hd]
  simp only
  rw [mainL_skip, List.drop_drop, show i + 1 + (m - (i + 1)) = m by have := hle.1; simp only at this; omega]
end
end Lx
end Go.Proofs.YtpgnfianffjpnaaGreatDoor
