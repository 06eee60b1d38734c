/- Headers of archives: what is written and what is read, plain: no program in sight. -/
namespace Go.Proofs.YtfhfahlocpmdkaaDoor.Us
structure Hd where
  path : List UInt8
  mode : Int
  uid : Int
  gid : Int
  size : Int
  time : Int
  type : UInt8
  link : List UInt8
  user : List UInt8
  group : List UInt8
  major : Int
  minor : Int
  deriving DecidableEq

def zs (n : Nat) : List UInt8 := List.replicate n 0
def fill (n : Nat) (s : List UInt8) : List UInt8 := s.take n ++ zs (n - s.length)
/-- a number in so many octal digits. -/
def oct : Nat → Nat → List UInt8
  | 0, _ => []
  | d + 1, x => oct d (x / 8) ++ [UInt8.ofNat (48 + x % 8)]
def sumFrom : Nat → List UInt8 → Nat
  | _, [] => 0
  | i, c :: r => (if 148 ≤ i ∧ i < 156 then 32 else c.toNat) + sumFrom (i + 1) r
/-- the first slash of l, the places counted from i on. -/
def slash : List UInt8 → Nat → Option Nat
  | [], _ => none
  | c :: r, i => if c.toNat = 47 then some i else slash r (i + 1)
def split (p : List UInt8) : Option (List UInt8 × List UInt8) :=
  if p.length ≤ 100 then some ([], p) else
  match slash ((p.drop (p.length - 101)).take 100) (p.length - 101) with
  | none => none
  | some j => if 1 ≤ j ∧ j ≤ 155 then some (p.take j, p.drop (j + 1)) else none
def has0 (s : List UInt8) : Bool := s.any fun c => c.toNat == 0
def magic : List UInt8 := [117, 115, 116, 97, 114, 0, 48, 48]
def ahead (h : Hd) (name : List UInt8) : List UInt8 :=
  fill 100 name ++ (oct 7 h.mode.toNat ++ [0]) ++ (oct 7 h.uid.toNat ++ [0]) ++ (oct 7 h.gid.toNat ++ [0]) ++ (oct 11 h.size.toNat ++ [0]) ++ (oct 11 h.time.toNat ++ [0])
def behind (h : Hd) (pre : List UInt8) : List UInt8 :=
  [h.type] ++ fill 100 h.link ++ magic ++ fill 32 h.user ++ fill 32 h.group ++ (oct 7 h.major.toNat ++ [0]) ++ (oct 7 h.minor.toNat ++ [0]) ++ fill 155 pre ++ zs 12
def in_ (x most : Int) : Bool := decide (0 ≤ x ∧ x ≤ most)
/-- is a header's text one that can't be written? -/
def badText (h : Hd) : Bool := has0 h.path || has0 h.link || has0 h.user || has0 h.group || decide (31 < h.user.length) || decide (31 < h.group.length)
def goodNums (h : Hd) : Bool := in_ h.mode 2097151 && in_ h.uid 2097151 && in_ h.gid 2097151 && in_ h.major 2097151 && in_ h.minor 2097151 && in_ h.size 8589934591 && in_ h.time 8589934591
def bytes (h : Hd) (pre name : List UInt8) : List UInt8 :=
  ahead h name ++ (oct 6 (sumFrom 0 (ahead h name ++ zs 8 ++ behind h pre)) ++ [0, 32]) ++ behind h pre
/-- what is written: the bytes, or the error's number. -/
def enc (h : Hd) : Nat × List UInt8 :=
  if badText h then (6, []) else
  match split h.path with
  | none => (9, [])
  | some (pre, name) => if 100 < h.link.length then (17, []) else if goodNums h then (0, bytes h pre name) else (1, [])

/-- the text of a field. -/
def text (s : List UInt8) : List UInt8 := s.takeWhile fun c => c.toNat != 0
def isOct (c : UInt8) : Bool := decide (48 ≤ c.toNat ∧ c.toNat ≤ 55)
/-- octal digits, and what is behind them. -/
def digits : List UInt8 → Nat → Nat × List UInt8
  | [], x => (x, [])
  | c :: r, x => if isOct c then digits r (8 * x + (c.toNat - 48)) else (x, c :: r)
def isPad (c : UInt8) : Bool := c.toNat == 0 || c.toNat == 32
/-- the number of a field. -/
def value (s : List UInt8) : Option Nat :=
  match s.dropWhile (fun c => c.toNat == 32) with
  | [] => none
  | c :: r => if isOct c then (let q := digits (c :: r) 0; if q.2.all isPad then some q.1 else none) else none
def cut (s : List UInt8) (a b : Nat) : List UInt8 := (s.drop a).take (b - a)
def froms : List (Nat × Nat) := [(100, 108), (108, 116), (116, 124), (124, 136), (136, 148), (148, 156), (329, 337), (337, 345)]
def values (s : List UInt8) : List (Nat × Nat) → Option (List Nat)
  | [] => some []
  | (a, b) :: r => match value (cut s a b) with
    | none => none
    | some x => match values s r with
      | none => none
      | some l => some (x :: l)
def hd0 : Hd := ⟨[], 0, 0, 0, 0, 0, 0, [], [], [], 0, 0⟩
def pathOf (s : List UInt8) : List UInt8 := if text (cut s 345 500) = [] then text (cut s 0 100) else text (cut s 345 500) ++ 47 :: text (cut s 0 100)
def hdOf (s : List UInt8) (x : List Nat) : Hd :=
  ⟨pathOf s, (x.getD 0 0 : Nat), (x.getD 1 0 : Nat), (x.getD 2 0 : Nat), (x.getD 3 0 : Nat), (x.getD 4 0 : Nat), s.getD 156 0, text (cut s 157 257), text (cut s 265 297), text (cut s 297 329), (x.getD 6 0 : Nat), (x.getD 7 0 : Nat)⟩
/-- what is read: the header, or the error's number. -/
def dec (s : List UInt8) : Nat × Hd :=
  if s.length < 512 then (2, hd0) else if 512 < s.length then (3, hd0) else if cut s 257 265 = magic then
    match values s froms with
    | none => (6, hd0)
    | some x => if x.getD 5 0 = sumFrom 0 s then (0, hdOf s x) else (7, hd0)
  else (4, hd0)

/-! ### Lengths -/
theorem zs_length (n : Nat) : (zs n).length = n := by simp [zs]
theorem fill_length (n : Nat) (s : List UInt8) : (fill n s).length = n := by simp [fill, zs_length]; omega
theorem oct_length : ∀ (d x : Nat), (oct d x).length = d
  | 0, _ => rfl
  | d + 1, x => by rw [oct, List.length_append, oct_length d]; rfl
theorem ahead_length (h : Hd) (name : List UInt8) : (ahead h name).length = 148 := by simp [ahead, fill_length, oct_length]
theorem behind_length (h : Hd) (pre : List UInt8) : (behind h pre).length = 356 := by simp [behind, fill_length, oct_length, zs_length, magic]
theorem bytes_length (h : Hd) (pre name : List UInt8) : (bytes h pre name).length = 512 := by simp [bytes, ahead_length, behind_length, oct_length]

/-! ### Sums -/
theorem sumFrom_append : ∀ (a b : List UInt8) (i : Nat), sumFrom i (a ++ b) = sumFrom i a + sumFrom (i + a.length) b
  | [], b, i => by simp [sumFrom]
  | c :: a, b, i => by
    rw [List.cons_append, sumFrom, sumFrom, sumFrom_append a b (i + 1), List.length_cons, show i + 1 + a.length = i + (a.length + 1) by omega, Nat.add_assoc]
/-- what stands in the sum's own field is not asked. -/
theorem sumFrom_field : ∀ (a b : List UInt8) (i : Nat), a.length = b.length → 148 ≤ i → i + a.length ≤ 156 → sumFrom i a = sumFrom i b
  | [], [], _, _, _, _ => rfl
  | [], _ :: _, _, h, _, _ => by simp at h
  | _ :: _, [], _, h, _, _ => by simp at h
  | c :: a, d :: b, i, h, h1, h2 => by
    simp only [List.length_cons] at h h2
    rw [sumFrom, sumFrom, if_pos (by omega), if_pos (by omega), sumFrom_field a b (i + 1) (by omega) (by omega) (by omega)]
theorem sumFrom_le : ∀ (a : List UInt8) (i : Nat), sumFrom i a ≤ 255 * a.length
  | [], _ => by simp [sumFrom]
  | c :: a, i => by
    have := sumFrom_le a (i + 1)
    have := c.toNat_lt
    rw [sumFrom, List.length_cons]
    split <;> omega
theorem sum_bytes (h : Hd) (pre name : List UInt8) : sumFrom 0 (bytes h pre name) = sumFrom 0 (ahead h name ++ zs 8 ++ behind h pre) := by
  have e : ∀ q : List UInt8, sumFrom 0 (ahead h name ++ q ++ behind h pre) = sumFrom 0 (ahead h name) + (sumFrom (0 + 148) q + sumFrom (0 + 148 + q.length) (behind h pre)) := by
    intro q
    rw [List.append_assoc, sumFrom_append, sumFrom_append, ahead_length]
  rw [bytes, e, e, sumFrom_field (oct 6 _ ++ [0, 32]) (zs 8) (0 + 148) (by simp [oct_length, zs_length]) (by omega) (by simp [oct_length])]
  simp [oct_length, zs_length]

/-! ### Texts -/
theorem takeWhile_fill {n : Nat} {s : List UInt8} (h : has0 s = false) (hn : s.length ≤ n) : text (fill n s) = s := by
  have h1 : s.take n = s := List.take_of_length_le hn
  have h2 : ∀ c ∈ s, (c.toNat != 0) = true := by
    intro c hc
    have h0 : ¬ (has0 s = true) := by simp [h]
    simp only [bne_iff_ne, ne_eq]
    intro hc0
    exact h0 (List.any_eq_true.2 ⟨c, hc, by simp [hc0]⟩)
  rw [fill, h1, text, List.takeWhile_append_of_pos h2]
  cases n - s.length with
  | zero => simp [zs]
  | succ k => simp [zs, List.replicate_succ]

/-! ### Numbers -/
theorem digits_append (d : UInt8) : ∀ (a b : List UInt8) (x : Nat), (∀ c ∈ a, isOct c = true) → digits (a ++ b) x = digits b (digits a x).1
  | [], b, x, _ => rfl
  | c :: a, b, x, h => by
    rw [List.cons_append, digits, if_pos (h c (List.mem_cons_self ..)), digits, if_pos (h c (List.mem_cons_self ..))]
    exact digits_append d a b _ fun e he => h e (List.mem_cons_of_mem _ he)
theorem isOct_digit (x : Nat) : isOct (UInt8.ofNat (48 + x % 8)) = true := by
  have : (UInt8.ofNat (48 + x % 8)).toNat = 48 + x % 8 := by rw [UInt8.toNat_ofNat']; omega
  simp only [isOct, decide_eq_true_eq, this]
  omega
theorem oct_isOct : ∀ (d x : Nat), ∀ c ∈ oct d x, isOct c = true
  | 0, _, c, h => by simp [oct] at h
  | d + 1, x, c, h => by
    rw [oct, List.mem_append] at h
    rcases h with h | h
    · exact oct_isOct d _ c h
    · rw [List.mem_singleton] at h
      subst h
      exact isOct_digit x
theorem digits_oct : ∀ (d x : Nat), x < 8 ^ d → (digits (oct d x) 0).1 = x
  | 0, x, h => by simp at h; subst h; rfl
  | d + 1, x, h => by
    have h8 : x / 8 < 8 ^ d := by rw [Nat.pow_succ] at h; omega
    rw [oct, digits_append 0 _ _ _ (oct_isOct d _), digits_oct d _ h8, digits, if_pos (isOct_digit x), digits]
    have : (UInt8.ofNat (48 + x % 8)).toNat = 48 + x % 8 := by rw [UInt8.toNat_ofNat']; omega
    rw [this]
    show 8 * (x / 8) + (48 + x % 8 - 48) = x
    omega
theorem value_oct {d x : Nat} {pad : List UInt8} (h0 : 0 < d) (h : x < 8 ^ d) (hp : pad.all isPad = true) (hpo : ∀ c ∈ pad.head?, isOct c = false) : value (oct d x ++ pad) = some x := by
  have hc : ∃ c r, oct d x = c :: r := by
    cases hx : oct d x with
    | nil => have := oct_length d x; rw [hx] at this; simp at this; omega
    | cons c r => exact ⟨c, r, rfl⟩
  obtain ⟨c, r, hc⟩ := hc
  have ho : isOct c = true := oct_isOct d x c (by rw [hc]; exact List.mem_cons_self ..)
  have h32 : (c.toNat == 32) = false := by
    simp only [isOct, decide_eq_true_eq] at ho
    simp; omega
  have hdw : (oct d x ++ pad).dropWhile (fun c => c.toNat == 32) = c :: (r ++ pad) := by
    rw [hc, List.cons_append, List.dropWhile_cons]
    simp only [h32, Bool.false_eq_true, if_false]
  have hdig : digits (c :: (r ++ pad)) 0 = (x, pad) := by
    rw [← List.cons_append, ← hc, digits_append 0 _ _ _ (oct_isOct d x), digits_oct d x h]
    cases pad with
    | nil => rfl
    | cons e pad => rw [digits, if_neg (by simp [hpo e (by simp)])]
  rw [value, hdw]
  simp only [ho, if_true, hdig, hp]

/-! ### What is written is read as the same -/
theorem cut_here (A B : List UInt8) (b : Nat) (h : A.length = b) : cut (A ++ B) 0 b = A := by
  subst h; simp [cut]
theorem cut_skip (A B : List UInt8) (a b : Nat) (h : A.length ≤ a) : cut (A ++ B) a b = cut B (a - A.length) (b - A.length) := by
  have e : b - A.length - (a - A.length) = b - a := by omega
  rw [cut, cut, e]
  congr 1
  rw [List.drop_append, List.drop_of_length_le h, List.nil_append]
theorem getD_skip (A B : List UInt8) (a : Nat) (h : A.length ≤ a) : (A ++ B).getD a 0 = B.getD (a - A.length) 0 := by
  simp [List.getElem?_append_right h]
/-- the fields of what is written. -/
structure Fields (s : List UInt8) (h : Hd) (pre name : List UInt8) (sum : Nat) : Prop where
  len : s.length = 512
  name : cut s 0 100 = fill 100 name
  mode : cut s 100 108 = oct 7 h.mode.toNat ++ [0]
  uid : cut s 108 116 = oct 7 h.uid.toNat ++ [0]
  gid : cut s 116 124 = oct 7 h.gid.toNat ++ [0]
  size : cut s 124 136 = oct 11 h.size.toNat ++ [0]
  time : cut s 136 148 = oct 11 h.time.toNat ++ [0]
  sum : cut s 148 156 = oct 6 sum ++ [0, 32]
  type : s.getD 156 0 = h.type
  link : cut s 157 257 = fill 100 h.link
  mag : cut s 257 265 = magic
  user : cut s 265 297 = fill 32 h.user
  group : cut s 297 329 = fill 32 h.group
  major : cut s 329 337 = oct 7 h.major.toNat ++ [0]
  minor : cut s 337 345 = oct 7 h.minor.toNat ++ [0]
  prefix_ : cut s 345 500 = fill 155 pre
  rest : cut s 500 512 = zs 12
theorem cut_whole (A : List UInt8) (b : Nat) (h : A.length = b) : cut A 0 b = A := by
  subst h; simp [cut]
theorem fields (h : Hd) (pre name : List UInt8) : Fields (bytes h pre name) h pre name (sumFrom 0 (bytes h pre name)) := by
  rw [sum_bytes]
  have hb : bytes h pre name = fill 100 name ++ ((oct 7 h.mode.toNat ++ [0]) ++ ((oct 7 h.uid.toNat ++ [0]) ++ ((oct 7 h.gid.toNat ++ [0]) ++ ((oct 11 h.size.toNat ++ [0]) ++ ((oct 11 h.time.toNat ++ [0]) ++ ((oct 6 (sumFrom 0 (ahead h name ++ zs 8 ++ behind h pre)) ++ [0, 32]) ++ ([h.type] ++ (fill 100 h.link ++ (magic ++ (fill 32 h.user ++ (fill 32 h.group ++ ((oct 7 h.major.toNat ++ [0]) ++ ((oct 7 h.minor.toNat ++ [0]) ++ (fill 155 pre ++ zs 12)))))))))))))) := by
    rw [bytes]
    generalize sumFrom 0 _ = S
    simp only [ahead, behind, List.append_assoc]
  have hl := bytes_length h pre name
  rw [hb] at hl ⊢
  generalize sumFrom 0 (ahead h name ++ zs 8 ++ behind h pre) = S at *
  have l0 : (fill 100 name).length = 100 := fill_length _ _
  have l1 : (fill 100 h.link).length = 100 := fill_length _ _
  have l2 : (fill 32 h.user).length = 32 := fill_length _ _
  have l3 : (fill 32 h.group).length = 32 := fill_length _ _
  have l4 : (fill 155 pre).length = 155 := fill_length _ _
  have l5 : ∀ x, (oct 7 x ++ [0]).length = 8 := fun x => by simp [oct_length]
  have l6 : ∀ x, (oct 11 x ++ [0]).length = 12 := fun x => by simp [oct_length]
  have l7 : ∀ x, (oct 6 x ++ [0, 32]).length = 8 := fun x => by simp [oct_length]
  have l8 : [h.type].length = 1 := rfl
  have l9 : magic.length = 8 := rfl
  have l10 : (zs 12).length = 12 := rfl
  refine ⟨hl, ?_, ?_, ?_, ?_, ?_, ?_, ?_, ?_, ?_, ?_, ?_, ?_, ?_, ?_, ?_, ?_⟩
  case refine_8 =>
    repeat rw [getD_skip _ _ _ (by simp only [l0, l5, l6, l7]; omega)]
    simp only [l0, l5, l6, l7]
    rfl
  all_goals
    repeat (rw [cut_skip _ _ _ _ (by simp only [l0, l1, l2, l3, l4, l5, l6, l7, l8, l9]; omega)]; simp only [l0, l1, l2, l3, l4, l5, l6, l7, l8, l9, Nat.reduceSub])
    first
      | exact cut_here _ _ _ (by simp only [l0, l1, l2, l3, l4, l5, l6, l7, l9])
      | exact cut_whole _ _ l10

theorem slash_spec : ∀ (l : List UInt8) (i j : Nat), slash l i = some j → ∃ a b, l = a ++ 47 :: b ∧ j = i + a.length ∧ ∀ c ∈ a, c.toNat ≠ 47
  | [], _, _, h => by simp [slash] at h
  | c :: r, i, j, h => by
    rw [slash] at h
    split at h
    · injection h with h
      have hc : c = 47 := by apply UInt8.toNat_inj.1; assumption
      exact ⟨[], r, by rw [hc]; rfl, by simp [h], by simp⟩
    · obtain ⟨a, b, h1, h2, h3⟩ := slash_spec r (i + 1) j h
      refine ⟨c :: a, b, by rw [h1]; rfl, by simp [h2]; omega, fun d hd => ?_⟩
      rw [List.mem_cons] at hd
      rcases hd with rfl | hd
      · assumption
      · exact h3 d hd
theorem slash_none : ∀ (l : List UInt8) (i : Nat), slash l i = none ↔ ∀ c ∈ l, c.toNat ≠ 47
  | [], _ => by simp [slash]
  | c :: r, i => by
    rw [slash]
    split
    · rename_i h
      simp [h]
    · rename_i h
      rw [slash_none r (i + 1)]
      simp [h]
/-- what a path is cut to: it fits, and says the path. -/
theorem split_spec {p pre name : List UInt8} (h : split p = some (pre, name)) : name.length ≤ 100 ∧ pre.length ≤ 155 ∧ ((pre = [] ∧ name = p) ∨ (pre ≠ [] ∧ p = pre ++ 47 :: name)) := by
  rw [split] at h
  split at h
  · injection h with h
    injection h with h1 h2
    subst h1 h2
    exact ⟨by assumption, by simp, .inl ⟨rfl, rfl⟩⟩
  · rename_i hl
    split at h
    · cases h
    · rename_i j hj
      split at h
      · rename_i hb
        injection h with h
        injection h with h1 h2
        subst h1 h2
        obtain ⟨a, b, e1, e2, e3⟩ := slash_spec _ _ _ hj
        have hlen := congrArg List.length e1
        simp at hlen
        have hp : p.drop j = 47 :: (b ++ p.drop (p.length - 1)) := by
          have e4 : p.drop (p.length - 101) = (p.drop (p.length - 101)).take 100 ++ (p.drop (p.length - 101)).drop 100 := (List.take_append_drop ..).symm
          rw [e1, List.drop_drop, show p.length - 101 + 100 = p.length - 1 by omega] at e4
          rw [e2, ← List.drop_drop, e4, List.append_assoc, List.drop_left]
          rfl
        refine ⟨by rw [List.length_drop]; omega, by rw [List.length_take]; omega, .inr ⟨?_, ?_⟩⟩
        · intro hn
          have := congrArg List.length hn
          rw [List.length_take, List.length_nil] at this
          omega
        · have e5 : p.drop (j + 1) = b ++ p.drop (p.length - 1) := by
            rw [← List.drop_drop, hp]; rfl
          rw [e5]
          have := List.take_append_drop j p
          rw [hp] at this
          exact this.symm
      · cases h
theorem has0_append (a b : List UInt8) : has0 (a ++ b) = (has0 a || has0 b) := by simp [has0]

theorem fits7 {x : Int} (h : in_ x 2097151 = true) : x.toNat < 8 ^ 7 ∧ (x.toNat : Int) = x := by
  simp only [in_, decide_eq_true_eq] at h
  constructor
  · show x.toNat < 2097152
    omega
  · omega
theorem fits11 {x : Int} (h : in_ x 8589934591 = true) : x.toNat < 8 ^ 11 ∧ (x.toNat : Int) = x := by
  simp only [in_, decide_eq_true_eq] at h
  constructor
  · show x.toNat < 8589934592
    omega
  · omega
theorem value7 {x : Nat} (h : x < 8 ^ 7) : value (oct 7 x ++ [0]) = some x := value_oct (by omega) h rfl (by simp [isOct])
theorem value11 {x : Nat} (h : x < 8 ^ 11) : value (oct 11 x ++ [0]) = some x := value_oct (by omega) h rfl (by simp [isOct])
theorem value6 {x : Nat} (h : x < 8 ^ 6) : value (oct 6 x ++ [0, 32]) = some x := value_oct (by omega) h rfl (by simp [isOct])
/-- when enc writes. -/
theorem enc_ok {h : Hd} (he : (enc h).1 = 0) : badText h = false ∧ ∃ pre name, split h.path = some (pre, name) ∧ h.link.length ≤ 100 ∧ goodNums h = true ∧ (enc h).2 = bytes h pre name := by
  unfold enc at he ⊢
  split at he
  · cases he
  · rename_i hb
    split at he
    · cases he
    · rename_i pre name hs
      split at he
      · cases he
      · rename_i hl
        split at he
        · rename_i hg
          refine ⟨by simpa using hb, pre, name, hs, by omega, hg, ?_⟩
          rw [if_neg hb, if_neg hl, if_pos hg]
        · cases he
theorem enc_bad {h : Hd} (he : (enc h).1 ≠ 0) : (enc h).2 = [] := by
  unfold enc at he ⊢
  repeat' split
  all_goals first | rfl | (exfalso; simp_all)
/-- WHAT IS WRITTEN IS READ AS THE SAME. -/
theorem dec_enc {h : Hd} (he : (enc h).1 = 0) : dec (enc h).2 = (0, h) := by
  obtain ⟨hb, pre, name, hs, hl, hg, e⟩ := enc_ok he
  rw [e]
  have F := fields h pre name
  have hlen := F.len
  have hsum : sumFrom 0 (bytes h pre name) < 8 ^ 6 := by
    have := sumFrom_le (bytes h pre name) 0
    show _ < 262144
    omega
  generalize bytes h pre name = s at *
  simp only [goodNums, Bool.and_eq_true] at hg
  obtain ⟨⟨⟨⟨⟨⟨g1, g2⟩, g3⟩, g4⟩, g5⟩, g6⟩, g7⟩ := hg
  simp only [badText, Bool.or_eq_false_iff, decide_eq_false_iff_not] at hb
  obtain ⟨⟨⟨⟨⟨b1, b2⟩, b3⟩, b4⟩, b5⟩, b6⟩ := hb
  have f1 := fits7 g1
  have f2 := fits7 g2
  have f3 := fits7 g3
  have f4 := fits7 g4
  have f5 := fits7 g5
  have f6 := fits11 g6
  have f7 := fits11 g7
  have hv : values s froms = some [h.mode.toNat, h.uid.toNat, h.gid.toNat, h.size.toNat, h.time.toNat, sumFrom 0 s, h.major.toNat, h.minor.toNat] := by
    simp only [values, froms, F.mode, F.uid, F.gid, F.size, F.time, F.sum, F.major, F.minor, value7 f1.1, value7 f2.1, value7 f3.1, value11 f6.1, value11 f7.1, value6 hsum, value7 f4.1, value7 f5.1]
  rw [dec, if_neg (by omega), if_neg (by omega), if_pos F.mag, hv]
  simp only [List.getD_cons_succ, List.getD_cons_zero, if_true]
  obtain ⟨s1, s2, s3⟩ := split_spec hs
  have hpath : pathOf s = h.path := by
    rw [pathOf, F.prefix_, F.name]
    rcases s3 with ⟨rfl, rfl⟩ | ⟨hne, hp⟩
    · rw [takeWhile_fill (by rfl) (by simp), if_pos rfl, takeWhile_fill b1 s1]
    · have hz : has0 pre = false ∧ has0 name = false := by
        rw [hp, has0_append] at b1
        simp only [Bool.or_eq_false_iff] at b1
        refine ⟨b1.1, ?_⟩
        have := b1.2
        rw [show (47 :: name : List UInt8) = [47] ++ name from rfl, has0_append] at this
        simp only [Bool.or_eq_false_iff] at this
        exact this.2
      rw [takeWhile_fill hz.1 s2, if_neg hne, takeWhile_fill hz.2 s1, hp]
  rw [hdOf, hpath, F.type, F.link, F.user, F.group, takeWhile_fill b2 hl, takeWhile_fill b3 (by omega), takeWhile_fill b4 (by omega)]
  simp only [List.getD_cons_succ, List.getD_cons_zero, f1.2, f2.2, f3.2, f4.2, f5.2, f6.2, f7.2]
/-- alike as bytes just if alike. -/
theorem enc_inj {a b : Hd} (ha : (enc a).1 = 0) (hb : (enc b).1 = 0) : (enc a).2 = (enc b).2 ↔ a = b := by
  constructor
  · intro h
    have h1 := dec_enc ha
    rw [h, dec_enc hb] at h1
    injection h1 with _ h1
    exact h1.symm
  · rintro rfl; rfl

theorem cut_front (A B : List UInt8) (a b : Nat) (h : b ≤ A.length) : cut (A ++ B) a b = cut A a b := by
  rw [cut, cut]
  by_cases ha : a ≤ A.length
  · rw [List.drop_append_of_le_length ha, List.take_append_of_le_length (by rw [List.length_drop]; omega)]
  · rw [show b - a = 0 by omega, List.take_zero, List.take_zero]
theorem values_cons {s : List UInt8} {a b : Nat} {r : List (Nat × Nat)} {x : List Nat} (h : values s ((a, b) :: r) = some x) : ∃ y l, value (cut s a b) = some y ∧ values s r = some l ∧ x = y :: l := by
  rw [values] at h
  split at h
  · cases h
  · rename_i y hy
    split at h
    · cases h
    · rename_i l hl
      injection h with h
      exact ⟨y, l, hy, hl, h.symm⟩
theorem values_sum {s : List UInt8} {x : List Nat} (h : values s froms = some x) : value (cut s 148 156) = some (x.getD 5 0) := by
  rw [froms] at h
  obtain ⟨_, _, _, k1, rfl⟩ := values_cons h
  obtain ⟨_, _, _, k2, rfl⟩ := values_cons k1
  obtain ⟨_, _, _, k3, rfl⟩ := values_cons k2
  obtain ⟨_, _, _, k4, rfl⟩ := values_cons k3
  obtain ⟨_, _, _, k5, rfl⟩ := values_cons k4
  obtain ⟨_, _, h1, _, rfl⟩ := values_cons k5
  exact h1
/-- ONE BYTE IS ANOTHER: it is refused. -/
theorem dec_one {h : Hd} (he : (enc h).1 = 0) {A B : List UInt8} {c d : UInt8} (hs : (enc h).2 = A ++ d :: B) (hne : d ≠ c) (hat : A.length < 148 ∨ 156 ≤ A.length) :
    1 ≤ (dec (A ++ c :: B)).1 ∧ (dec (A ++ c :: B)).1 ≤ 7 := by
  obtain ⟨_, pre, name, _, _, _, e⟩ := enc_ok he
  have F := fields h pre name
  rw [← e, hs] at F
  have hlen := F.len
  have hsum : sumFrom 0 (A ++ d :: B) < 8 ^ 6 := by
    have := sumFrom_le (A ++ d :: B) 0
    show _ < 262144
    omega
  have hcut : cut (A ++ c :: B) 148 156 = cut (A ++ d :: B) 148 156 := by
    rcases hat with hat | hat
    · have e1 : ∀ q : UInt8, cut (A ++ q :: B) 148 156 = cut B (148 - (A.length + 1)) (156 - (A.length + 1)) := by
        intro q
        rw [show A ++ q :: B = (A ++ [q]) ++ B by simp, cut_skip _ _ _ _ (by simp; omega)]
        simp
      rw [e1, e1]
    · rw [cut_front _ _ _ _ hat, cut_front _ _ _ _ hat]
  have hdiff : sumFrom 0 (A ++ c :: B) ≠ sumFrom 0 (A ++ d :: B) := by
    rw [sumFrom_append, sumFrom_append, sumFrom, sumFrom, if_neg (by omega), if_neg (by omega)]
    intro h
    apply hne
    apply UInt8.toNat_inj.1
    omega
  have hl' : (A ++ c :: B).length = 512 := by rw [← hlen]; simp
  rw [dec, if_neg (by omega), if_neg (by omega)]
  split
  · split
    · simp
    · rename_i x hx
      have h1 := values_sum hx
      rw [hcut, F.sum, value6 hsum] at h1
      injection h1 with h1
      rw [if_neg (by omega)]
      simp
  · simp
end Go.Proofs.YtfhfahlocpmdkaaDoor.Us
