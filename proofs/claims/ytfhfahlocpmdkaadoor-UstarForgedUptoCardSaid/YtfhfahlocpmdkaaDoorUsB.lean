/- What ustar calls of package strings, by the shelf's contracts. -/
import Derived.Test.YtfhfahlocpmdkaaDoorProg
import Derived.Test.YtfhfahlocpmdkaaDoorOwn
import Derived.Test.YtfhfahlocpmdkaaDoorUsPlain
import Derived.WalkKit
import Derived.Ground.NamesProg
import Derived.Shelf.Small.Strs
import Derived.Shelf.Strings.SlTrimAscii
namespace Go.Proofs.YtfhfahlocpmdkaaDoor
open Go.Shelf Go.RowKit
def Tryd.lays160_ren : Go.Shelf.Ren := ⟨fun | 160 => 62 | 232 => 73 | 231 => 69 | 227 => 70 | 234 => 74 | 233 => 71 | 236 => 75 | 235 => 72 | 228 => 77 | 271 => 80 | 151 => 79 | 197 => 78 | 120 => 83 | 152 => 82 | 260 => 81 | 137 => 56 | 119 => 84 | 224 => 85 | 225 => 86 | 217 => 66 | 266 => 76 | n => n, fun | 9 => 9 | 4 => 4 | 3 => 3 | 5 => 5 | 117 => 117 | 116 => 116 | 0 => 0 | 124 => 120 | 21 => 21 | 105 => 125 | 46 => 130 | 119 => 129 | 139 => 133 | 138 => 132 | n => n, fun | 3 => 2 | 4 => 3 | n => n⟩
theorem Tryd.lays160 : Go.Proofs.Lays.n160 Tryd.prog Tryd.lays160_ren := {
  mixed := by kernel_rfl
  f119 := Tryd.func84.trans (congrArg some (by kernel_rfl))
  f120 := Tryd.func83.trans (congrArg some (by kernel_rfl))
  f137 := Tryd.func56.trans (congrArg some (by kernel_rfl))
  f151 := Tryd.func79.trans (congrArg some (by kernel_rfl))
  f152 := Tryd.func82.trans (congrArg some (by kernel_rfl))
  f160 := Tryd.func62.trans (congrArg some (by kernel_rfl))
  f197 := Tryd.func78.trans (congrArg some (by kernel_rfl))
  f217 := Tryd.func66.trans (congrArg some (by kernel_rfl))
  f224 := Tryd.func85.trans (congrArg some (by kernel_rfl))
  f225 := Tryd.func86.trans (congrArg some (by kernel_rfl))
  f227 := Tryd.func70.trans (congrArg some (by kernel_rfl))
  f228 := Tryd.func77.trans (congrArg some (by kernel_rfl))
  f231 := Tryd.func69.trans (congrArg some (by kernel_rfl))
  f232 := Tryd.func73.trans (congrArg some (by kernel_rfl))
  f233 := Tryd.func71.trans (congrArg some (by kernel_rfl))
  f234 := Tryd.func74.trans (congrArg some (by kernel_rfl))
  f235 := Tryd.func72.trans (congrArg some (by kernel_rfl))
  f236 := Tryd.func75.trans (congrArg some (by kernel_rfl))
  f260 := Tryd.func81.trans (congrArg some (by kernel_rfl))
  f266 := Tryd.func76.trans (congrArg some (by kernel_rfl))
  f271 := Tryd.func80.trans (congrArg some (by kernel_rfl))
  t0 := Tryd.underlying0
  a0 := Tryd.isAgg0
  z0 := Tryd.sizeOf0
  v0 := Tryd.zeroValue0
  t3 := Tryd.underlying3
  a3 := Tryd.isAgg3
  z3 := Tryd.sizeOf3
  v3 := Tryd.zeroValue3
  t4 := Tryd.underlying4
  a4 := Tryd.isAgg4
  z4 := Tryd.sizeOf4
  v4 := Tryd.zeroValue4
  t5 := Tryd.underlying5
  a5 := Tryd.isAgg5
  z5 := Tryd.sizeOf5
  v5 := Tryd.zeroValue5
  t9 := Tryd.underlying9
  a9 := Tryd.isAgg9
  z9 := Tryd.sizeOf9
  v9 := Tryd.zeroValue9
  t21 := Tryd.underlying21
  a21 := Tryd.isAgg21
  z21 := Tryd.sizeOf21
  v21 := Tryd.zeroValue21
  t46 := Tryd.underlying130
  a46 := Tryd.isAgg130
  z46 := Tryd.sizeOf130
  v46 := Tryd.zeroValue130
  t105 := Tryd.underlying125
  a105 := Tryd.isAgg125
  z105 := Tryd.sizeOf125
  v105 := Tryd.zeroValue125
  t116 := Tryd.underlying116
  a116 := Tryd.isAgg116
  z116 := Tryd.sizeOf116
  t117 := Tryd.underlying117
  a117 := Tryd.isAgg117
  z117 := Tryd.sizeOf117
  v117 := Tryd.zeroValue117
  t119 := Tryd.underlying129
  a119 := Tryd.isAgg129
  z119 := Tryd.sizeOf129
  t124 := Tryd.underlying120
  a124 := Tryd.isAgg120
  z124 := Tryd.sizeOf120
  v124 := Tryd.zeroValue120
  t138 := Tryd.underlying132
  a138 := Tryd.isAgg132
  z138 := Tryd.sizeOf132
  v138 := Tryd.zeroValue132
  t139 := Tryd.underlying133
  a139 := Tryd.isAgg133
  z139 := Tryd.sizeOf133
  v139 := Tryd.zeroValue133
  g3 := by kernel_rfl
  g4 := by kernel_rfl }
def Tryd.lays161_ren : Go.Shelf.Ren := ⟨fun | 161 => 61 | 231 => 69 | 227 => 70 | 233 => 71 | 235 => 72 | 228 => 77 | 197 => 78 | 151 => 79 | 260 => 81 | 152 => 82 | 137 => 56 | 119 => 84 | 224 => 85 | 225 => 86 | 217 => 66 | 266 => 76 | n => n, fun | 9 => 9 | 4 => 4 | 3 => 3 | 5 => 5 | 117 => 117 | 116 => 116 | 0 => 0 | 124 => 120 | 105 => 125 | 21 => 21 | 119 => 129 | 46 => 130 | 139 => 133 | 138 => 132 | n => n, fun | 3 => 2 | 4 => 3 | n => n⟩
theorem Tryd.lays161 : Go.Proofs.Lays.n161 Tryd.prog Tryd.lays161_ren := {
  mixed := by kernel_rfl
  f119 := Tryd.func84.trans (congrArg some (by kernel_rfl))
  f137 := Tryd.func56.trans (congrArg some (by kernel_rfl))
  f151 := Tryd.func79.trans (congrArg some (by kernel_rfl))
  f152 := Tryd.func82.trans (congrArg some (by kernel_rfl))
  f161 := Tryd.func61.trans (congrArg some (by kernel_rfl))
  f197 := Tryd.func78.trans (congrArg some (by kernel_rfl))
  f217 := Tryd.func66.trans (congrArg some (by kernel_rfl))
  f224 := Tryd.func85.trans (congrArg some (by kernel_rfl))
  f225 := Tryd.func86.trans (congrArg some (by kernel_rfl))
  f227 := Tryd.func70.trans (congrArg some (by kernel_rfl))
  f228 := Tryd.func77.trans (congrArg some (by kernel_rfl))
  f231 := Tryd.func69.trans (congrArg some (by kernel_rfl))
  f233 := Tryd.func71.trans (congrArg some (by kernel_rfl))
  f235 := Tryd.func72.trans (congrArg some (by kernel_rfl))
  f260 := Tryd.func81.trans (congrArg some (by kernel_rfl))
  f266 := Tryd.func76.trans (congrArg some (by kernel_rfl))
  t0 := Tryd.underlying0
  a0 := Tryd.isAgg0
  z0 := Tryd.sizeOf0
  v0 := Tryd.zeroValue0
  t3 := Tryd.underlying3
  a3 := Tryd.isAgg3
  z3 := Tryd.sizeOf3
  v3 := Tryd.zeroValue3
  t4 := Tryd.underlying4
  a4 := Tryd.isAgg4
  z4 := Tryd.sizeOf4
  v4 := Tryd.zeroValue4
  t5 := Tryd.underlying5
  a5 := Tryd.isAgg5
  z5 := Tryd.sizeOf5
  v5 := Tryd.zeroValue5
  t9 := Tryd.underlying9
  a9 := Tryd.isAgg9
  z9 := Tryd.sizeOf9
  v9 := Tryd.zeroValue9
  t21 := Tryd.underlying21
  a21 := Tryd.isAgg21
  z21 := Tryd.sizeOf21
  v21 := Tryd.zeroValue21
  t46 := Tryd.underlying130
  a46 := Tryd.isAgg130
  z46 := Tryd.sizeOf130
  v46 := Tryd.zeroValue130
  t105 := Tryd.underlying125
  a105 := Tryd.isAgg125
  z105 := Tryd.sizeOf125
  v105 := Tryd.zeroValue125
  t116 := Tryd.underlying116
  a116 := Tryd.isAgg116
  z116 := Tryd.sizeOf116
  t117 := Tryd.underlying117
  a117 := Tryd.isAgg117
  z117 := Tryd.sizeOf117
  v117 := Tryd.zeroValue117
  t119 := Tryd.underlying129
  a119 := Tryd.isAgg129
  z119 := Tryd.sizeOf129
  t124 := Tryd.underlying120
  a124 := Tryd.isAgg120
  z124 := Tryd.sizeOf120
  v124 := Tryd.zeroValue120
  t138 := Tryd.underlying132
  a138 := Tryd.isAgg132
  z138 := Tryd.sizeOf132
  v138 := Tryd.zeroValue132
  t139 := Tryd.underlying133
  a139 := Tryd.isAgg133
  z139 := Tryd.sizeOf133
  v139 := Tryd.zeroValue133
  g3 := by kernel_rfl
  g4 := by kernel_rfl }
def Tryd.lays137_ren : Go.Shelf.Ren := ⟨fun | 137 => 56 | 217 => 66 | 266 => 76 | n => n, fun | 9 => 9 | 5 => 5 | 3 => 3 | n => n, fun | n => n⟩
theorem Tryd.lays137 : Go.Proofs.Lays.n137 Tryd.prog Tryd.lays137_ren := {
  mixed := by kernel_rfl
  f137 := Tryd.func56.trans (congrArg some (by kernel_rfl))
  f217 := Tryd.func66.trans (congrArg some (by kernel_rfl))
  f266 := Tryd.func76.trans (congrArg some (by kernel_rfl))
  t3 := Tryd.underlying3
  a3 := Tryd.isAgg3
  z3 := Tryd.sizeOf3
  v3 := Tryd.zeroValue3
  t5 := Tryd.underlying5
  a5 := Tryd.isAgg5
  z5 := Tryd.sizeOf5
  v5 := Tryd.zeroValue5
  t9 := Tryd.underlying9
  a9 := Tryd.isAgg9
  z9 := Tryd.sizeOf9
  v9 := Tryd.zeroValue9 }

theorem ix_spec : ∀ (l : List UInt8) (c : UInt8), (Lib.indexByte l c = -1 ∧ ∀ b ∈ l, b ≠ c) ∨ (∃ a r, l = a ++ c :: r ∧ Lib.indexByte l c = (a.length : Int) ∧ ∀ b ∈ a, b ≠ c)
  | [], c => .inl ⟨rfl, by simp⟩
  | b :: l, c => by
    by_cases h : b = c
    · subst h
      exact .inr ⟨[], l, rfl, by simp [Lib.indexByte], by simp⟩
    · have hb : (b == c) = false := by simpa using h
      rcases ix_spec l c with ⟨h1, h2⟩ | ⟨a, r, h1, h2, h3⟩
      · refine .inl ⟨by simp [Lib.indexByte, hb, h1], fun x hx => ?_⟩
        rw [List.mem_cons] at hx
        rcases hx with rfl | hx
        · exact h
        · exact h2 x hx
      · refine .inr ⟨b :: a, r, by rw [h1]; rfl, ?_, fun x hx => ?_⟩
        · have hne : ((Lib.indexByte l c) == -1) = false := by rw [h2]; simp
          rw [Lib.indexByte, hb, hne, h2]
          simp
        · rw [List.mem_cons] at hx
          rcases hx with rfl | hx
          · exact h
          · exact h3 x hx
theorem text_ix (l : List UInt8) : (Lib.indexByte l 0 = -1 ∧ Us.text l = l) ∨ (∃ n : Nat, Lib.indexByte l 0 = (n : Int) ∧ n < l.length ∧ Us.text l = l.take n) := by
  have hp : ∀ a : List UInt8, (∀ b ∈ a, b ≠ 0) → ∀ b ∈ a, (b.toNat != 0) = true := by
    intro a h b hb
    have := h b hb
    simp only [bne_iff_ne, ne_eq]
    intro h0
    exact this (UInt8.toNat_inj.1 h0)
  rcases ix_spec l 0 with ⟨h1, h2⟩ | ⟨a, r, h1, h2, h3⟩
  · refine .inl ⟨h1, ?_⟩
    have := List.takeWhile_append_of_pos (l₂ := []) (hp l h2)
    simpa [Us.text] using this
  · refine .inr ⟨a.length, h2, by rw [h1]; simp, ?_⟩
    rw [h1, Us.text, List.takeWhile_append_of_pos (hp a h3)]
    simp
theorem has0_ix (l : List UInt8) : Us.has0 l = decide (0 ≤ Lib.indexByte l 0) := by
  rcases ix_spec l 0 with ⟨h1, h2⟩ | ⟨a, r, h1, h2, h3⟩
  · rw [h1, Us.has0]
    simp only [show decide ((0 : Int) ≤ -1) = false from rfl]
    rw [List.any_eq_false]
    intro b hb
    have := h2 b hb
    simp only [beq_iff_eq]
    intro h0
    exact this (UInt8.toNat_inj.1 h0)
  · rw [h2, h1, Us.has0]
    simp
/-- strings.IndexByte, at a closed byte. -/
theorem index_any (s : ByteArray) (c : UInt8) (w : World) : Calls Tryd.prog 56 #[.string s, .int .u8 (c.toNat : Int)] w fun e w' => e = .returned (.int .i64 (Lib.indexByte (bl s) c)) ∧ w = w' := by
  have h := Any.strings_IndexByte Tryd.lays137 s (c.toNat : Int) w
  refine h.mono fun e w' ⟨h1, h2⟩ => ⟨?_, h2.symm⟩
  rw [h1]
  have : ((c.toNat : Int)).toNat.toUInt8 = c := by simp
  rw [this]; rfl
/-- strings.TrimLeft(s, " "). -/
theorem trimLeft_any (s : ByteArray) (w : World) : Calls Tryd.prog 61 #[.string s, .string ⟨#[32]⟩] w fun e w' => e = .returned (.string (bs ((bl s).dropWhile fun c => c.toNat == 32))) ∧ w = w' := by
  have h := Any.strings_TrimLeft_one Tryd.lays161 s 32 (by decide) w
  refine h.mono fun e w' ⟨h1, h2⟩ => ⟨?_, h2.symm⟩
  rw [h1]
  have : Lib.trimLeftB s.data.toList 32 = (bl s).dropWhile fun c => c.toNat == 32 := by
    unfold Lib.trimLeftB bl
    congr 1
    funext b
    rw [Bool.eq_iff_iff]
    simp only [beq_iff_eq]
    exact ⟨fun h => by rw [h]; rfl, fun h => UInt8.toNat_inj.1 h⟩
  rw [this]; rfl
theorem trimS_nil (l : List UInt8) : (Lib.trimS l [32, 0] = []) ↔ l.all Us.isPad = true := by
  have hc : ∀ b : UInt8, ([32, 0] : List UInt8).contains b = Us.isPad b := by
    intro b
    rw [Bool.eq_iff_iff]
    simp only [Us.isPad, List.contains_cons, List.contains_nil, Bool.or_false, Bool.or_eq_true, beq_iff_eq]
    constructor
    · rintro (h | h)
      · right; rw [h]; rfl
      · left; rw [h]; rfl
    · rintro (h | h)
      · right; exact UInt8.toNat_inj.1 h
      · left; exact UInt8.toNat_inj.1 h
  have hf : (fun b : UInt8 => ([32, 0] : List UInt8).contains b) = Us.isPad := funext hc
  have key : ∀ k : List UInt8, k.dropWhile Us.isPad = [] ↔ k.all Us.isPad = true := by
    intro k
    induction k with
    | nil => simp
    | cons a k ih =>
      rw [List.dropWhile_cons, List.all_cons]
      cases ha : Us.isPad a with
      | true => simpa using ih
      | false => simp
  unfold Lib.trimS Lib.trimLeftS Lib.trimRightS
  rw [hf, key]
  constructor
  · intro h
    rw [List.all_reverse] at h
    cases hx : l.reverse.dropWhile Us.isPad with
    | nil => rw [key, List.all_reverse] at hx; exact hx
    | cons a r =>
      exfalso
      have h1 : Us.isPad a = true := by
        rw [hx] at h
        simp only [List.all_cons, Bool.and_eq_true] at h
        exact h.1
      have h2 := List.head_dropWhile_not Us.isPad (l := l.reverse) (by rw [hx]; simp)
      simp only [hx, List.head_cons] at h2
      rw [h1] at h2
      cases h2
  · intro h
    have : l.reverse.dropWhile Us.isPad = [] := by rw [key, List.all_reverse]; exact h
    rw [this]; rfl
/-- strings.Trim(s, " \x00"): is it empty? -/
theorem trim_any (s : ByteArray) (w : World) (hs : s.size ≤ 9223372036854775807) : Calls Tryd.prog 62 #[.string s, .string ⟨#[32, 0]⟩] w fun e w' => (∃ T, e = .returned (.string (bs T)) ∧ (T = [] ↔ (bl s).all Us.isPad = true)) ∧ Below w.heap.size w w' := by
  have h := Any.strings_Trim_laid Tryd.lays160 (by kernel_rfl) s ⟨#[32, 0]⟩ w hs (by decide) (ascii_of_all (by decide))
  exact h.mono fun e w' ⟨h1, h2⟩ => ⟨⟨_, h1, trimS_nil _⟩, h2⟩
end Go.Proofs.YtfhfahlocpmdkaaDoor
