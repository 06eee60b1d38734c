/- strings.ContainsAny of a pattern's bytes, of any text; glob.Meta, strataref02.Meta, walked. -/
import Derived.Test.YtdjfakampjbgeaaDoorGrM0
import Derived.Test.YtdjfakampjbgeaaDoorGbI
import Derived.Shelf.Abstract
import Derived.Shelf.RegionOpen
import Derived.Shelf.Strings.IndexAnyAll
import Derived.Laws.Runes
import Derived.Laws.RangeString
import Derived.Lib.OthersKept
import Derived.Deep.LoopGhost
import Derived.RegionTactic
import Derived.ChangeAlike
import Derived.Deep.RegionWith
import Derived.BigQuiet
import Derived.Deep.DeepCutAuto
import Derived.WalkMore
namespace Go.Proofs.YtdjfakampjbgeaaDoor
open Go Go.RowKit Go.Shelf
def Tryd.lays150_ren : Go.Shelf.Ren := ⟨fun | 150 => 41 | 153 => 63 | 152 => 86 | 226 => 87 | 227 => 67 | 228 => 88 | 137 => 98 | 119 => 99 | 224 => 100 | 225 => 101 | 217 => 108 | 266 => 110 | n => n, fun | 9 => 9 | 4 => 4 | 3 => 3 | 5 => 5 | 21 => 21 | 117 => 114 | 116 => 113 | 0 => 0 | 46 => 162 | 124 => 117 | n => n, fun | n => n⟩
theorem Tryd.lays150 : Go.Proofs.Lays.n150 Tryd.prog Tryd.lays150_ren := {
  mixed := by kernel_rfl
  f119 := Tryd.func99.trans (congrArg some (by kernel_rfl))
  f137 := Tryd.func98.trans (congrArg some (by kernel_rfl))
  f150 := Tryd.func41.trans (congrArg some (by kernel_rfl))
  f152 := Tryd.func86.trans (congrArg some (by kernel_rfl))
  f153 := Tryd.func63.trans (congrArg some (by kernel_rfl))
  f217 := Tryd.func108.trans (congrArg some (by kernel_rfl))
  f224 := Tryd.func100.trans (congrArg some (by kernel_rfl))
  f225 := Tryd.func101.trans (congrArg some (by kernel_rfl))
  f226 := Tryd.func87.trans (congrArg some (by kernel_rfl))
  f227 := Tryd.func67.trans (congrArg some (by kernel_rfl))
  f228 := Tryd.func88.trans (congrArg some (by kernel_rfl))
  f266 := Tryd.func110.trans (congrArg some (by kernel_rfl))
  t0 := Tryd.underlying0
  a0 := Tryd.isAgg0
  z0 := Tryd.sizeOf0
  v0 := Tryd.zeroValue0
  t3 := Tryd.underlying3
  a3 := Tryd.isAgg3
  z3 := Tryd.sizeOf3
  v3 := Tryd.zeroValue3
  t4 := Tryd.underlying4
  a4 := Tryd.isAgg4
  z4 := Tryd.sizeOf4
  v4 := Tryd.zeroValue4
  t5 := Tryd.underlying5
  a5 := Tryd.isAgg5
  z5 := Tryd.sizeOf5
  v5 := Tryd.zeroValue5
  t9 := Tryd.underlying9
  a9 := Tryd.isAgg9
  z9 := Tryd.sizeOf9
  v9 := Tryd.zeroValue9
  t21 := Tryd.underlying21
  a21 := Tryd.isAgg21
  z21 := Tryd.sizeOf21
  v21 := Tryd.zeroValue21
  t46 := Tryd.underlying162
  a46 := Tryd.isAgg162
  z46 := Tryd.sizeOf162
  v46 := Tryd.zeroValue162
  t116 := Tryd.underlying113
  a116 := Tryd.isAgg113
  z116 := Tryd.sizeOf113
  t117 := Tryd.underlying114
  a117 := Tryd.isAgg114
  z117 := Tryd.sizeOf114
  v117 := Tryd.zeroValue114
  t124 := Tryd.underlying117
  a124 := Tryd.isAgg117
  z124 := Tryd.sizeOf117
  v124 := Tryd.zeroValue117 }

theorem should_any (n : Int) (w : World) : Calls Tryd.prog 87 #[.int .i64 n] w fun e w' => e = .returned (.bool (decide (8 < n))) ∧ w = w' :=
  Calls.mono (Any.strings_shouldUseASCIISet { Tryd.lays150 with } n w) fun _ _ ⟨h1, h2⟩ => ⟨h1, h2.symm⟩
theorem idxByte_any (s : ByteArray) (c : Int) (w : World) : Calls Tryd.prog 98 #[.string s, .int .u8 c] w fun e w' => e = .returned (.int .i64 (Lib.indexByte s.data.toList c.toNat.toUInt8)) ∧ w = w' :=
  Calls.mono (Any.strings_IndexByte { Tryd.lays150 with } s c w) fun _ _ ⟨h1, h2⟩ => ⟨h1, h2.symm⟩
theorem idxRune_low (s : ByteArray) (r : Int) (w : World) (h0 : 0 ≤ r) (h1 : r < 128) : Calls Tryd.prog 86 #[.string s, .int .i32 r] w fun e w' => e = .returned (.int .i64 (Lib.indexByte s.data.toList r.toNat.toUInt8)) ∧ w = w' :=
  Calls.mono (Any.strings_IndexRune_ascii { Tryd.lays150 with } s r w h0 h1) fun _ _ ⟨h1, h2⟩ => ⟨h1, h2.symm⟩
theorem idxByte_high (l : List UInt8) (c : Int) (h1 : 128 ≤ c) (h2 : c < 256) (h : ∀ x ∈ l, x.toNat < 128) : Lib.indexByte l c.toNat.toUInt8 = -1 := by
  have hc : c.toNat.toUInt8.toNat = c.toNat := by
    rw [Nat.toUInt8, UInt8.toNat_ofNat_of_lt' (by simp; omega)]
  induction l with
  | nil => rfl
  | cons b l ih =>
    have hb := h b (List.mem_cons_self ..)
    rw [Lib.indexByte, ih fun x hx => h x (List.mem_cons_of_mem _ hx), if_neg (fun e => by
      have e := beq_iff_eq.1 e
      rw [e] at hb; omega)]
    rfl
set_option maxRecDepth 100000 in
theorem valid_any (r : Nat) (h1 : 128 ≤ r) (h2 : r ≤ 1114111) (h3 : r < 55296 ∨ 57344 ≤ r) (w : World) : Calls Tryd.prog 99 #[.int .i32 (r : Int)] w fun e w' => e = .returned (.bool true) ∧ w = w' := by
  have t0 : decide ((0 : Int) ≤ (r : Int)) = true := by rw [decide_eq_true_eq]; omega
  have t3 : decide ((r : Int) ≤ 1114111) = true := by rw [decide_eq_true_eq]; omega
  rcases h3 with h | h
  · have t1 : decide ((r : Int) < 55296) = true := by rw [decide_eq_true_eq]; omega
    go_enter Tryd.func99, Tryd.ntmps99
    go_wp2_with fail
    go_ret
    exact ⟨rfl, rfl⟩
  · have t1 : decide ((r : Int) < 55296) = false := by rw [decide_eq_false_iff_not]; omega
    have t2 : decide ((57343 : Int) < (r : Int)) = true := by rw [decide_eq_true_eq]; omega
    go_enter Tryd.func99, Tryd.ntmps99
    go_wp2_with fail
    go_ret
    exact ⟨rfl, rfl⟩
set_option maxRecDepth 100000 in
set_option maxHeartbeats 2000000 in
/-- the rune that stands for wrong bytes is not among them. -/
theorem idxRune_bad (w : World) : Calls Tryd.prog 86 #[.string ⟨#[42, 63, 91]⟩, .int .i32 65533] w fun e w' => e = .returned (.int .i64 (-1)) ∧ Below w.heap.size w w' := by
  go_enter Tryd.func86, Tryd.ntmps86
  go_wp2_with fail
  go_loopg [5, 6] 3 (fun g _ _ wr => ∃ i : Nat, i + g = 3 ∧ wr = w.iter ⟨#[42, 63, 91]⟩ i)
  case atStart => exact ⟨0, rfl, rfl⟩
  case round =>
    obtain ⟨i, hi, rfl⟩ := hrel
    rcases (show i = 0 ∨ i = 1 ∨ i = 2 ∨ i = 3 by omega) with rfl | rfl | rfl | rfl
    · have hnx := fun ty => run_next_ascii (P := Tryd.prog) w ⟨#[42, 63, 91]⟩ 0 ty (by decide) (by decide)
      go_wp2_with fail
      go_roundg 2
      case measure => omega
      case rel => exact ⟨1, rfl, rfl⟩
    · have hnx := fun ty => run_next_ascii (P := Tryd.prog) w ⟨#[42, 63, 91]⟩ 1 ty (by decide) (by decide)
      go_wp2_with fail
      go_roundg 1
      case measure => omega
      case rel => exact ⟨2, rfl, rfl⟩
    · have hnx := fun ty => run_next_ascii (P := Tryd.prog) w ⟨#[42, 63, 91]⟩ 2 ty (by decide) (by decide)
      go_wp2_with fail
      go_roundg 0
      case measure => omega
      case rel => exact ⟨3, rfl, rfl⟩
    · have hnx := fun ty => run_next_end (P := Tryd.prog) w ⟨#[42, 63, 91]⟩ 3 ty (by decide)
      go_wp2_with fail
      go_ret
      exact ⟨rfl, (Below.refl _ _).alloc (Nat.le_refl _) _⟩
theorem slice_f (s r : ByteArray) (a : Nat) (ai : Int) (ha : ai = (a : Int)) (has : a ≤ s.size) (hr : s.extract a s.size = r) : ∀ wx, (Instr.slice 9 (.string s) (some (.int .i64 ai)) none none).run Tryd.prog wx = .ok (.string r) wx := by
  subst ha hr
  intro wx
  rw [run_slice_string_l (ht := Tryd.underlying9) (h0 := by omega) (h1 := by omega)]
  simp
theorem idxByte_lit (s : ByteArray) (c : Nat) (h1 : 128 ≤ c) (h2 : c < 256) (h : ∀ x ∈ s.data.toList, x.toNat < 128) (w : World) : Calls Tryd.prog 98 #[.string s, .int .u8 (c : Int)] w fun e w' => e = .returned (.int .i64 (-1)) ∧ w = w' := by
  have := idxByte_any s (c : Int) w
  rwa [idxByte_high _ _ (by omega) (by omega) h] at this
set_option maxRecDepth 100000 in
set_option maxHeartbeats 4000000 in
theorem idxRune_valid (r : Nat) (h1 : 128 ≤ r) (h2 : r ≤ 1114111) (h3 : r < 55296 ∨ 57344 ≤ r) (hne : r ≠ 65533) (w : World) : Calls Tryd.prog 86 #[.string ⟨#[42, 63, 91]⟩, .int .i32 (r : Int)] w fun e w' => e = .returned (.int .i64 (-1)) ∧ Below w.heap.size w w' := by
  obtain ⟨rs, hrs, hsz, hb⟩ := enc_high r h1 h2 h3
  have hv := valid_any r h1 h2 h3
  have t0 : decide ((0 : Int) ≤ (r : Int)) = true := by rw [decide_eq_true_eq]; omega
  have t1 : decide ((r : Int) < 128) = false := by rw [decide_eq_false_iff_not]; omega
  have t2 : ((r : Int) == 65533) = false := by simp; omega
  have hlow : ∀ x ∈ [(91 : UInt8)], x.toNat < 128 := by decide
  have hlow0 : ∀ x ∈ ([] : List UInt8), x.toNat < 128 := by decide
  clear h1 h2 h3 hne
  rcases hsz with hz | hz | hz
  · have l1 : 1 < rs.size := by omega
    have n2 : IntKind.i64.wrap 2 = 2 := rfl
    have hsl := slice_f ⟨#[42, 63, 91]⟩ ⟨#[91]⟩ 2 2 rfl (by decide) (by decide)
    obtain ⟨k1, k2⟩ := hb 1 l1 (by omega)
    have t3 : ((((⟨#[42, 63, 91]⟩ : ByteArray)[1]'(by decide)).toNat : Int) != ((rs[1]'l1).toNat : Int)) = true := by
      show ((63 : Int) != ((rs[1]'l1).toNat : Int)) = true
      simp only [bne_iff_ne, ne_eq]; omega
    clear hb
    go_enter Tryd.func86, Tryd.ntmps86
    go_wp2_with (go_at_call 99; refine (hv _).mono ?_; rintro e w1 ⟨rfl, rfl⟩)
    go_step3
    go_wp2_with fail
    go_loopw [9] (fun t9 wr => t9 = .int .i64 1 ∧ w = wr) (fun _ _ => 0)
    case atStart => exact ⟨rfl, rfl⟩
    case round =>
      obtain ⟨rfl, rfl⟩ := hrel
      go_upto_region 6 with fail
      go_step3
      go_upto_region 6 with fail
      have BX := Below.refl w.heap.size w
      go_cut [33] (fun s33 wx => s33 = .bool true ∧ Below w.heap.size w wx)
      case first =>
        go_quiet (fail)
        go_wp2_with fail
        go_meet
        exact ⟨by first | rfl | exact congrArg Value.bool t3, by first | exact BX | exact below_drewN BX _⟩
      case rest =>
        obtain ⟨rfl, BX⟩ := hcut
        go_upto_region 7 with fail
        go_cut [11] (fun s11 wx => s11 = .int .i64 (-1) ∧ Below w.heap.size w wx)
        case first =>
          go_quiet ((go_at_call 98; exact Calls.quiet_of_same ((idxByte_lit ⟨#[91]⟩ _ k1 k2 hlow _).mono fun _ _ h => ⟨h.1, h.2.symm⟩)))
          go_wp2_with fail
          go_meet
          exact ⟨rfl, by first | exact BX | exact below_drewN BX _⟩
        case rest =>
          obtain ⟨rfl, BX⟩ := hcut
          go_wp2_with fail
          simp only [Exit.noGoto_ret, Exit.inBlock]
          go_wp2_with fail
          (try rw [Exit.noGoto_ret])
          go_ret
          exact ⟨rfl, BX⟩
  · have l1 : 2 < rs.size := by omega
    have n2 : IntKind.i64.wrap 3 = 3 := rfl
    have hsl := slice_f ⟨#[42, 63, 91]⟩ ⟨#[]⟩ 3 3 rfl (by decide) (by decide)
    obtain ⟨k1, k2⟩ := hb 2 l1 (by omega)
    have t3 : ((((⟨#[42, 63, 91]⟩ : ByteArray)[2]'(by decide)).toNat : Int) != ((rs[2]'l1).toNat : Int)) = true := by
      show ((91 : Int) != ((rs[2]'l1).toNat : Int)) = true
      simp only [bne_iff_ne, ne_eq]; omega
    clear hb
    go_enter Tryd.func86, Tryd.ntmps86
    go_wp2_with (go_at_call 99; refine (hv _).mono ?_; rintro e w1 ⟨rfl, rfl⟩)
    go_step3
    go_wp2_with fail
    go_loopw [9] (fun t9 wr => t9 = .int .i64 2 ∧ w = wr) (fun _ _ => 0)
    case atStart => exact ⟨rfl, rfl⟩
    case round =>
      obtain ⟨rfl, rfl⟩ := hrel
      go_upto_region 6 with fail
      go_step3
      go_upto_region 6 with fail
      have BX := Below.refl w.heap.size w
      go_cut [33] (fun s33 wx => s33 = .bool true ∧ Below w.heap.size w wx)
      case first =>
        go_quiet (fail)
        go_wp2_with fail
        go_meet
        exact ⟨by first | rfl | exact congrArg Value.bool t3, by first | exact BX | exact below_drewN BX _⟩
      case rest =>
        obtain ⟨rfl, BX⟩ := hcut
        go_upto_region 7 with fail
        go_cut [11] (fun s11 wx => s11 = .int .i64 (-1) ∧ Below w.heap.size w wx)
        case first =>
          go_quiet ((go_at_call 98; exact Calls.quiet_of_same ((idxByte_lit ⟨#[]⟩ _ k1 k2 hlow0 _).mono fun _ _ h => ⟨h.1, h.2.symm⟩)))
          go_wp2_with fail
          go_meet
          exact ⟨rfl, by first | exact BX | exact below_drewN BX _⟩
        case rest =>
          obtain ⟨rfl, BX⟩ := hcut
          go_wp2_with fail
          simp only [Exit.noGoto_ret, Exit.inBlock]
          go_wp2_with fail
          (try rw [Exit.noGoto_ret])
          go_ret
          exact ⟨rfl, BX⟩
  · clear hb
    go_enter Tryd.func86, Tryd.ntmps86
    go_wp2_with (go_at_call 99; refine (hv _).mono ?_; rintro e w1 ⟨rfl, rfl⟩)
    go_step3
    go_wp2_with fail
    go_loopw [9] (fun t9 wr => t9 = .int .i64 3 ∧ w = wr) (fun _ _ => 0)
    case atStart => exact ⟨rfl, rfl⟩
    case round =>
      obtain ⟨rfl, rfl⟩ := hrel
      go_wp2_with fail
      rw [Exit.noGoto_ret]
      go_ret
      exact ⟨rfl, Below.refl _ _⟩
theorem idxRune_high (r : Nat) (h1 : 128 ≤ r) (h2 : r ≤ 1114111) (h3 : r < 55296 ∨ 57344 ≤ r) (w : World) : Calls Tryd.prog 86 #[.string ⟨#[42, 63, 91]⟩, .int .i32 (r : Int)] w fun e w' => e = .returned (.int .i64 (-1)) ∧ Below w.heap.size w w' := by
  by_cases h : r = 65533
  · subst h
    exact idxRune_bad w
  · exact idxRune_valid r h1 h2 h3 h w
end Go.Proofs.YtdjfakampjbgeaaDoor
