/- What a pattern's text is told by; runes of bytes that are no ASCII. Plain. -/
import Derived.Test.YtdjfakampjbgeaaGreatDoorGbD
import Derived.Laws.RangeAny
import Derived.Laws.Runes
import Derived.Lib.IndexAny
import Derived.Test.YtdjfakampjbgeaaGreatDoorMC
import Derived.Shelf.Abstract
import Derived.Shelf.RegionOpen
import Derived.Shelf.Strings.IndexAnyAll
import Derived.Laws.RangeString
import Derived.Lib.OthersKept
import Derived.Deep.LoopGhost
import Derived.RegionTactic
import Derived.ChangeAlike
import Derived.Deep.RegionWith
import Derived.BigQuiet
import Derived.Deep.DeepCutAuto
import Derived.WalkMore
namespace Go.Proofs.YtdjfakampjbgeaaGreatDoor
open Go
namespace Gl
/-- has a text a byte of a pattern? -/
def metaL (s : List UInt8) : Bool := s.any fun c => c == 42 || c == 63 || c == 91
end Gl
theorem dec_high (s : ByteArray) (pos : Nat) (h : pos < s.size) (ha : 128 ≤ (s[pos]'h).toNat) :
    128 ≤ (Utf8.decode s pos).1 ∧ (Utf8.decode s pos).1 ≤ 1114111 ∧ ((Utf8.decode s pos).1 < 55296 ∨ 57344 ≤ (Utf8.decode s pos).1) ∧ 1 ≤ (Utf8.decode s pos).2 ∧ ∀ j, j < (Utf8.decode s pos).2 → pos + j < s.size ∧ 128 ≤ (s.get! (pos + j)).toNat := by
  have hn : ¬ (s[pos]'h).toNat < 128 := by omega
  have h0 := get_at s pos h
  have hb : ∀ k, (s.get! (pos + k)).toNat < 256 := fun k => (s.get! (pos + k)).toNat_lt
  have h1 := hb 1; have h2 := hb 2; have h3 := hb 3
  have h00 : 128 ≤ (s.get! (pos + 0)).toNat := by rw [h0]; exact ha
  have one : ∀ j, j < 1 → pos + j < s.size ∧ 128 ≤ (s.get! (pos + j)).toNat := fun j hj => by
    obtain rfl : j = 0 := by omega
    exact ⟨h, h00⟩
  have c1 : ∀ k, (decide (pos + k < s.size) && (s.get! (pos + k)).toNat / 64 == 2) = true → pos + k < s.size ∧ 128 ≤ (s.get! (pos + k)).toNat := fun k hk => by
    rw [Bool.and_eq_true, decide_eq_true_eq, beq_iff_eq] at hk
    exact ⟨hk.1, by omega⟩
  have hbyte : (s[pos]'h).toNat < 256 := (s[pos]'h).toNat_lt
  simp only [Utf8.decode, h0, hn, if_false]
  split
  · next hc =>
    rw [Bool.and_eq_true] at hc
    have k1 := c1 1 hc.2
    have := beq_iff_eq.1 hc.1
    split
    · refine ⟨by omega, by omega, by omega, by omega, fun j hj => ?_⟩
      rcases (show j = 0 ∨ j = 1 by omega) with rfl | rfl
      · exact ⟨h, h00⟩
      · exact k1
    · exact ⟨by decide, by decide, by decide, by decide, one⟩
  · split
    · next hc =>
      rw [Bool.and_eq_true, Bool.and_eq_true] at hc
      have k1 := c1 1 hc.1.2
      have k2 := c1 2 hc.2
      have := beq_iff_eq.1 hc.1.1
      split
      · next hv =>
        rw [Bool.and_eq_true] at hv
        have hv2 := hv.2
        simp only [Utf8.valid, Bool.or_eq_true, Bool.and_eq_true, decide_eq_true_eq] at hv2
        refine ⟨by have := of_decide_eq_true hv.1; omega, by omega, by omega, by omega, fun j hj => ?_⟩
        rcases (show j = 0 ∨ j = 1 ∨ j = 2 by omega) with rfl | rfl | rfl
        · exact ⟨h, h00⟩
        · exact k1
        · exact k2
      · exact ⟨by decide, by decide, by decide, by decide, one⟩
    · split
      · next hc =>
        rw [Bool.and_eq_true, Bool.and_eq_true, Bool.and_eq_true] at hc
        have k1 := c1 1 hc.1.1.2
        have k2 := c1 2 hc.1.2
        have k3 := c1 3 hc.2
        split
        · next hv =>
          rw [Bool.and_eq_true] at hv
          have hv2 := hv.2
          simp only [Utf8.valid, Bool.or_eq_true, Bool.and_eq_true, decide_eq_true_eq] at hv2
          refine ⟨by have := of_decide_eq_true hv.1; omega, by omega, by omega, by omega, fun j hj => ?_⟩
          rcases (show j = 0 ∨ j = 1 ∨ j = 2 ∨ j = 3 by omega) with rfl | rfl | rfl | rfl
          · exact ⟨h, h00⟩
          · exact k1
          · exact k2
          · exact k3
        · exact ⟨by decide, by decide, by decide, by decide, one⟩
      · exact ⟨by decide, by decide, by decide, by decide, one⟩
/-- a rune beyond ASCII: its bytes are beyond ASCII. -/
theorem enc_high (r : Nat) (h1 : 128 ≤ r) (h2 : r ≤ 1114111) (h3 : r < 55296 ∨ 57344 ≤ r) : ∃ rs : ByteArray, Utf8.encode (r : Int) = rs ∧ (rs.size = 2 ∨ rs.size = 3 ∨ rs.size = 4) ∧ ∀ (n : Nat) (h : n < rs.size), n + 1 = rs.size → 128 ≤ (rs[n]'h).toNat ∧ (rs[n]'h).toNat < 256 := by
  have hv : Utf8.valid (r : Int) = true := by
    simp only [Utf8.valid, Bool.or_eq_true, Bool.and_eq_true, decide_eq_true_eq]; omega
  have q := encode_facts (r : Int) hv (by omega)
  obtain ⟨rs, hrs⟩ : ∃ rs, Utf8.encode (r : Int) = rs := ⟨_, rfl⟩
  rw [hrs] at q
  obtain ⟨a, b, c⟩ := q
  refine ⟨rs, hrs, by omega, fun n h e => ?_⟩
  obtain rfl : n = rs.size - 1 := by omega
  exact ⟨c h, UInt8.toNat_lt _⟩
end Go.Proofs.YtdjfakampjbgeaaGreatDoor
/- strings.ContainsAny of a pattern's bytes, of any text; glob.Meta, strataref02.Meta, walked. -/
namespace Go.Proofs.YtdjfakampjbgeaaGreatDoor
open Go Go.RowKit Go.Shelf
def Tryz.lays150_ren : Go.Shelf.Ren := ⟨fun | 150 => 60 | 153 => 84 | 152 => 90 | 226 => 100 | 227 => 45 | 228 => 72 | 137 => 105 | 119 => 106 | 224 => 103 | 225 => 102 | 217 => 101 | 266 => 109 | n => n, fun | 9 => 9 | 4 => 4 | 3 => 3 | 5 => 5 | 21 => 21 | 117 => 85 | 116 => 84 | 0 => 0 | 46 => 150 | 124 => 88 | n => n, fun | n => n⟩
theorem Tryz.lays150 : Go.Proofs.Lays.n150 Tryz.prog Tryz.lays150_ren := {
  mixed := by kernel_rfl
  f119 := Tryz.func106.trans (congrArg some (by kernel_rfl))
  f137 := Tryz.func105.trans (congrArg some (by kernel_rfl))
  f150 := Tryz.func60.trans (congrArg some (by kernel_rfl))
  f152 := Tryz.func90.trans (congrArg some (by kernel_rfl))
  f153 := Tryz.func84.trans (congrArg some (by kernel_rfl))
  f217 := Tryz.func101.trans (congrArg some (by kernel_rfl))
  f224 := Tryz.func103.trans (congrArg some (by kernel_rfl))
  f225 := Tryz.func102.trans (congrArg some (by kernel_rfl))
  f226 := Tryz.func100.trans (congrArg some (by kernel_rfl))
  f227 := Tryz.func45.trans (congrArg some (by kernel_rfl))
  f228 := Tryz.func72.trans (congrArg some (by kernel_rfl))
  f266 := Tryz.func109.trans (congrArg some (by kernel_rfl))
  t0 := Tryz.underlying0
  a0 := Tryz.isAgg0
  z0 := Tryz.sizeOf0
  v0 := Tryz.zeroValue0
  t3 := Tryz.underlying3
  a3 := Tryz.isAgg3
  z3 := Tryz.sizeOf3
  v3 := Tryz.zeroValue3
  t4 := Tryz.underlying4
  a4 := Tryz.isAgg4
  z4 := Tryz.sizeOf4
  v4 := Tryz.zeroValue4
  t5 := Tryz.underlying5
  a5 := Tryz.isAgg5
  z5 := Tryz.sizeOf5
  v5 := Tryz.zeroValue5
  t9 := Tryz.underlying9
  a9 := Tryz.isAgg9
  z9 := Tryz.sizeOf9
  v9 := Tryz.zeroValue9
  t21 := Tryz.underlying21
  a21 := Tryz.isAgg21
  z21 := Tryz.sizeOf21
  v21 := Tryz.zeroValue21
  t46 := Tryz.underlying150
  a46 := Tryz.isAgg150
  z46 := Tryz.sizeOf150
  v46 := Tryz.zeroValue150
  t116 := Tryz.underlying84
  a116 := Tryz.isAgg84
  z116 := Tryz.sizeOf84
  t117 := Tryz.underlying85
  a117 := Tryz.isAgg85
  z117 := Tryz.sizeOf85
  v117 := Tryz.zeroValue85
  t124 := Tryz.underlying88
  a124 := Tryz.isAgg88
  z124 := Tryz.sizeOf88
  v124 := Tryz.zeroValue88 }

theorem should_any (n : Int) (w : World) : Calls Tryz.prog 100 #[.int .i64 n] w fun e w' => e = .returned (.bool (decide (8 < n))) ∧ w = w' :=
  Calls.mono (Any.strings_shouldUseASCIISet { Tryz.lays150 with } n w) fun _ _ ⟨h1, h2⟩ => ⟨h1, h2.symm⟩
theorem idxByte_any (s : ByteArray) (c : Int) (w : World) : Calls Tryz.prog 105 #[.string s, .int .u8 c] w fun e w' => e = .returned (.int .i64 (Lib.indexByte s.data.toList c.toNat.toUInt8)) ∧ w = w' :=
  Calls.mono (Any.strings_IndexByte { Tryz.lays150 with } s c w) fun _ _ ⟨h1, h2⟩ => ⟨h1, h2.symm⟩
theorem idxRune_low (s : ByteArray) (r : Int) (w : World) (h0 : 0 ≤ r) (h1 : r < 128) : Calls Tryz.prog 90 #[.string s, .int .i32 r] w fun e w' => e = .returned (.int .i64 (Lib.indexByte s.data.toList r.toNat.toUInt8)) ∧ w = w' :=
  Calls.mono (Any.strings_IndexRune_ascii { Tryz.lays150 with } s r w h0 h1) fun _ _ ⟨h1, h2⟩ => ⟨h1, h2.symm⟩
theorem idxByte_high (l : List UInt8) (c : Int) (h1 : 128 ≤ c) (h2 : c < 256) (h : ∀ x ∈ l, x.toNat < 128) : Lib.indexByte l c.toNat.toUInt8 = -1 := by
  have hc : c.toNat.toUInt8.toNat = c.toNat := by
    rw [Nat.toUInt8, UInt8.toNat_ofNat_of_lt' (by simp; omega)]
  induction l with
  | nil => rfl
  | cons b l ih =>
    have hb := h b (List.mem_cons_self ..)
    rw [Lib.indexByte, ih fun x hx => h x (List.mem_cons_of_mem _ hx), if_neg (fun e => by
      have e := beq_iff_eq.1 e
      rw [e] at hb; omega)]
    rfl
set_option maxRecDepth 100000 in
theorem valid_any (r : Nat) (h1 : 128 ≤ r) (h2 : r ≤ 1114111) (h3 : r < 55296 ∨ 57344 ≤ r) (w : World) : Calls Tryz.prog 106 #[.int .i32 (r : Int)] w fun e w' => e = .returned (.bool true) ∧ w = w' := by
  have t0 : decide ((0 : Int) ≤ (r : Int)) = true := by rw [decide_eq_true_eq]; omega
  have t3 : decide ((r : Int) ≤ 1114111) = true := by rw [decide_eq_true_eq]; omega
  rcases h3 with h | h
  · have t1 : decide ((r : Int) < 55296) = true := by rw [decide_eq_true_eq]; omega
    go_enter Tryz.func106, Tryz.ntmps106
    go_wp2_with fail
    go_ret
    exact ⟨rfl, rfl⟩
  · have t1 : decide ((r : Int) < 55296) = false := by rw [decide_eq_false_iff_not]; omega
    have t2 : decide ((57343 : Int) < (r : Int)) = true := by rw [decide_eq_true_eq]; omega
    go_enter Tryz.func106, Tryz.ntmps106
    go_wp2_with fail
    go_ret
    exact ⟨rfl, rfl⟩
set_option maxRecDepth 100000 in
set_option maxHeartbeats 2000000 in
/-- the rune that stands for wrong bytes is not among them. -/
theorem idxRune_bad (w : World) : Calls Tryz.prog 90 #[.string ⟨#[42, 63, 91]⟩, .int .i32 65533] w fun e w' => e = .returned (.int .i64 (-1)) ∧ Below w.heap.size w w' := by
  go_enter Tryz.func90, Tryz.ntmps90
  go_wp2_with fail
  go_loopg [5, 6] 3 (fun g _ _ wr => ∃ i : Nat, i + g = 3 ∧ wr = w.iter ⟨#[42, 63, 91]⟩ i)
  case atStart => exact ⟨0, rfl, rfl⟩
  case round =>
    obtain ⟨i, hi, rfl⟩ := hrel
    rcases (show i = 0 ∨ i = 1 ∨ i = 2 ∨ i = 3 by omega) with rfl | rfl | rfl | rfl
    · have hnx := fun ty => run_next_ascii (P := Tryz.prog) w ⟨#[42, 63, 91]⟩ 0 ty (by decide) (by decide)
      go_wp2_with fail
      go_roundg 2
      case measure => omega
      case rel => exact ⟨1, rfl, rfl⟩
    · have hnx := fun ty => run_next_ascii (P := Tryz.prog) w ⟨#[42, 63, 91]⟩ 1 ty (by decide) (by decide)
      go_wp2_with fail
      go_roundg 1
      case measure => omega
      case rel => exact ⟨2, rfl, rfl⟩
    · have hnx := fun ty => run_next_ascii (P := Tryz.prog) w ⟨#[42, 63, 91]⟩ 2 ty (by decide) (by decide)
      go_wp2_with fail
      go_roundg 0
      case measure => omega
      case rel => exact ⟨3, rfl, rfl⟩
    · have hnx := fun ty => run_next_end (P := Tryz.prog) w ⟨#[42, 63, 91]⟩ 3 ty (by decide)
      go_wp2_with fail
      go_ret
      exact ⟨rfl, (Below.refl _ _).alloc (Nat.le_refl _) _⟩
theorem slice_f (s r : ByteArray) (a : Nat) (ai : Int) (ha : ai = (a : Int)) (has : a ≤ s.size) (hr : s.extract a s.size = r) : ∀ wx, (Instr.slice 9 (.string s) (some (.int .i64 ai)) none none).run Tryz.prog wx = .ok (.string r) wx := by
  subst ha hr
  intro wx
  rw [run_slice_string_l (ht := Tryz.underlying9) (h0 := by omega) (h1 := by omega)]
  simp
theorem idxByte_lit (s : ByteArray) (c : Nat) (h1 : 128 ≤ c) (h2 : c < 256) (h : ∀ x ∈ s.data.toList, x.toNat < 128) (w : World) : Calls Tryz.prog 105 #[.string s, .int .u8 (c : Int)] w fun e w' => e = .returned (.int .i64 (-1)) ∧ w = w' := by
  have := idxByte_any s (c : Int) w
  rwa [idxByte_high _ _ (by omega) (by omega) h] at this
set_option maxRecDepth 100000 in
set_option maxHeartbeats 4000000 in
theorem idxRune_valid (r : Nat) (h1 : 128 ≤ r) (h2 : r ≤ 1114111) (h3 : r < 55296 ∨ 57344 ≤ r) (hne : r ≠ 65533) (w : World) : Calls Tryz.prog 90 #[.string ⟨#[42, 63, 91]⟩, .int .i32 (r : Int)] w fun e w' => e = .returned (.int .i64 (-1)) ∧ Below w.heap.size w w' := by
  obtain ⟨rs, hrs, hsz, hb⟩ := enc_high r h1 h2 h3
  have hv := valid_any r h1 h2 h3
  have t0 : decide ((0 : Int) ≤ (r : Int)) = true := by rw [decide_eq_true_eq]; omega
  have t1 : decide ((r : Int) < 128) = false := by rw [decide_eq_false_iff_not]; omega
  have t2 : ((r : Int) == 65533) = false := by simp; omega
  have hlow : ∀ x ∈ [(91 : UInt8)], x.toNat < 128 := by decide
  have hlow0 : ∀ x ∈ ([] : List UInt8), x.toNat < 128 := by decide
  clear h1 h2 h3 hne
  rcases hsz with hz | hz | hz
  · have l1 : 1 < rs.size := by omega
    have n2 : IntKind.i64.wrap 2 = 2 := rfl
    have hsl := slice_f ⟨#[42, 63, 91]⟩ ⟨#[91]⟩ 2 2 rfl (by decide) (by decide)
    obtain ⟨k1, k2⟩ := hb 1 l1 (by omega)
    have t3 : ((((⟨#[42, 63, 91]⟩ : ByteArray)[1]'(by decide)).toNat : Int) != ((rs[1]'l1).toNat : Int)) = true := by
      show ((63 : Int) != ((rs[1]'l1).toNat : Int)) = true
      simp only [bne_iff_ne, ne_eq]; omega
    clear hb
    go_enter Tryz.func90, Tryz.ntmps90
    go_wp2_with (go_at_call 106; refine (hv _).mono ?_; rintro e w1 ⟨rfl, rfl⟩)
    go_step3
    go_wp2_with fail
    go_loopw [9] (fun t9 wr => t9 = .int .i64 1 ∧ w = wr) (fun _ _ => 0)
    case atStart => exact ⟨rfl, rfl⟩
    case round =>
      obtain ⟨rfl, rfl⟩ := hrel
      go_upto_region 6 with fail
      go_step3
      go_upto_region 6 with fail
      have BX := Below.refl w.heap.size w
      go_cut [33] (fun s33 wx => s33 = .bool true ∧ Below w.heap.size w wx)
      case first =>
        go_quiet (fail)
        go_wp2_with fail
        go_meet
        exact ⟨by first | rfl | exact congrArg Value.bool t3, by first | exact BX | exact below_drewN BX _⟩
      case rest =>
        obtain ⟨rfl, BX⟩ := hcut
        go_upto_region 7 with fail
        go_cut [11] (fun s11 wx => s11 = .int .i64 (-1) ∧ Below w.heap.size w wx)
        case first =>
          go_quiet ((go_at_call 105; exact Calls.quiet_of_same ((idxByte_lit ⟨#[91]⟩ _ k1 k2 hlow _).mono fun _ _ h => ⟨h.1, h.2.symm⟩)))
          go_wp2_with fail
          go_meet
          exact ⟨rfl, by first | exact BX | exact below_drewN BX _⟩
        case rest =>
          obtain ⟨rfl, BX⟩ := hcut
          go_wp2_with fail
          simp only [Exit.noGoto_ret, Exit.inBlock]
          go_wp2_with fail
          (try rw [Exit.noGoto_ret])
          go_ret
          exact ⟨rfl, BX⟩
  · have l1 : 2 < rs.size := by omega
    have n2 : IntKind.i64.wrap 3 = 3 := rfl
    have hsl := slice_f ⟨#[42, 63, 91]⟩ ⟨#[]⟩ 3 3 rfl (by decide) (by decide)
    obtain ⟨k1, k2⟩ := hb 2 l1 (by omega)
    have t3 : ((((⟨#[42, 63, 91]⟩ : ByteArray)[2]'(by decide)).toNat : Int) != ((rs[2]'l1).toNat : Int)) = true := by
      show ((91 : Int) != ((rs[2]'l1).toNat : Int)) = true
      simp only [bne_iff_ne, ne_eq]; omega
    clear hb
    go_enter Tryz.func90, Tryz.ntmps90
    go_wp2_with (go_at_call 106; refine (hv _).mono ?_; rintro e w1 ⟨rfl, rfl⟩)
    go_step3
    go_wp2_with fail
    go_loopw [9] (fun t9 wr => t9 = .int .i64 2 ∧ w = wr) (fun _ _ => 0)
    case atStart => exact ⟨rfl, rfl⟩
    case round =>
      obtain ⟨rfl, rfl⟩ := hrel
      go_upto_region 6 with fail
      go_step3
      go_upto_region 6 with fail
      have BX := Below.refl w.heap.size w
      go_cut [33] (fun s33 wx => s33 = .bool true ∧ Below w.heap.size w wx)
      case first =>
        go_quiet (fail)
        go_wp2_with fail
        go_meet
        exact ⟨by first | rfl | exact congrArg Value.bool t3, by first | exact BX | exact below_drewN BX _⟩
      case rest =>
        obtain ⟨rfl, BX⟩ := hcut
        go_upto_region 7 with fail
        go_cut [11] (fun s11 wx => s11 = .int .i64 (-1) ∧ Below w.heap.size w wx)
        case first =>
          go_quiet ((go_at_call 105; exact Calls.quiet_of_same ((idxByte_lit ⟨#[]⟩ _ k1 k2 hlow0 _).mono fun _ _ h => ⟨h.1, h.2.symm⟩)))
          go_wp2_with fail
          go_meet
          exact ⟨rfl, by first | exact BX | exact below_drewN BX _⟩
        case rest =>
          obtain ⟨rfl, BX⟩ := hcut
          go_wp2_with fail
          simp only [Exit.noGoto_ret, Exit.inBlock]
          go_wp2_with fail
          (try rw [Exit.noGoto_ret])
          go_ret
          exact ⟨rfl, BX⟩
  · clear hb
    go_enter Tryz.func90, Tryz.ntmps90
    go_wp2_with (go_at_call 106; refine (hv _).mono ?_; rintro e w1 ⟨rfl, rfl⟩)
    go_step3
    go_wp2_with fail
    go_loopw [9] (fun t9 wr => t9 = .int .i64 3 ∧ w = wr) (fun _ _ => 0)
    case atStart => exact ⟨rfl, rfl⟩
    case round =>
      obtain ⟨rfl, rfl⟩ := hrel
      go_wp2_with fail
      rw [Exit.noGoto_ret]
      go_ret
      exact ⟨rfl, Below.refl _ _⟩
theorem idxRune_high (r : Nat) (h1 : 128 ≤ r) (h2 : r ≤ 1114111) (h3 : r < 55296 ∨ 57344 ≤ r) (w : World) : Calls Tryz.prog 90 #[.string ⟨#[42, 63, 91]⟩, .int .i32 (r : Int)] w fun e w' => e = .returned (.int .i64 (-1)) ∧ Below w.heap.size w w' := by
  by_cases h : r = 65533
  · subst h
    exact idxRune_bad w
  · exact idxRune_valid r h1 h2 h3 h w
end Go.Proofs.YtdjfakampjbgeaaGreatDoor
/- strings.IndexAny, ContainsAny of a pattern's bytes; glob.Meta, strataref02.Meta, walked. -/
namespace Go.Proofs.YtdjfakampjbgeaaGreatDoor
open Go Go.RowKit Go.Shelf

theorem noAny_high {s : ByteArray} {i K : Nat} (h : Lib.NoAny s.data.toList [42, 63, 91] i) (hk : ∀ j, j < K → i + j < s.size ∧ 128 ≤ (s.get! (i + j)).toNat) : Lib.NoAny s.data.toList [42, 63, 91] (i + K) := fun j b hj hb => by
  by_cases e : j < i
  · exact h j b e hb
  · obtain ⟨m, rfl⟩ : ∃ m, j = i + m := ⟨j - i, by omega⟩
    obtain ⟨h1, h2⟩ := hk m (by omega)
    have e1 := Lib.data_getElem? s (i + m) h1
    rw [hb] at e1
    injection e1 with e1
    have e2 := get_at s (i + m) h1
    rw [Nat.add_zero, ← e1] at e2
    rw [e2] at h2
    have n1 : b ≠ 42 := fun e => by rw [e] at h2; exact absurd h2 (by decide)
    have n2 : b ≠ 63 := fun e => by rw [e] at h2; exact absurd h2 (by decide)
    have n3 : b ≠ 91 := fun e => by rw [e] at h2; exact absurd h2 (by decide)
    simp [n1, n2, n3]
set_option maxRecDepth 100000 in
set_option maxHeartbeats 4000000 in
theorem idxAny_short (s : ByteArray) (h8 : s.size ≤ 8) (w : World) : Calls Tryz.prog 84 #[.string s, .string ⟨#[42, 63, 91]⟩] w fun e w' => e = .returned (.int .i64 (Lib.indexAny s.data.toList [42, 63, 91])) ∧ Below w.heap.size w w' := by
  have h8z : decide ((8 : Int) < (s.size : Int)) = false := decide_eq_false (by omega)
  go_enter Tryz.func84, Tryz.ntmps84
  go_wp2_with (go_at_call 100; refine (should_any _ _).mono ?_; rintro e w' ⟨rfl, rfl⟩; rw [h8z])
  go_loopg [9, 10] s.size (fun g _ _ wr => ∃ i : Nat, i ≤ s.size ∧ s.size ≤ i + g ∧ wr.heap[w.heap.size]? = some (.stringIter s i) ∧ Below w.heap.size w wr ∧ Lib.NoAny s.data.toList [42, 63, 91] i)
  case atStart => exact ⟨0, by omega, by omega, World.iter_heap w s 0, (Below.refl _ _).alloc (Nat.le_refl _) _, Lib.NoAny.zero _ _⟩
  case round =>
    obtain ⟨i, hi, hig, hit, hB, hno⟩ := hrel
    have HN := Lib.hid hno
    clear hno
    rcases Nat.lt_or_ge i s.size with hlt | hge
    · obtain ⟨g', rfl⟩ : ∃ g', gk = g' + 1 := ⟨gk - 1, by omega⟩
      by_cases ha : (s[i]).toNat < 128
      · have hnx := fun ty => Lib.run_next_ascii_at (P := Tryz.prog) wr w.heap.size s i ty hit hlt ha
        have hit2 := Lib.iterAt_heap wr w.heap.size s i (i + 1) hit
        have hB2 := Lib.below_iterAt hB (k := w.heap.size) (Nat.le_refl _) s (i + 1)
        obtain ⟨x, hx⟩ : ∃ x : UInt8, s[i]'hlt = x := ⟨_, rfl⟩
        have hxl : Hid (s.data.toList[i]? = some x) := by show _ = _; rw [← hx]; exact Lib.data_getElem? s i hlt
        rw [hx] at hnx ha
        have hcon := Lib.contains_iff_indexByte [42, 63, 91] x
        have hback : ((x.toNat : Int)).toNat.toUInt8 = x := by simp
        obtain ⟨W, hW⟩ : ∃ W, wr.iterAt w.heap.size s (i + 1) = W := ⟨_, rfl⟩
        rw [hW] at hnx hit2 hB2
        clear hx hit hB hW
        obtain ⟨m, hm⟩ : ∃ m, Lib.indexByte [42, 63, 91] x = m := ⟨_, rfl⟩
        have hlow := idxRune_low ⟨#[42, 63, 91]⟩ (x.toNat : Int) W (by omega) (by omega)
        rw [hback, show (⟨#[42, 63, 91]⟩ : ByteArray).data.toList = [42, 63, 91] from rfl, hm] at hlow
        rw [hm] at hcon
        clear hm hback
        cases hin : ([42, 63, 91] : List UInt8).contains x
        · rw [hin] at hcon
          have hnn : decide ((0 : Int) ≤ m) = false := hcon.symm
          have HIN := Lib.hid (HN.out.succ hxl.out hin)
          clear hcon hin HN
          go_wp2_with (go_at_call 90; refine hlow.mono ?_; rintro e w' ⟨rfl, rfl⟩)
          go_roundg g'
          case measure => omega
          case rel => exact ⟨i + 1, by omega, by omega, hit2, hB2, HIN.out⟩
        · rw [hin] at hcon
          have hnn : decide ((0 : Int) ≤ m) = true := hcon.symm
          have HIN := Lib.hid (Lib.indexAny_hit HN.out hxl.out hin)
          clear hcon hin HN
          go_wp2_with (go_at_call 90; refine hlow.mono ?_; rintro e w' ⟨rfl, rfl⟩)
          go_ret
          exact ⟨by rw [HIN.out]; rfl, hB2⟩
      · have hnx := fun ty => Lib.run_next_any_at (P := Tryz.prog) wr w.heap.size s i ty hit hlt
        obtain ⟨d1, d2, d3, d4, d5⟩ := dec_high s i hlt (by omega)
        have HIN := Lib.hid (noAny_high HN.out d5)
        have hlast : i + (Utf8.decode s i).2 ≤ s.size := by
          have := d5 ((Utf8.decode s i).2 - 1) (by omega)
          omega
        clear d5 HN
        obtain ⟨R, hR⟩ : ∃ R, (Utf8.decode s i).1 = R := ⟨_, rfl⟩
        obtain ⟨K, hK⟩ : ∃ K, (Utf8.decode s i).2 = K := ⟨_, rfl⟩
        rw [hR] at d1 d2 d3
        rw [hK] at d4 hlast HIN
        rw [hR, hK] at hnx
        clear hR hK
        have hit2 := Lib.iterAt_heap wr w.heap.size s i (i + K) hit
        have hB2 := Lib.below_iterAt hB (k := w.heap.size) (Nat.le_refl _) s (i + K)
        have hszW := Lib.iterAt_size wr w.heap.size s (i + K)
        have hwr : w.heap.size < wr.heap.size := (Array.getElem?_eq_some_iff.1 hit).1
        obtain ⟨W, hW⟩ : ∃ W, wr.iterAt w.heap.size s (i + K) = W := ⟨_, rfl⟩
        rw [hW] at hnx hit2 hB2 hszW
        have hlW : w.heap.size < W.heap.size := by omega
        clear hit hB hW hszW hwr ha
        have hhi := idxRune_high R d1 d2 d3 W
        go_wp2_with (go_at_call 90; refine hhi.mono ?_; rintro e w9 ⟨rfl, hb9⟩; have hit9 := (hb9.block _ hlW).trans hit2; have hB9 := below_of_below hB2 hb9 hB2.size)
        go_roundg g'
        case measure => omega
        case rel => exact ⟨i + K, hlast, by omega, hit9, hB9, HIN.out⟩
    · have hnx := fun ty => Lib.run_next_end_at (P := Tryz.prog) wr w.heap.size s i ty hit (by omega)
      have HIN := Lib.hid (Lib.indexAny_none (by rw [← Lib.size_eq, show s.size = i by omega]; exact HN.out))
      clear HN
      go_wp2_with fail
      go_ret
      exact ⟨by rw [HIN.out]; rfl, hB⟩
theorem idxAny_any (s : ByteArray) (hs : s.size ≤ 2000000) (w : World) : Calls Tryz.prog 84 #[.string s, .string ⟨#[42, 63, 91]⟩] w fun e w' => e = .returned (.int .i64 (Lib.indexAny s.data.toList [42, 63, 91])) ∧ Below w.heap.size w w' := by
  by_cases h8 : s.size ≤ 8
  · exact idxAny_short s h8 w
  · have h116 : (Tryz.prog.info? (Tryz.lays150_ren.t 116)).map (fun i => (i.zero, i.size)) = some (some (.agg (Array.replicate 256 (.bool false))), 256) := by kernel_rfl
    refine Calls.mono (Any.strings_IndexAny_long { Tryz.lays150 with } (zero_of_info h116).1 (zero_of_info h116).2 s ⟨#[42, 63, 91]⟩ w (by decide) (by omega) (by omega) (by decide) ?_) fun e w' ⟨h1, h2⟩ => ⟨h1, ?_⟩
    · intro j b hb
      have : b ∈ [(42 : UInt8), 63, 91] := List.mem_of_getElem? hb
      simp at this
      rcases this with rfl | rfl | rfl <;> decide
    · rw [h2]
      exact ((Below.refl _ _).alloc (Nat.le_refl _) _).alloc (by simp) _
theorem meta_idx : ∀ l : List UInt8, decide ((0 : Int) ≤ Lib.indexAny l [42, 63, 91]) = Gl.metaL l
  | [] => rfl
  | b :: l => by
    have ih := meta_idx l
    have hg := Lib.indexAny_ge [42, 63, 91] l
    rw [Lib.indexAny, Gl.metaL, List.any_cons]
    rw [Gl.metaL] at ih
    have hc : ([42, 63, 91] : List UInt8).contains b = (b == 42 || b == 63 || b == 91) := by rw [Bool.eq_iff_iff]; simp [or_assoc]
    rw [hc, ← ih]
    by_cases h : (b == 42 || b == 63 || b == 91) = true
    · rw [if_pos h, h, Bool.true_or]; rfl
    · rw [if_neg h, show (b == 42 || b == 63 || b == 91) = false by simpa using h, Bool.false_or]
      by_cases h2 : Lib.indexAny l [42, 63, 91] = -1
      · rw [h2]; rfl
      · rw [if_neg (by simpa using h2), decide_eq_true (by omega), decide_eq_true (by omega)]
set_option maxRecDepth 100000 in
theorem hasAny_any (s : ByteArray) (hs : s.size ≤ 2000000) (w : World) {b : Bool} (H : Hid (Gl.metaL (bl s) = b)) : Calls Tryz.prog 60 #[.string s, .string ⟨#[42, 63, 91]⟩] w fun e w' => e = .returned (.bool b) ∧ Below w.heap.size w w' := by
  have h := idxAny_any s hs w
  have hm := meta_idx s.data.toList
  rw [show Gl.metaL s.data.toList = b from H.out] at hm
  obtain ⟨m, e⟩ : ∃ m, Lib.indexAny s.data.toList [42, 63, 91] = m := ⟨_, rfl⟩
  rw [e] at h hm
  clear e H
  go_enter Tryz.func60, Tryz.ntmps60
  go_wp2_with (go_at_call 84; refine h.mono ?_; rintro e w' ⟨rfl, hb⟩)
  go_ret
  exact ⟨by first | rfl | (rw [← hm]; rfl), hb⟩
set_option maxRecDepth 100000 in
theorem meta_any (s : ByteArray) (hs : s.size ≤ 2000000) (w : World) {b : Bool} (H : Hid (Gl.metaL (bl s) = b)) : Calls Tryz.prog 35 #[.string s] w fun e w' => e = .returned (.bool b) ∧ Below w.heap.size w w' := by
  have h := hasAny_any s hs w H
  go_enter Tryz.func35, Tryz.ntmps35
  go_wp2_with (go_at_call 60; refine h.mono ?_; rintro e w' ⟨rfl, hb⟩)
  go_ret
  exact ⟨rfl, hb⟩
set_option maxRecDepth 100000 in
set_option maxHeartbeats 1000000 in
theorem refMeta_any (s : ByteArray) (hs : s.size ≤ 2000000) (w : World) {b : Bool} (H : Hid (Gl.metaL (bl s) = b)) : Calls Tryz.prog 62 #[.string s] w fun e w' => e = .returned (.bool b) ∧ w = w' := by
  have hF0 : Hid (Gl.metaL ((bl s).drop 0) = b) := by show _ = _; rw [List.drop_zero]; exact H.out
  go_enter Tryz.func62, Tryz.ntmps62
  go_wp2_with fail
  go_loopw [3] (fun t3 wr => ∃ k : Nat, k ≤ s.size ∧ t3 = .int .i64 (k : Int) ∧ Hid (Gl.metaL ((bl s).drop k) = b) ∧ w = wr) (fun t3 _ => s.size - (intOf t3).toNat)
  case atStart => exact ⟨0, by omega, rfl, hF0, by first | rfl | trivial⟩
  case round =>
    clear hF0
    obtain ⟨k, hk, rfl, HF, rfl⟩ := hrel
    have j0 : (0 : Int) ≤ (k : Int) := by omega
    rcases Nat.lt_or_ge k s.size with hkn | hkn
    · have i0 : decide ((k : Int) < (s.size : Int)) = true := by rw [decide_eq_true_eq]; omega
      have i1 : (k : Int) < (s.size : Int) := by omega
      have hb : (s[k]).toNat < 256 := (s[k]).toNat_lt
      have hd := HF.out
      rw [bl_drop_cons s k hkn, Gl.metaL, List.any_cons] at hd
      have q : ∀ c : UInt8, (((s[k]).toNat : Int) == (c.toNat : Int)) = (s[k] == c) := fun c => by
        rw [Bool.eq_iff_iff, beq_iff_eq, beq_iff_eq]
        exact ⟨fun e => UInt8.toNat_inj.1 (by omega), fun e => by rw [e]⟩
      have q1 := q 42
      have q2 := q 63
      have q3 := q 91
      rw [show (((42 : UInt8).toNat : Nat) : Int) = 42 from rfl] at q1
      rw [show (((63 : UInt8).toNat : Nat) : Int) = 63 from rfl] at q2
      rw [show (((91 : UInt8).toNat : Nat) : Int) = 91 from rfl] at q3
      clear q HF
      generalize (s[k] == 42) = x1 at *
      generalize (s[k] == 63) = x2 at *
      generalize (s[k] == 91) = x3 at *
      cases hx : (x1 || x2 || x3) with
      | true =>
        rw [hx, Bool.true_or] at hd
        have HR := Lib.hid hd
        clear hd
        cases x1 <;> cases x2 <;> cases x3 <;> first | (cases hx; done) | (
          clear hx
          go_wp2_with fail
          go_ret
          exact ⟨by rw [← HR.out]; rfl, by first | rfl | trivial⟩)
      | false =>
        rw [hx, Bool.false_or] at hd
        have HF2 : Hid (Gl.metaL ((bl s).drop (k + 1)) = b) := hd
        clear hd
        cases x1 <;> cases x2 <;> cases x3 <;> first | (cases hx; done) | (
          clear hx
          go_wp2_with fail
          go_roundw
          case rel => exact ⟨k + 1, by omega, by go_num, HF2, by first | rfl | trivial⟩
          case measure => simp [intOf]; omega)
    · have i0 : decide ((k : Int) < (s.size : Int)) = false := by rw [decide_eq_false_iff_not]; omega
      have hR : Hid (b = false) := by show _ = _; rw [← HF.out, List.drop_eq_nil_of_le (by rw [bl_length]; exact hkn)]; rfl
      clear HF
      go_wp2_with fail
      go_ret
      exact ⟨by rw [hR.out]; rfl, by first | rfl | trivial⟩
end Go.Proofs.YtdjfakampjbgeaaGreatDoor
