/- ustar's leaves, walked: text, value, within; path.Split. -/
import Derived.Test.YtfhfahlocpmdkaaDoorUsA
import Derived.Test.YtfhfahlocpmdkaaDoorUsB
import Derived.BigQuiet
namespace Go.Proofs.YtfhfahlocpmdkaaDoor
open Go.RowKit

theorem index_at (s : ByteArray) (c : UInt8) (w : World) {x : Int} (h : Lib.indexByte (bl s) c = x) : Calls Tryd.prog 56 #[.string s, .int .u8 (c.toNat : Int)] w fun e w' => e = .returned (.int .i64 x) ∧ w = w' := by
  have := index_any s c w
  rwa [h] at this
theorem index_at0 (s : ByteArray) (w : World) {x : Int} (h : Hid (Lib.indexByte (bl s) 0 = x)) : Calls Tryd.prog 56 #[.string s, .int .u8 0] w fun e w' => e = .returned (.int .i64 x) ∧ w = w' := index_at s 0 w h.out
theorem index_at47 (s : ByteArray) (w : World) {x : Int} (h : Hid (Lib.indexByte (bl s) 47 = x)) : Calls Tryd.prog 56 #[.string s, .int .u8 47] w fun e w' => e = .returned (.int .i64 x) ∧ w = w' := index_at s 47 w h.out

theorem text_any (s : ByteArray) (w : World) : Calls Tryd.prog 48 #[.string s] w fun e w' => e = .returned (.string (bs (Us.text (bl s)))) ∧ w = w' := by
  rcases text_ix (bl s) with ⟨h1, h2⟩ | ⟨n, h1, h2, h3⟩
  · have H1 := Lib.hid h1
    have H2 := Lib.hid h2
    clear h1 h2
    go_enter Tryd.func48, Tryd.ntmps48
    go_wp2_with (go_at_call 56; refine (index_at0 _ _ H1).mono ?_; rintro e w1 ⟨rfl, rfl⟩)
    go_ret
    exact ⟨by rw [H2.out, bs_bl]; rfl, rfl⟩
  · have H1 := Lib.hid h1
    have H3 := Lib.hid h3
    rw [bl_length] at h2
    clear h1 h3
    have i1 : (0 : Int) ≤ (n : Int) := by omega
    have i2 : (n : Int) < (s.size : Int) := by omega
    go_enter Tryd.func48, Tryd.ntmps48
    go_wp2_with (go_at_call 56; refine (index_at0 _ _ H1).mono ?_; rintro e w1 ⟨rfl, rfl⟩)
    go_ret
    refine ⟨?_, rfl⟩
    rw [H3.out]
    have : bs ((bl s).take n) = s.extract 0 n := by rw [← bs_bl (s.extract 0 n), bl_extract, List.drop_zero, Nat.sub_zero]
    rw [this]; rfl

/-- the digits, and nothing but padding behind them. -/
def fin_ (q : Nat × List UInt8) : Option Nat := if q.2.all Us.isPad then some q.1 else none
theorem value_head {s c r} (h : (s : List UInt8).dropWhile (fun c => c.toNat == 32) = c :: r) : Us.value s = if Us.isOct c then fin_ (Us.digits (c :: r) 0) else none := by
  rw [Us.value, h]; rfl
theorem value_nil {s : List UInt8} (h : s.dropWhile (fun c => c.toNat == 32) = []) : Us.value s = none := by
  rw [Us.value, h]
theorem digits_stop {l : List UInt8} {x : Nat} (h : ∀ c ∈ l.head?, Us.isOct c = false) : Us.digits l x = (x, l) := by
  cases l with
  | nil => rfl
  | cons c r => rw [Us.digits, if_neg (by simp [h c (by simp)])]
theorem bs_isEmpty (T : List UInt8) : (bs T).toList.isEmpty = T.isEmpty := by
  simp [bs]
theorem fin_case {U : Option Nat} {acc : Nat} {L T : List UInt8} (hU : U = fin_ (acc, L)) (hT : T = [] ↔ L.all Us.isPad = true) : (bs T).toList.isEmpty = U.isSome ∧ ∀ v, U = some v → (acc : Int) = (v : Int) := by
  rw [bs_isEmpty, hU, fin_]
  by_cases h : L.all Us.isPad = true
  · rw [if_pos h, hT.2 h]
    refine ⟨rfl, fun v hv => ?_⟩
    injection hv with hv
    have hv' : acc = v := hv
    rw [hv']
  · rw [if_neg h]
    refine ⟨?_, fun v hv => by cases hv⟩
    cases T with
    | nil => exact absurd (hT.1 rfl) h
    | cons a r => rfl
theorem ret_two {a b c d : Value} (h : b = d) (h' : a = c) : Ending.returned (.tuple #[a, b]) = .returned (.tuple #[c, d]) := by rw [h, h']
theorem val_bool {a b : Bool} (h : a = b) : Value.bool a = .bool b := by rw [h]
set_option maxHeartbeats 2000000 in
theorem value_any (s : ByteArray) (w : World) (hs : s.size ≤ 12) : Calls Tryd.prog 49 #[.string s] w fun e w' => (∃ x : Int, e = .returned (.tuple #[.int .i64 x, .bool (Us.value (bl s)).isSome]) ∧ ∀ v, Us.value (bl s) = some v → x = (v : Int)) ∧ Below w.heap.size w w' := by
  obtain ⟨U, hU⟩ : ∃ U, U = Us.value (bl s) := ⟨_, rfl⟩
  obtain ⟨t, ht⟩ : ∃ t, bs ((bl s).dropWhile fun c => c.toNat == 32) = t := ⟨_, rfl⟩
  have hbt : bl t = (bl s).dropWhile fun c => c.toNat == 32 := by rw [← ht]; rfl
  have htz : t.size ≤ 12 := by
    have h1 := congrArg List.length hbt
    rw [bl_length] at h1
    have h2 := (List.dropWhile_sublist (fun c : UInt8 => c.toNat == 32) (l := bl s)).length_le
    rw [bl_length] at h2
    omega
  have HL := trimLeft_any s
  rw [ht] at HL
  have HT := Lib.hid hbt
  have HU := Lib.hid hU
  rw [← hU]
  clear ht hbt hU
  go_enter Tryd.func49, Tryd.ntmps49
  go_wp2_with (go_at_call 61; refine (HL _).mono ?_; rintro e w1 ⟨rfl, rfl⟩)
  go_loop [4, 5] (fun v i => ∃ k acc : Nat, k ≤ t.size ∧ acc < 8 ^ k ∧ v = .int .i64 (acc : Int) ∧ i = .int .i64 (k : Int) ∧ ((k = 0 ∧ acc = 0) ∨ (0 < k ∧ Hid (U = fin_ (Us.digits ((bl t).drop k) acc))))) (fun _ i => t.size - (intOf i).toNat)
  case atStart => exact ⟨0, 0, by omega, by simp, rfl, rfl, .inl ⟨rfl, rfl⟩⟩
  case round =>
    obtain ⟨k, acc, hk, hacc, rfl, rfl, hrec⟩ := hrel
    have hp12 : 8 ^ k ≤ 8 ^ 12 := Nat.pow_le_pow_right (by omega) (by omega)
    have hacc2 : acc < 68719476736 := Nat.lt_of_lt_of_le hacc hp12
    have hp1 : 8 ^ (k + 1) = 8 * 8 ^ k := by rw [Nat.pow_succ, Nat.mul_comm]
    clear hp12
    by_cases hkt : k < t.size
    · have hb : (t[k]).toNat < 256 := (t[k]).toNat_lt
      have i1 : (0 : Int) ≤ (k : Int) := by omega
      have i2 : (k : Int) < (t.size : Int) := by omega
      have HD := Lib.hid (bl_drop_cons t k hkt)
      by_cases ho : 48 ≤ (t[k]).toNat ∧ (t[k]).toNat ≤ 55
      · have hoc : Us.isOct t[k] = true := by simp [Us.isOct, ho]
        have HV : Hid (U = fin_ (Us.digits ((bl t).drop (k + 1)) (8 * acc + ((t[k]).toNat - 48)))) := by
          show _ = _
          rcases hrec with ⟨rfl, rfl⟩ | ⟨_, hr⟩
          · have h0 := HD.out
            rw [List.drop_zero, HT.out] at h0
            rw [HU.out, value_head h0, if_pos hoc, Us.digits, if_pos hoc, HT.out]
          · rw [hr.out, HD.out, Us.digits, if_pos hoc]
        have hacc' : 8 * acc + ((t[k]).toNat - 48) < 8 ^ (k + 1) := by omega
        have HA := Lib.hid hacc'
        obtain ⟨o1, o2⟩ := ho
        have d1 : decide ((48 : Int) ≤ ((t[k]).toNat : Int)) = true := by simp; omega
        have d2 : decide (((t[k]).toNat : Int) ≤ 55) = true := by simp; omega
        clear hrec hoc hacc hacc' hp1 HU HT HD
        go_wp2_with fail
        go_round
        case rel => exact ⟨k + 1, 8 * acc + ((t[k]).toNat - 48), by omega, HA.out, by go_num, by go_num, .inr ⟨by omega, HV⟩⟩
        case measure => simp [intOf]; omega
      · have hoc : Us.isOct t[k] = false := by simp [Us.isOct]; omega
        have hst : Us.digits ((bl t).drop k) acc = (acc, (bl t).drop k) := digits_stop (by rw [HD.out]; simp [hoc])
        have HV : Hid (U = if k = 0 then none else fin_ (acc, (bl t).drop k)) := by
          show _ = _
          rcases hrec with ⟨rfl, rfl⟩ | ⟨h0, hr⟩
          · have h0 := HD.out
            rw [List.drop_zero, HT.out] at h0
            rw [HU.out, value_head h0, if_neg (by simp [hoc]), if_pos rfl]
          · rw [hr.out, hst, if_neg (by omega)]
        have hcase : ((t[k]).toNat : Int) < 48 ∨ ((48 : Int) ≤ ((t[k]).toNat : Int) ∧ (55 : Int) < ((t[k]).toNat : Int)) := by omega
        clear hrec hoc hst hacc hp1 HU HT HD ho
        rcases hcase with h1 | ⟨h1, h2⟩
        · have d1 : decide ((48 : Int) ≤ ((t[k]).toNat : Int)) = false := by simp; omega
          by_cases hk0 : k = 0
          · subst hk0
            go_wp2_with fail
            go_ret2
            have hU : U = none := HV.out
            refine ⟨⟨acc, by rw [hU]; rfl, fun v hv => ?_⟩, Below.refl _ _⟩
            rw [hU] at hv
            cases hv
          · have i3 : (0 : Int) < (k : Int) := by omega
            go_wp2_with (go_at_call 62; refine (trim_any _ _ (by simp; omega)).mono ?_; rintro e w1 ⟨⟨T, rfl, hT⟩, hb1⟩)
            go_ret2
            rw [bl_from] at hT
            have hf := fin_case (HV.out.trans (if_neg (by omega))) hT
            exact ⟨⟨acc, ret_two (val_bool hf.1) rfl, hf.2⟩, hb1⟩
        · have d1 : decide ((48 : Int) ≤ ((t[k]).toNat : Int)) = true := by simp; omega
          have d2 : decide (((t[k]).toNat : Int) ≤ 55) = false := by simp; omega
          by_cases hk0 : k = 0
          · subst hk0
            go_wp2_with fail
            go_ret2
            have hU : U = none := HV.out
            refine ⟨⟨acc, by rw [hU]; rfl, fun v hv => ?_⟩, Below.refl _ _⟩
            rw [hU] at hv
            cases hv
          · have i3 : (0 : Int) < (k : Int) := by omega
            go_wp2_with (go_at_call 62; refine (trim_any _ _ (by simp; omega)).mono ?_; rintro e w1 ⟨⟨T, rfl, hT⟩, hb1⟩)
            go_ret2
            rw [bl_from] at hT
            have hf := fin_case (HV.out.trans (if_neg (by omega))) hT
            exact ⟨⟨acc, ret_two (val_bool hf.1) rfl, hf.2⟩, hb1⟩
    · have hke : k = t.size := by omega
      have i2 : decide ((k : Int) < (t.size : Int)) = false := by simp; omega
      have hdr : (bl t).drop k = [] := List.drop_of_length_le (by rw [bl_length]; omega)
      have HV : Hid (U = if k = 0 then none else fin_ (acc, (bl t).drop k)) := by
        show _ = _
        rcases hrec with ⟨rfl, rfl⟩ | ⟨h0, hr⟩
        · rw [List.drop_zero, HT.out] at hdr
          rw [HU.out, value_nil hdr, if_pos rfl]
        · rw [hr.out, hdr, Us.digits, if_neg (by omega)]
      clear hrec hacc hp1 HU HT hdr hke
      by_cases hk0 : k = 0
      · subst hk0
        go_wp2_with fail
        go_ret2
        have hU : U = none := HV.out
        refine ⟨⟨acc, by rw [hU]; rfl, fun v hv => ?_⟩, Below.refl _ _⟩
        rw [hU] at hv
        cases hv
      · have i3 : (0 : Int) < (k : Int) := by omega
        go_wp2_with (go_at_call 62; refine (trim_any _ _ (by simp; omega)).mono ?_; rintro e w1 ⟨⟨T, rfl, hT⟩, hb1⟩)
        go_ret2
        rw [bl_from] at hT
        have hf := fin_case (HV.out.trans (if_neg (by omega))) hT
        exact ⟨⟨acc, ret_two (val_bool hf.1) rfl, hf.2⟩, hb1⟩

theorem slash_ix : ∀ (l : List UInt8) (i : Nat), (Lib.indexByte l 47 = -1 ∧ Us.slash l i = none) ∨ (∃ n : Nat, Lib.indexByte l 47 = (n : Int) ∧ n < l.length ∧ Us.slash l i = some (i + n))
  | l, i => by
    rcases ix_spec l 47 with ⟨h1, h2⟩ | ⟨a, r, h1, h2, h3⟩
    · refine .inl ⟨h1, (Us.slash_none l i).2 fun c hc h => h2 c hc (UInt8.toNat_inj.1 h)⟩
    · refine .inr ⟨a.length, h2, by rw [h1]; simp, ?_⟩
      rw [h1]
      clear h1 h2
      induction a generalizing i with
      | nil => simp [Us.slash]
      | cons b a ih =>
        have hb : b.toNat ≠ 47 := fun h => h3 b (List.mem_cons_self ..) (UInt8.toNat_inj.1 h)
        rw [List.cons_append, Us.slash, if_neg hb, ih (i + 1) (fun x hx => h3 x (List.mem_cons_of_mem _ hx)), List.length_cons]
        congr 1
        omega
/-- what path.Split answers. -/
def splitV : Option (List UInt8 × List UInt8) → Value
  | none => .tuple #[.string ⟨#[]⟩, .string ⟨#[]⟩, .iface 62 (.int .i64 9)]
  | some (a, b) => .tuple #[.string (bs a), .string (bs b), .nilIface]
set_option maxRecDepth 100000 in
set_option maxHeartbeats 2000000 in
theorem split_any (p : ByteArray) (w : World) (hp : p.size ≤ 1000000000000) : Calls Tryd.prog 41 #[.string p] w fun e w' => e = .returned (splitV (Us.split (bl p))) ∧ Below w.heap.size w w' := by
  obtain ⟨U, hU⟩ : ∃ U, U = Us.split (bl p) := ⟨_, rfl⟩
  rw [← hU]
  by_cases h100 : p.size ≤ 100
  · have HV : Hid (U = some ([], bl p)) := by show _ = _; rw [hU, Us.split, if_pos (by rw [bl_length]; exact h100)]
    have d1 : decide ((p.size : Int) ≤ 100) = true := by simp; omega
    clear hU
    go_enter Tryd.func41, Tryd.ntmps41
    go_wp2_with fail
    go_ret3
    exact ⟨by rw [HV.out]; rfl, Below.refl _ _⟩
  · have d1 : decide ((p.size : Int) ≤ 100) = false := by simp; omega
    obtain ⟨f, hf⟩ : ∃ f, p.size = f + 101 := ⟨p.size - 101, by omega⟩
    have hl : ((bl p).drop (p.size - 101)).take 100 = bl (p.extract f (f + 100)) := by
      rw [bl_extract, show p.size - 101 = f by omega, show f + 100 - f = 100 by omega]
    have hn : ¬ (bl p).length ≤ 100 := by rw [bl_length]; omega
    have he : (bl p).length - 101 = f := by rw [bl_length]; omega
    rw [← bl_length, he] at hl
    rcases slash_ix (bl (p.extract f (f + 100))) f with ⟨h1, h2⟩ | ⟨n, h1, h2, h3⟩
    · have HV : Hid (U = none) := by show _ = _; rw [hU, Us.split, if_neg hn, he, hl, h2]
      have H1 := Lib.hid h1
      have HF := Lib.hid hf
      have hbig : 100 < p.size := by omega
      have hsl : ∀ wx, (Instr.slice 9 (.string p) (some (.int .i64 ((p.size : Int) - 100 - 1))) (some (.int .i64 ((p.size : Int) - 1))) none).run Tryd.prog wx = .ok (.string (p.extract f (f + 100))) wx := by
        intro wx
        rw [run_slice_string _ _ _ _ _ _ _ Tryd.underlying9 (by omega) (by omega) (by omega)]
        rw [show ((p.size : Int) - 100 - 1).toNat = f by omega, show ((p.size : Int) - 1).toNat = f + 100 by omega]
      clear h1 h2 hU hl hn he hf
      go_enter Tryd.func41, Tryd.ntmps41
      go_wp2_with (go_at_call 56; refine (index_at47 _ _ H1).mono ?_; rintro e w1 ⟨rfl, rfl⟩)
      go_ret3
      exact ⟨by rw [HV.out]; rfl, Below.refl _ _⟩
    · have HV : Hid (U = if 1 ≤ f + n ∧ f + n ≤ 155 then some ((bl p).take (f + n), (bl p).drop (f + n + 1)) else none) := by show _ = _; rw [hU, Us.split, if_neg hn, he, hl, h3]
      have H1 := Lib.hid h1
      have HF := Lib.hid hf
      have hbig : 100 < p.size := by omega
      have hn100 : n < 100 := by
        rw [bl_length, ByteArray.size_extract] at h2
        omega
      have hsl : ∀ wx, (Instr.slice 9 (.string p) (some (.int .i64 ((p.size : Int) - 100 - 1))) (some (.int .i64 ((p.size : Int) - 1))) none).run Tryd.prog wx = .ok (.string (p.extract f (f + 100))) wx := by
        intro wx
        rw [run_slice_string _ _ _ _ _ _ _ Tryd.underlying9 (by omega) (by omega) (by omega)]
        rw [show ((p.size : Int) - 100 - 1).toNat = f by omega, show ((p.size : Int) - 1).toNat = f + 100 by omega]
      have d3 : decide ((n : Int) < 0) = false := by simp
      have hcase : (f = 0 ∧ n = 0) ∨ (1 ≤ f + n ∧ 155 < f + n) ∨ (1 ≤ f + n ∧ f + n ≤ 155) := by omega
      rcases hcase with ⟨c1, c2⟩ | ⟨c1, c2⟩ | ⟨c1, c2⟩
      · have d4 : decide ((p.size : Int) - 100 - 1 + (n : Int) < 1) = true := by simp; omega
        have HN : Hid (U = none) := by show _ = _; rw [HV.out, if_neg (by omega)]
        clear h1 h2 h3 hU hl hn he hf c1 c2
        go_enter Tryd.func41, Tryd.ntmps41
        go_wp2_with (go_at_call 56; refine (index_at47 _ _ H1).mono ?_; rintro e w1 ⟨rfl, rfl⟩)
        go_ret3
        exact ⟨by rw [HN.out]; rfl, Below.refl _ _⟩
      · have d4 : decide ((p.size : Int) - 100 - 1 + (n : Int) < 1) = false := by simp; omega
        have d5 : decide ((155 : Int) < (p.size : Int) - 100 - 1 + (n : Int)) = true := by simp; omega
        have HN : Hid (U = none) := by show _ = _; rw [HV.out, if_neg (by omega)]
        clear h1 h2 h3 hU hl hn he hf c1 c2
        go_enter Tryd.func41, Tryd.ntmps41
        go_wp2_with (go_at_call 56; refine (index_at47 _ _ H1).mono ?_; rintro e w1 ⟨rfl, rfl⟩)
        go_ret3
        exact ⟨by rw [HN.out]; rfl, Below.refl _ _⟩
      · have d4 : decide ((p.size : Int) - 100 - 1 + (n : Int) < 1) = false := by simp; omega
        have d5 : decide ((155 : Int) < (p.size : Int) - 100 - 1 + (n : Int)) = false := by simp; omega
        have HN : Hid (U = some ((bl p).take (f + n), (bl p).drop (f + n + 1))) := by show _ = _; rw [HV.out, if_pos ⟨c1, c2⟩]
        have hs1 : ∀ wx, (Instr.slice 9 (.string p) none (some (.int .i64 ((p.size : Int) - 100 - 1 + (n : Int)))) none).run Tryd.prog wx = .ok (.string (bs ((bl p).take (f + n)))) wx := by
          intro wx
          rw [run_slice_string_h (ht := Tryd.underlying9) (h0 := by omega) (h2 := by omega)]
          rw [show ((p.size : Int) - 100 - 1 + (n : Int)).toNat = f + n by omega, ← bs_bl (p.extract 0 (f + n)), bl_extract, List.drop_zero, Nat.sub_zero]
        have hs2 : ∀ wx, (Instr.slice 9 (.string p) (some (.int .i64 ((p.size : Int) - 100 - 1 + (n : Int) + 1))) none none).run Tryd.prog wx = .ok (.string (bs ((bl p).drop (f + n + 1)))) wx := by
          intro wx
          rw [run_slice_string_l (ht := Tryd.underlying9) (h0 := by omega) (h1 := by omega)]
          rw [show ((p.size : Int) - 100 - 1 + (n : Int) + 1).toNat = f + n + 1 by omega, ← bs_bl (p.extract (f + n + 1) p.size), bl_from]
        clear h1 h2 h3 hU hl hn he hf c1 c2
        go_enter Tryd.func41, Tryd.ntmps41
        go_wp2_with (go_at_call 56; refine (index_at47 _ _ H1).mono ?_; rintro e w1 ⟨rfl, rfl⟩)
        go_quiet (fail)
        go_wp2_with fail
        go_ret3
        exact ⟨by rw [HN.out]; rfl, below_drewN (Below.refl _ _) _⟩
end Go.Proofs.YtfhfahlocpmdkaaDoor
