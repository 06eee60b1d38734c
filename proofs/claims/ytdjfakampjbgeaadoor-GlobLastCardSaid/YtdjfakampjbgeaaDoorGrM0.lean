/- What a pattern's text is told by; runes of bytes that are no ASCII. Plain. -/
import Derived.Test.YtdjfakampjbgeaaDoorGbD
import Derived.Laws.RangeAny
import Derived.Laws.Runes
import Derived.Lib.IndexAny
namespace Go.Proofs.YtdjfakampjbgeaaDoor
open Go
namespace Gl
/-- has a text a byte of a pattern? -/
def metaL (s : List UInt8) : Bool := s.any fun c => c == 42 || c == 63 || c == 91
end Gl
theorem dec_high (s : ByteArray) (pos : Nat) (h : pos < s.size) (ha : 128 ≤ (s[pos]'h).toNat) :
    128 ≤ (Utf8.decode s pos).1 ∧ (Utf8.decode s pos).1 ≤ 1114111 ∧ ((Utf8.decode s pos).1 < 55296 ∨ 57344 ≤ (Utf8.decode s pos).1) ∧ 1 ≤ (Utf8.decode s pos).2 ∧ ∀ j, j < (Utf8.decode s pos).2 → pos + j < s.size ∧ 128 ≤ (s.get! (pos + j)).toNat := by
  have hn : ¬ (s[pos]'h).toNat < 128 := by omega
  have h0 := get_at s pos h
  have hb : ∀ k, (s.get! (pos + k)).toNat < 256 := fun k => (s.get! (pos + k)).toNat_lt
  have h1 := hb 1; have h2 := hb 2; have h3 := hb 3
  have h00 : 128 ≤ (s.get! (pos + 0)).toNat := by rw [h0]; exact ha
  have one : ∀ j, j < 1 → pos + j < s.size ∧ 128 ≤ (s.get! (pos + j)).toNat := fun j hj => by
    obtain rfl : j = 0 := by omega
    exact ⟨h, h00⟩
  have c1 : ∀ k, (decide (pos + k < s.size) && (s.get! (pos + k)).toNat / 64 == 2) = true → pos + k < s.size ∧ 128 ≤ (s.get! (pos + k)).toNat := fun k hk => by
    rw [Bool.and_eq_true, decide_eq_true_eq, beq_iff_eq] at hk
    exact ⟨hk.1, by omega⟩
  have hbyte : (s[pos]'h).toNat < 256 := (s[pos]'h).toNat_lt
  simp only [Utf8.decode, h0, hn, if_false]
  split
  · next hc =>
    rw [Bool.and_eq_true] at hc
    have k1 := c1 1 hc.2
    have := beq_iff_eq.1 hc.1
    split
    · refine ⟨by omega, by omega, by omega, by omega, fun j hj => ?_⟩
      rcases (show j = 0 ∨ j = 1 by omega) with rfl | rfl
      · exact ⟨h, h00⟩
      · exact k1
    · exact ⟨by decide, by decide, by decide, by decide, one⟩
  · split
    · next hc =>
      rw [Bool.and_eq_true, Bool.and_eq_true] at hc
      have k1 := c1 1 hc.1.2
      have k2 := c1 2 hc.2
      have := beq_iff_eq.1 hc.1.1
      split
      · next hv =>
        rw [Bool.and_eq_true] at hv
        have hv2 := hv.2
        simp only [Utf8.valid, Bool.or_eq_true, Bool.and_eq_true, decide_eq_true_eq] at hv2
        refine ⟨by have := of_decide_eq_true hv.1; omega, by omega, by omega, by omega, fun j hj => ?_⟩
        rcases (show j = 0 ∨ j = 1 ∨ j = 2 by omega) with rfl | rfl | rfl
        · exact ⟨h, h00⟩
        · exact k1
        · exact k2
      · exact ⟨by decide, by decide, by decide, by decide, one⟩
    · split
      · next hc =>
        rw [Bool.and_eq_true, Bool.and_eq_true, Bool.and_eq_true] at hc
        have k1 := c1 1 hc.1.1.2
        have k2 := c1 2 hc.1.2
        have k3 := c1 3 hc.2
        split
        · next hv =>
          rw [Bool.and_eq_true] at hv
          have hv2 := hv.2
          simp only [Utf8.valid, Bool.or_eq_true, Bool.and_eq_true, decide_eq_true_eq] at hv2
          refine ⟨by have := of_decide_eq_true hv.1; omega, by omega, by omega, by omega, fun j hj => ?_⟩
          rcases (show j = 0 ∨ j = 1 ∨ j = 2 ∨ j = 3 by omega) with rfl | rfl | rfl | rfl
          · exact ⟨h, h00⟩
          · exact k1
          · exact k2
          · exact k3
        · exact ⟨by decide, by decide, by decide, by decide, one⟩
      · exact ⟨by decide, by decide, by decide, by decide, one⟩
/-- a rune beyond ASCII: its bytes are beyond ASCII. -/
theorem enc_high (r : Nat) (h1 : 128 ≤ r) (h2 : r ≤ 1114111) (h3 : r < 55296 ∨ 57344 ≤ r) : ∃ rs : ByteArray, Utf8.encode (r : Int) = rs ∧ (rs.size = 2 ∨ rs.size = 3 ∨ rs.size = 4) ∧ ∀ (n : Nat) (h : n < rs.size), n + 1 = rs.size → 128 ≤ (rs[n]'h).toNat ∧ (rs[n]'h).toNat < 256 := by
  have hv : Utf8.valid (r : Int) = true := by
    simp only [Utf8.valid, Bool.or_eq_true, Bool.and_eq_true, decide_eq_true_eq]; omega
  have q := encode_facts (r : Int) hv (by omega)
  obtain ⟨rs, hrs⟩ : ∃ rs, Utf8.encode (r : Int) = rs := ⟨_, rfl⟩
  rw [hrs] at q
  obtain ⟨a, b, c⟩ := q
  refine ⟨rs, hrs, by omega, fun n h e => ?_⟩
  obtain rfl : n = rs.size - 1 := by omega
  exact ⟨c h, UInt8.toNat_lt _⟩
end Go.Proofs.YtdjfakampjbgeaaDoor
