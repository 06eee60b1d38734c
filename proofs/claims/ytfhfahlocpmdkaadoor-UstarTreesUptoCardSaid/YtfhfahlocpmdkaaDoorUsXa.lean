/- What UstarPosix asks of what is written, plain: octal digits, texts filled up, the shortest prefix. -/
import Derived.Test.YtfhfahlocpmdkaaDoorUsPlain
namespace Go.Proofs.YtfhfahlocpmdkaaDoor.Us

theorem oct_get : ∀ (d X k : Nat) (h : k < (oct d X).length), (oct d X)[k].toNat = 48 + (X / 8 ^ (d - 1 - k)) % 8
  | 0, X, k, h => by simp [oct] at h
  | d + 1, X, k, h => by
    have hl : (oct d (X / 8)).length = d := oct_length d _
    have hk : k < d + 1 := by rw [oct_length] at h; exact h
    simp only [oct]
    by_cases hkd : k < d
    · rw [List.getElem_append_left (by omega), oct_get d (X / 8) k (by omega)]
      have e : d + 1 - 1 - k = (d - 1 - k) + 1 := by omega
      rw [e, Nat.pow_succ, Nat.mul_comm, Nat.div_div_eq_div_mul]
    · obtain rfl : k = d := by omega
      rw [List.getElem_append_right (by omega)]
      simp only [hl, Nat.sub_self, List.getElem_singleton]
      rw [UInt8.toNat_ofNat', show k + 1 - 1 - k = 0 by omega, Nat.pow_zero, Nat.div_one]
      omega
theorem oct_step (d X k : Nat) (hk : k < d) : X / 8 ^ (d - k) * 8 + (X / 8 ^ (d - 1 - k)) % 8 = X / 8 ^ (d - (k + 1)) := by
  have e : d - k = (d - 1 - k) + 1 := by omega
  rw [e, Nat.pow_succ, ← Nat.div_div_eq_div_mul, show d - (k + 1) = d - 1 - k by omega]
  omega
theorem fill_get {n k : Nat} {x : List UInt8} (hx : x.length ≤ n) (hk : x.length ≤ k) (h : k < (fill n x).length) : (fill n x)[k] = 0 := by
  have h1 : x.take n = x := List.take_of_length_le hx
  simp only [fill, h1]
  rw [List.getElem_append_right hk]
  simp [zs]
theorem fill_front {n k : Nat} {x : List UInt8} (hx : x.length ≤ n) (hk : k < x.length) (h : k < (fill n x).length) : (fill n x)[k] = x[k] := by
  have h1 : x.take n = x := List.take_of_length_le hx
  simp only [fill, h1]
  rw [List.getElem_append_left hk]
theorem fill_take_x {n : Nat} {x : List UInt8} (hx : x.length ≤ n) : (fill n x).take x.length = x := by
  rw [fill, List.take_of_length_le hx, List.take_left]
/-- a path that is cut: where, and that no earlier place serves. -/
theorem split_long {p pre name : List UInt8} (h : split p = some (pre, name)) (hp : 100 < p.length) :
    1 ≤ pre.length ∧ pre.length + 1 < p.length ∧ p = pre ++ 47 :: name ∧ ∀ (i : Nat) (c : UInt8), i < pre.length → p.length - i - 1 ≤ 100 → p[i]? = some c → c.toNat ≠ 47 := by
  have hs := split_spec h
  rw [split, if_neg (by omega)] at h
  split at h
  · cases h
  · rename_i j hj
    split at h
    · rename_i hb
      injection h with h
      injection h with h1 h2
      obtain ⟨a, b, e1, e2, e3⟩ := slash_spec _ _ _ hj
      have hlen := congrArg List.length e1
      simp at hlen
      have hpl : pre.length = j := by rw [← h1, List.length_take]; omega
      refine ⟨by omega, by omega, ?_, fun i c hi h100 hc => ?_⟩
      · rcases hs.2.2 with ⟨q, _⟩ | ⟨_, q⟩
        · rw [q] at hpl; simp at hpl; omega
        · exact q
      · have hg : ((p.drop (p.length - 101)).take 100)[i - (p.length - 101)]? = some c := by
          rw [List.getElem?_take_of_lt (by omega), List.getElem?_drop, show p.length - 101 + (i - (p.length - 101)) = i by omega]
          exact hc
        rw [e1, List.getElem?_append_left (by omega)] at hg
        exact e3 c (List.mem_of_getElem? hg)
    · cases h
end Go.Proofs.YtfhfahlocpmdkaaDoor.Us
