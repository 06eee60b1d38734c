/- The greedy walk ends: its measure. -/
import Derived.Test.YtdjfakampjbgeaaDoorProg
namespace Go.Proofs.YtdjfakampjbgeaaDoor.Gl
/-- m marks, n letters; star's place and one (0: none), back, i. -/
def meas (m n s b i : Nat) : Nat := ((m + 1 - s) * (n + 2) + (n + 1 - b)) * (n + 2) + (n - i)
theorem meas_lt {n X Y a b : Nat} (h : X < Y) (ha : a ≤ n + 1) : X * (n + 2) + a < Y * (n + 2) + b := by
  have : (X + 1) * (n + 2) ≤ Y * (n + 2) := Nat.mul_le_mul_right _ h
  rw [Nat.add_mul, Nat.one_mul] at this
  omega
theorem meas_star {m n s b i s' b' i' : Nat} (h : s < s') (hs : s' ≤ m) : meas m n s' b' i' < meas m n s b i :=
  meas_lt (meas_lt (by omega) (by omega)) (by omega)
theorem meas_back {m n s b i b' i' : Nat} (h : b < b') (hb : b ≤ n) : meas m n s b' i' < meas m n s b i :=
  meas_lt (by omega) (by omega)
theorem meas_take {m n s b i i' : Nat} (h : i < i') (hi : i < n) : meas m n s b i' < meas m n s b i := by
  unfold meas
  omega
end Go.Proofs.YtdjfakampjbgeaaDoor.Gl
