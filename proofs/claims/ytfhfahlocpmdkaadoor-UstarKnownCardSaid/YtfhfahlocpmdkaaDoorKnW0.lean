/- closed headers and what is written of them. -/
import Derived.Test.YtfhfahlocpmdkaaDoorKnA
namespace Go.Proofs.YtfhfahlocpmdkaaDoor
open Go.RowKit

def zH : Us.Hd := { Us.hd0 with path := [97], mode := 420, type := 48 }
@[irreducible] def Z0 : List UInt8 := (Us.enc Us.hd0).2
@[irreducible] def ZA : List UInt8 := (Us.enc zH).2
def lH : Us.Hd := { Us.hd0 with path := reps [97] 101 }
def pH : Us.Hd := { Us.hd0 with path := reps [97] 99 ++ 47 :: reps [98] 100 }
@[irreducible] def ZP : List UInt8 := (Us.enc pH).2
theorem pair_of {x : Nat × List UInt8} (h : x.1 = 0) : x = (0, x.2) := by
  cases x
  simp only at h
  rw [h]
theorem enc_Z0 : Us.enc Us.hd0 = (0, Z0) := by
  unfold Z0
  exact pair_of (by decide +kernel)
theorem enc_ZA : Us.enc zH = (0, ZA) := by
  unfold ZA
  exact pair_of (by decide +kernel)
theorem enc_ZP : Us.enc pH = (0, ZP) := by
  unfold ZP
  exact pair_of (by decide +kernel)
theorem enc_lH : Us.enc lH = (9, []) := by kernel_rfl
theorem Z0_is : Z0 = reps [0] 100 ++ [48, 48, 48, 48, 48, 48, 48, 0] ++ [48, 48, 48, 48, 48, 48, 48, 0] ++ [48, 48, 48, 48, 48, 48, 48, 0] ++ [48, 48, 48, 48, 48, 48, 48, 48, 48, 48, 48, 0] ++ [48, 48, 48, 48, 48, 48, 48, 48, 48, 48, 48, 0] ++ [48, 48, 55, 48, 55, 55, 0, 32] ++ reps [0] 101 ++ [117, 115, 116, 97, 114, 0, 48, 48] ++ reps [0] 64 ++ [48, 48, 48, 48, 48, 48, 48, 0] ++ [48, 48, 48, 48, 48, 48, 48, 0] ++ reps [0] 167 := by
  unfold Z0
  decide +kernel
theorem ZA_len : ZA.length = 512 := by unfold ZA; decide +kernel
theorem ZP_len : ZP.length = 512 := by unfold ZP; decide +kernel
theorem ZA_at1 : (ZA.drop 100).take 8 = [48, 48, 48, 48, 54, 52, 52, 0] := by unfold ZA; decide +kernel
theorem ZA_at2 : (ZA.drop 148).take 8 = [48, 48, 55, 51, 51, 54, 0, 32] := by unfold ZA; decide +kernel
theorem ZP_at1 : (ZP.drop 0).take 100 = reps [98] 100 := by unfold ZP; decide +kernel
theorem ZP_at2 : (ZP.drop 345).take 155 = reps [97] 99 ++ reps [0] 56 := by unfold ZP; decide +kernel
theorem ext_bs (l : List UInt8) (a b : Nat) : (bs l).extract a b = bs ((l.drop a).take (b - a)) := by rw [← bs_bl ((bs l).extract a b), bl_extract, bl_bs]
theorem short_0 : Short Us.hd0 := ⟨by decide, by decide, by decide, by decide⟩
theorem short_zH : Short zH := ⟨by decide, by decide, by decide, by decide⟩
theorem short_lH : Short lH := ⟨by decide +kernel, by decide, by decide, by decide⟩
theorem short_pH : Short pH := ⟨by decide +kernel, by decide, by decide, by decide⟩
theorem bne_of {a b : ByteArray} (h : a = b) : (!a.toList == b.toList) = false := by subst h; simp
theorem want0 {o1 o2 o3 o4 : ByteArray} (O1 : Hid (o1 = bs (reps (bl ⟨#[0]⟩) 100))) (O2 : Hid (o2 = bs (reps (bl ⟨#[0]⟩) 101))) (O3 : Hid (o3 = bs (reps (bl ⟨#[0]⟩) 64))) (O4 : Hid (o4 = bs (reps (bl ⟨#[0]⟩) 167))) :
    bs Z0 = o1 ++ ⟨#[48, 48, 48, 48, 48, 48, 48, 0]⟩ ++ ⟨#[48, 48, 48, 48, 48, 48, 48, 0]⟩ ++ ⟨#[48, 48, 48, 48, 48, 48, 48, 0]⟩ ++ ⟨#[48, 48, 48, 48, 48, 48, 48, 48, 48, 48, 48, 0]⟩ ++ ⟨#[48, 48, 48, 48, 48, 48, 48, 48, 48, 48, 48, 0]⟩ ++ ⟨#[48, 48, 55, 48, 55, 55, 0, 32]⟩ ++ o2 ++ ⟨#[117, 115, 116, 97, 114, 0, 48, 48]⟩ ++ o3 ++ ⟨#[48, 48, 48, 48, 48, 48, 48, 0]⟩ ++ ⟨#[48, 48, 48, 48, 48, 48, 48, 0]⟩ ++ o4 := by
  have e7 : (⟨#[48, 48, 48, 48, 48, 48, 48, 0]⟩ : ByteArray) = bs [48, 48, 48, 48, 48, 48, 48, 0] := rfl
  have e11 : (⟨#[48, 48, 48, 48, 48, 48, 48, 48, 48, 48, 48, 0]⟩ : ByteArray) = bs [48, 48, 48, 48, 48, 48, 48, 48, 48, 48, 48, 0] := rfl
  have es : (⟨#[48, 48, 55, 48, 55, 55, 0, 32]⟩ : ByteArray) = bs [48, 48, 55, 48, 55, 55, 0, 32] := rfl
  have eu : (⟨#[117, 115, 116, 97, 114, 0, 48, 48]⟩ : ByteArray) = bs [117, 115, 116, 97, 114, 0, 48, 48] := rfl
  have b0 : bl ⟨#[0]⟩ = [0] := rfl
  rw [O1.out, O2.out, O3.out, O4.out, e7, e11, es, eu, b0]
  simp only [bs_append]
  rw [Z0_is]
end Go.Proofs.YtfhfahlocpmdkaaDoor
