/- A header laid piece by piece over bytes 0: what stands there in the end. -/
import Derived.Test.YtfhfahlocpmdkaaDoorUsPlain
namespace Go.Proofs.YtfhfahlocpmdkaaDoor.Us
def put (L : List UInt8) (off : Nat) (cs : List UInt8) : List UInt8 := L.take off ++ (cs ++ L.drop (off + cs.length))
theorem put_length (L : List UInt8) (off : Nat) (cs : List UInt8) (h : off + cs.length ≤ L.length) : (put L off cs).length = L.length := by simp [put]; omega
theorem put_nil (L : List UInt8) (off : Nat) : put L off [] = L := by simp [put]
/-- one digit more, from behind. -/
theorem put_digit (L : List UInt8) (at_ n x : Nat) (h : at_ + n < L.length) : put (L.set (at_ + n) (UInt8.ofNat (48 + x % 8))) at_ (oct n (x / 8)) = put L at_ (oct (n + 1) x) := by
  have e1 : (L.set (at_ + n) (UInt8.ofNat (48 + x % 8))).take at_ = L.take at_ := by
    rw [List.take_set_of_le (by omega)]
  have e2 : (L.set (at_ + n) (UInt8.ofNat (48 + x % 8))).drop (at_ + n) = UInt8.ofNat (48 + x % 8) :: L.drop (at_ + (n + 1)) := by
    rw [List.drop_eq_getElem_cons (by rw [List.length_set]; exact h), List.getElem_set_self, List.drop_set_of_lt (by omega), Nat.add_assoc]
  rw [put, put, oct_length, oct_length, e1, e2, oct, List.append_assoc, List.singleton_append]
theorem put_pad (D cs : List UInt8) (m off : Nat) (h1 : D.length ≤ off) (h2 : off - D.length + cs.length ≤ m) :
    put (D ++ zs m) off cs = (D ++ (zs (off - D.length) ++ cs)) ++ zs (m - (off - D.length) - cs.length) := by
  have e1 : (D ++ zs m).take off = D ++ zs (off - D.length) := by
    rw [List.take_append, List.take_of_length_le h1, zs, List.take_replicate, Nat.min_eq_left (by omega)]; rfl
  have e2 : (D ++ zs m).drop (off + cs.length) = zs (m - (off - D.length) - cs.length) := by
    rw [List.drop_append, List.drop_of_length_le (by omega), List.nil_append, zs, List.drop_replicate, zs]
    congr 1
    omega
  rw [put, e1, e2]
  simp only [List.append_assoc]
theorem put_mid (A Z B cs : List UInt8) (h : cs.length ≤ Z.length) : put (A ++ Z ++ B) A.length cs = A ++ (cs ++ Z.drop cs.length) ++ B := by
  have e1 : (A ++ Z ++ B).take A.length = A := by rw [List.append_assoc, List.take_left]
  have e2 : (A ++ Z ++ B).drop (A.length + cs.length) = Z.drop cs.length ++ B := by
    rw [List.append_assoc, ← List.drop_drop, List.drop_left, List.drop_append_of_le_length h]
  rw [put, e1, e2]
  simp only [List.append_assoc]
/-- the pieces, in the order in which they are laid, the sum left out. -/
def laid (h : Hd) (pre name : List UInt8) : List UInt8 :=
  put (put (put (put (put (put (put (put (put (put (put (put (put (put (zs 512) 0 name) 100 (oct 7 h.mode.toNat)) 108 (oct 7 h.uid.toNat)) 116 (oct 7 h.gid.toNat)) 124 (oct 11 h.size.toNat)) 136 (oct 11 h.time.toNat)) 156 [h.type]) 157 h.link) 257 magic) 265 h.user) 297 h.group) 329 (oct 7 h.major.toNat)) 337 (oct 7 h.minor.toNat)) 345 pre
/-- L begins with D, of length n, and has bytes 0 behind it. -/
structure Lay (L D : List UInt8) (n : Nat) : Prop where
  len : D.length = n
  le : n ≤ 512
  eq : L = D ++ zs (512 - n)
theorem zs_add (a b : Nat) : zs (a + b) = zs a ++ zs b := by rw [zs, zs, zs, List.replicate_append_replicate]
theorem Lay.pad {L D : List UInt8} {n : Nat} (h : Lay L D n) (k : Nat) (hk : n + k ≤ 512) : Lay L (D ++ zs k) (n + k) := by
  refine ⟨by rw [List.length_append, h.len, zs_length], hk, ?_⟩
  rw [h.eq, List.append_assoc, ← zs_add]
  congr 2
  omega
theorem Lay.put {L D : List UInt8} {n : Nat} (h : Lay L D n) (s : List UInt8) (k : Nat) (hs : s.length ≤ k) (hk : n + k ≤ 512) : Lay (put L n s) (D ++ fill k s) (n + k) := by
  have hl := h.len
  have h1 : Lay (Us.put L n s) (D ++ s) (n + s.length) := by
    refine ⟨by rw [List.length_append, hl], by omega, ?_⟩
    rw [h.eq, put_pad _ _ _ _ (by omega) (by omega), hl, Nat.sub_self]
    simp only [zs, List.replicate_zero, List.nil_append]
    rw [show 512 - n - 0 - s.length = 512 - (n + s.length) by omega]
  have h2 := h1.pad (k - s.length) (by omega)
  rw [show n + s.length + (k - s.length) = n + k by omega, List.append_assoc] at h2
  rw [fill, List.take_of_length_le hs]
  exact h2
theorem fill_oct (d x : Nat) : fill (d + 1) (oct d x) = oct d x ++ [0] := by
  rw [fill, oct_length, List.take_of_length_le (by rw [oct_length]; omega), Nat.add_sub_cancel_left]; rfl
theorem laid_lay (h : Hd) (pre name : List UInt8) (h1 : name.length ≤ 100) (h2 : h.link.length ≤ 100) (h3 : h.user.length ≤ 31) (h4 : h.group.length ≤ 31) (h5 : pre.length ≤ 155) :
    laid h pre name = ahead h name ++ zs 8 ++ behind h pre := by
  have L0 : Lay (zs 512) [] 0 := ⟨rfl, by omega, rfl⟩
  have L1 := L0.put name 100 h1 (by omega)
  have L2 := L1.put (oct 7 h.mode.toNat) 8 (by rw [oct_length]; omega) (by omega)
  have L3 := L2.put (oct 7 h.uid.toNat) 8 (by rw [oct_length]; omega) (by omega)
  have L4 := L3.put (oct 7 h.gid.toNat) 8 (by rw [oct_length]; omega) (by omega)
  have L5 := L4.put (oct 11 h.size.toNat) 12 (by rw [oct_length]; omega) (by omega)
  have L6 := L5.put (oct 11 h.time.toNat) 12 (by rw [oct_length]; omega) (by omega)
  have L7 := L6.pad 8 (by omega)
  have L8 := L7.put [h.type] 1 (by simp) (by omega)
  have L9 := L8.put h.link 100 h2 (by omega)
  have L10 := L9.put magic 8 (by simp [magic]) (by omega)
  have L11 := L10.put h.user 32 (by omega) (by omega)
  have L12 := L11.put h.group 32 (by omega) (by omega)
  have L13 := L12.put (oct 7 h.major.toNat) 8 (by rw [oct_length]; omega) (by omega)
  have L14 := L13.put (oct 7 h.minor.toNat) 8 (by rw [oct_length]; omega) (by omega)
  have L15 := L14.put pre 155 h5 (by omega)
  have e : laid h pre name = _ := L15.eq
  rw [e, fill_oct, fill_oct, fill_oct, fill_oct, fill_oct, fill_oct, fill_oct, ahead, behind]
  simp only [List.append_assoc, List.nil_append, Nat.reduceAdd, Nat.reduceSub]
  rfl
/-- the sum, laid last. -/
theorem laid_sum (h : Hd) (pre name : List UInt8) (x : Nat) : put (put (ahead h name ++ zs 8 ++ behind h pre) 148 (oct 6 x)) 154 [0, 32] = ahead h name ++ (oct 6 x ++ [0, 32]) ++ behind h pre := by
  have e1 := put_mid (ahead h name) (zs 8) (behind h pre) (oct 6 x) (by rw [oct_length, zs_length]; omega)
  rw [ahead_length, oct_length] at e1
  rw [e1]
  have e2 := put_mid (ahead h name ++ oct 6 x) ((zs 8).drop 6) (behind h pre) [0, 32] (by decide)
  rw [List.length_append, ahead_length, oct_length] at e2
  simp only [List.append_assoc] at e2 ⊢
  exact e2
theorem bytes_laid (h : Hd) (pre name : List UInt8) (h1 : name.length ≤ 100) (h2 : h.link.length ≤ 100) (h3 : h.user.length ≤ 31) (h4 : h.group.length ≤ 31) (h5 : pre.length ≤ 155) :
    put (put (laid h pre name) 148 (oct 6 (sumFrom 0 (laid h pre name)))) 154 [0, 32] = bytes h pre name := by
  rw [laid_lay h pre name h1 h2 h3 h4 h5, laid_sum, bytes]
end Go.Proofs.YtfhfahlocpmdkaaDoor.Us
