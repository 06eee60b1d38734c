/- strataref14's Nothing, Directive, trimmed, Copies, bare, walked. -/
import Derived.Test.YtpgnfianffjpnaaGreatDoorLrB
namespace Go.Proofs.YtpgnfianffjpnaaGreatDoor
open Go Go.RowKit
namespace Lx
structure HdIs (s : Bs) (c : UInt8) (r : Bs) (k : Nat) : Prop where
  val : headI s = (k : Int)
  lt : k < s.length
  get : s[k]? = some c
  dropK : s.drop k = c :: r
  drop1 : s.drop (k + 1) = r
  headN : headN s = k
  isIn : blank c = false
  rgt : k < (rgt s).length
theorem lft_headB {s r : Bs} {c : UInt8} (h : Gl.lft s = c :: r) : blank c = false := by
  unfold Gl.lft Lib.trimLeftS at h
  have := List.head_dropWhile_not (p := (Gl.bls.contains ·)) (l := s) (by rw [h]; simp)
  simp only [h, List.head_cons] at this
  rw [← blank_bls]; simpa using this
theorem lft_head {s r : Bs} {c : UInt8} (h : Gl.lft s = c :: r) : HdIs s c r (headN s) := by
  have hd : s.drop (headN s) = c :: r := by rw [← lft_drop]; exact h
  have hl := congrArg List.length hd
  rw [List.length_drop, List.length_cons] at hl
  have hlt : headN s < s.length := by omega
  have hget : s[headN s]? = some c := by
    rw [List.drop_eq_getElem_cons hlt] at hd
    injection hd with h1 _
    rw [List.getElem?_eq_getElem hlt, h1]
  have hin := lft_headB h
  refine ⟨?_, hlt, hget, hd, ?_, rfl, hin, ?_⟩
  · rw [headI, hdI, if_neg (by rw [h]; simp)]; rfl
  · rw [List.drop_eq_getElem_cons hlt] at hd
    injection hd
  · obtain ⟨b, hb, hbb⟩ := rgt_split s
    rcases Nat.lt_or_ge (headN s) (Lx.rgt s).length with h1 | h1
    · exact h1
    · exfalso
      have h2 : c ∈ b := by
        have e5 : s[headN s]? = (Lx.rgt s ++ b)[headN s]? := congrArg (fun l : Bs => l[headN s]?) hb
        rw [e5, List.getElem?_append_right h1] at hget
        exact List.mem_of_getElem? hget
      have := hbb c h2
      rw [isB_blank, hin] at this
      cases this
theorem head_nil {s : Bs} (h : Gl.lft s = []) : headI s = -1 := by rw [headI, hdI, if_pos h]
theorem trim_is {s r : Bs} {c : UInt8} {k : Nat} (h : HdIs s c r k) : Gl.trimL s = (s.drop k).take ((lastI s + 1).toNat - k) := by
  obtain ⟨b, hb, hbb⟩ := rgt_split s
  obtain ⟨m, hm⟩ : ∃ m, (rgt s).length = m := ⟨_, rfl⟩
  have e1 : rgt s = s.take m := by conv => rhs; rw [hb]
                                   rw [← hm, List.take_left]
  have e2 : (lastI s + 1).toNat = m := by rw [lastI, hm]; omega
  have hkm : k < m := by rw [← hm]; exact h.rgt
  obtain ⟨x, hx, hxb⟩ := lft_split s
  have hl : Gl.lft s = c :: r := by rw [lft_drop, h.headN, h.dropK]
  have hxl : x.length = k := by
    have e3 := congrArg List.length hx
    have e4 := congrArg List.length h.dropK
    rw [List.length_append, hl] at e3
    rw [List.length_drop] at e4
    have := h.lt
    omega
  rw [show Gl.trimL s = Gl.lft (rgt s) from rfl, e1, e2]
  rw [h.dropK]
  conv => lhs; rw [hx, hl, List.take_append]
  rw [hxl, List.take_of_length_le (by omega), lft_app _ hxb]
  obtain ⟨j, rfl⟩ : ∃ j, m = k + (j + 1) := ⟨m - k - 1, by omega⟩
  rw [show k + (j + 1) - k = j + 1 by omega, List.take_succ_cons, lft_cons _ (by rw [isB_blank]; exact h.isIn)]
theorem past_drop {s : Bs} {i : Nat} (h : i ≤ s.length) : s.drop (pastN s i) = Gl.lft (s.drop i) ∧ i ≤ pastN s i ∧ pastN s i ≤ s.length := by
  have h1 := lft_drop (s.drop i)
  have h2 := lft_le (s.drop i)
  rw [List.length_drop] at h2
  refine ⟨?_, by unfold pastN; omega, by unfold pastN; omega⟩
  rw [h1, List.drop_drop]
  congr 1
  unfold pastN headN
  rw [List.length_drop]
  omega
def dirI (l : Bs) : Int := match dirP l with
  | none => -1
  | some p => (p : Int) - 1
end Lx
theorem get_of {s : List UInt8} {k : Nat} {c : UInt8} (h : s[k]? = some c) (hk : k < (bs s).size) : (bs s)[k] = c := by
  have := bs_at s k hk
  rw [h] at this
  injection this with this
  exact this.symm
set_option maxRecDepth 100000 in
theorem nothing14_any (s : List UInt8) (hs : s.length ≤ 2000000) (w : World) {b : Bool} (H : Hid (Lx.nothingL s = b)) : Calls Tryz.prog 32 #[.string (bs s)] w fun e w' => e = .returned (.bool b) ∧ w = w' := by
  obtain ⟨t, ht⟩ : ∃ t, Gl.lft s = t := ⟨_, rfl⟩
  have hb := H.out
  unfold Lx.nothingL at hb
  rw [ht] at hb
  cases t with
  | nil =>
    have HB := Lib.hid hb
    have HV : Hid (Lx.headI s = -1) := Lib.hid (Lx.head_nil ht)
    clear hb H ht
    go_enter Tryz.func32, Tryz.ntmps32
    go_wp2_with fail
    refine (head_any s hs _ HV).mono ?_
    rintro e w1 ⟨rfl, rfl⟩
    go_wp2_with fail
    go_ret
    exact ⟨by rw [← HB.out]; rfl, rfl⟩
  | cons c r =>
    have hd := Lx.lft_head ht
    obtain ⟨k, hk⟩ : ∃ k, Lx.headN s = k := ⟨_, rfl⟩
    rw [hk] at hd
    have HV : Hid (Lx.headI s = (k : Int)) := Lib.hid hd.val
    have hkn : k < (bs s).size := by rw [bs_size]; exact hd.lt
    have hc := get_of hd.get hkn
    have k0 : decide ((k : Int) < 0) = false := by rw [decide_eq_false_iff_not]; omega
    have k1 : (0 : Int) ≤ (k : Int) := by omega
    have k2 : (k : Int) < ((bs s).size : Int) := by omega
    have hby : ((bs s)[k]'hkn).toNat < 256 := UInt8.toNat_lt _
    obtain ⟨q, hq⟩ : ∃ q, ((((bs s)[k]'hkn).toNat : Int) == 35) = q := ⟨_, rfl⟩
    have HB : Hid (b = q) := by show _ = _; rw [← hq, hc, ← hb]; exact (u8_eq c 35 ▸ (by rw [Bool.eq_iff_iff]; simp))
    clear hb H ht hd hc hk
    go_enter Tryz.func32, Tryz.ntmps32
    go_wp2_with fail
    refine (head_any s hs _ HV).mono ?_
    rintro e w1 ⟨rfl, rfl⟩
    go_wp2_with fail
    go_ret
    exact ⟨by rw [HB.out]; rfl, rfl⟩
set_option maxRecDepth 100000 in
theorem trimmed14_any (s : List UInt8) (hs : s.length ≤ 2000000) (w : World) {t : List UInt8} (H : Hid (Gl.trimL s = t)) : Calls Tryz.prog 81 #[.string (bs s)] w fun e w' => e = .returned (.string (bs t)) ∧ w = w' := by
  obtain ⟨l, ht⟩ : ∃ l, Gl.lft s = l := ⟨_, rfl⟩
  cases l with
  | nil =>
    have HB : Hid (t = []) := by
      show _ = _
      rw [← H.out]
      obtain ⟨b, hb, hbb⟩ := Lx.lft_split s
      rw [ht, List.append_nil] at hb
      rw [hb]
      have := Lx.trim_mid (b := b) (w := []) (d := []) hbb (by simp) (by simp)
      simpa using this
    have HV : Hid (Lx.headI s = -1) := Lib.hid (Lx.head_nil ht)
    clear H ht
    go_enter Tryz.func81, Tryz.ntmps81
    go_wp2_with fail
    refine (head_any s hs _ HV).mono ?_
    rintro e w1 ⟨rfl, rfl⟩
    go_wp2_with fail
    go_ret
    exact ⟨by rw [HB.out]; rfl, rfl⟩
  | cons c r =>
    have hd := Lx.lft_head ht
    obtain ⟨k, hk⟩ : ∃ k, Lx.headN s = k := ⟨_, rfl⟩
    rw [hk] at hd
    have HV : Hid (Lx.headI s = (k : Int)) := Lib.hid hd.val
    have k0 : decide ((k : Int) < 0) = false := by rw [decide_eq_false_iff_not]; omega
    obtain ⟨m, hm⟩ : ∃ m : Nat, (Lx.rgt s).length = m := ⟨_, rfl⟩
    have hkm : k < m := by rw [← hm]; exact hd.rgt
    have hms : m ≤ s.length := by rw [← hm]; exact Lx.trimR_le s _
    have HL : Hid (Lx.lastI s = (m : Int) - 1) := by show _ = _; rw [Lx.lastI, hm]
    have HT : Hid (t = (s.drop k).take (m - k)) := by
      show _ = _
      rw [← H.out, Lx.trim_is hd, HL.out]
      congr 2
      omega
    have hsl := slice_bs s k m (by omega) hms
    rw [← HT.out] at hsl
    have hm2 : m ≤ 2000000 := by omega
    have hm0 : (m : Int) - 1 + 1 = (m : Int) := by omega
    clear H ht hd hk hm
    go_enter Tryz.func81, Tryz.ntmps81
    go_wp2_with fail
    refine (head_any s hs _ HV).mono ?_
    rintro e w1 ⟨rfl, rfl⟩
    go_wp2_with fail
    refine (last_any s hs _ HL).mono ?_
    rintro e w1 ⟨rfl, rfl⟩
    go_wp2_with fail
    go_ret
    exact ⟨rfl, rfl⟩
end Go.Proofs.YtpgnfianffjpnaaGreatDoor
