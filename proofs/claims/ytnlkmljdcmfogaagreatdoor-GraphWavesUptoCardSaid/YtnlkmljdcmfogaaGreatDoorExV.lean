/- expand's variable, walked over what read answers. -/
import Derived.Test.YtnlkmljdcmfogaaGreatDoorExR0
import Derived.Test.YtnlkmljdcmfogaaGreatDoorRely0
import Derived.StillTailTactics
import Derived.Test.YtnlkmljdcmfogaaGreatDoorExT20
namespace Go.Proofs.YtnlkmljdcmfogaaGreatDoor
open Go Go.RowKit
namespace Ex
/-- what stands behind a dollar. -/
def vR (e : UInt8) (r : List UInt8) : R := match vstL r with
  | .bad => .inl 4
  | .flat t r' => .inr (t, r')
  | .deep n op r' => match readL e .braces r' with
    | .inl z => .inl z
    | .inr (l, r2) => .inr ([.v n op l], r2)
theorem read_dollar {e : UInt8} {k : Kd} {r : List UInt8} (h0 : (36 : UInt8) ≠ e) : (∀ z, vR e r = .inl z → readL e k (36 :: r) = .inl z) ∧ (∀ t r', vR e r = .inr (t, r') → readL e k (36 :: r) = adds t (readL e k r')) := by
  unfold vR
  cases hv : vstL r with
  | bad =>
    refine ⟨fun z h => ?_, fun t r' h => by cases h⟩
    injection h with h
    rw [read_bad h0 hv, h]
  | flat t r' =>
    refine ⟨fun z h => (by cases h), fun t2 r2 h => ?_⟩
    injection h with h
    injection h with h1 h2
    subst h1 h2
    exact read_flat h0 hv
  | deep n op r' =>
    simp only
    cases hb : readL e .braces r' with
    | inl z =>
      refine ⟨fun z2 h => ?_, fun t r' h => by cases h⟩
      injection h with h
      subst h
      exact read_deep_err h0 hv hb
    | inr p =>
      obtain ⟨l, r2⟩ := p
      refine ⟨fun z h => (by cases h), fun t2 r3 h => ?_⟩
      injection h with h
      injection h with h1 h2
      subst h1 h2
      exact read_deep h0 hv hb
/-- behind a brace, by what stands behind the name. -/
theorem vR_name {e : UInt8} {r : List UInt8} (h : 0 < nmL r) : vR e r = .inr ([.v (r.take (nmL r)) 0 []], r.drop (nmL r)) := by
  unfold vR vstL
  rw [if_pos h]
theorem vR_dollar {e : UInt8} {r : List UInt8} (h : nmL r = 0) (h2 : ([123] : List UInt8).isPrefixOf r = false) : vR e r = .inr ([.b 36], r) := by
  unfold vR vstL
  rw [if_neg (by omega)]
  cases r with
  | nil => rfl
  | cons c r =>
    have hc : c ≠ 123 := fun e => by subst e; simp [List.isPrefixOf] at h2
    split
    · rename_i h3; split at h3 <;> first | (rename_i h4; injection h4 with h4; exact absurd h4 hc) | cases h3
    · rename_i h3; split at h3 <;> first | (rename_i h4; injection h4 with h4; exact absurd h4 hc) | (injection h3 with h3 h5; rw [← h3, ← h5])
    · rename_i h3; split at h3 <;> first | (rename_i h4; injection h4 with h4; exact absurd h4 hc) | cases h3
theorem vR_brace (e : UInt8) (r : List UInt8) : vR e (123 :: r) = match braceL r with
  | .bad => .inl 4
  | .flat t r' => .inr (t, r')
  | .deep n op r' => match readL e .braces r' with
    | .inl z => .inl z
    | .inr (l, r2) => .inr ([.v n op l], r2) := by
  unfold vR vstL
  rw [if_neg (by rw [show nmL (123 :: r) = 0 from rfl]; decide)]
  rfl
theorem brace_bad {r : List UInt8} (h : nmL r = 0 ∨ (([125] : List UInt8).isPrefixOf (r.drop (nmL r)) = false ∧ ([58, 45] : List UInt8).isPrefixOf (r.drop (nmL r)) = false ∧ ([58, 43] : List UInt8).isPrefixOf (r.drop (nmL r)) = false)) : braceL r = .bad := by
  unfold braceL
  split
  · rfl
  · rename_i h0
    rcases h with h | ⟨h1, h2, h3⟩
    · exact absurd h h0
    · split
      · rename_i q; rw [q] at h1; simp [List.isPrefixOf] at h1
      · rename_i q; rw [q] at h2; simp [List.isPrefixOf] at h2
      · rename_i q; rw [q] at h3; simp [List.isPrefixOf] at h3
      · rfl
theorem brace_end {r : List UInt8} (h0 : nmL r ≠ 0) (h : ([125] : List UInt8).isPrefixOf (r.drop (nmL r)) = true) : braceL r = .flat [.v (r.take (nmL r)) 0 []] (r.drop (nmL r + 1)) := by
  unfold braceL
  rw [if_neg h0]
  rw [List.isPrefixOf_iff_prefix] at h
  obtain ⟨t, ht⟩ := h
  rw [← List.drop_drop, ← ht]
  rfl
theorem brace_op {r : List UInt8} {c : UInt8} (h0 : nmL r ≠ 0) (hc : c = 45 ∨ c = 43) (h : ([58, c] : List UInt8).isPrefixOf (r.drop (nmL r)) = true) : braceL r = .deep (r.take (nmL r)) c (r.drop (nmL r + 2)) := by
  unfold braceL
  rw [if_neg h0]
  rw [List.isPrefixOf_iff_prefix] at h
  obtain ⟨t, ht⟩ := h
  rw [← List.drop_drop, ← ht]
  rcases hc with rfl | rfl <;> rfl
end Ex
def RdErr (w : World) (R z : Nat) (r : Ending) (w' : World) : Prop := r = .returned (.tuple #[.slice none 0 0, eno z]) ∧ Fx (fun b => b = R) w w'
def RdOk (w : World) (R : Nat) (s : List UInt8) (e : UInt8) (p : Nat) (l : List Ex.Tk) (t : List UInt8) (r : Ending) (w' : World) : Prop := ∃ v xs, r = .returned (.tuple #[v, .nilIface]) ∧ w'.ownsRow w.heap.size 401 1 v xs.length xs ∧ PL w' (fun b => b < w.heap.size) l xs ∧ Rdr w' R s (s.length - t.length) e ∧ xs.length + t.length + p ≤ s.length ∧ Fx (fun b => b = R) w w'
/-- what read answers. -/
def RdAns (w : World) (R : Nat) (s : List UInt8) (e : UInt8) (p : Nat) (x : Ex.R) (r : Ending) (w' : World) : Prop := match x with
  | .inl z => RdErr w R z r w'
  | .inr (l, t) => RdOk w R s e p l t r w'
def VrErr (w : World) (R z : Nat) (r : Ending) (w' : World) : Prop := ∃ v, r = .returned (.tuple #[v, eno z]) ∧ Fx (fun b => b = R) w w'
def VrOk (w : World) (R : Nat) (s : List UInt8) (e : UInt8) (p : Nat) (l : List Ex.Tk) (t : List UInt8) (r : Ending) (w' : World) : Prop := ∃ v d, r = .returned (.tuple #[v, .nilIface]) ∧ PV w' (fun b => b < w.heap.size) d l v ∧ Rdr w' R s (s.length - t.length) e ∧ t.length + p < s.length ∧ Fx (fun b => b = R) w w'
/-- what variable answers. -/
def VrAns (w : World) (R : Nat) (s : List UInt8) (e : UInt8) (p : Nat) (x : Ex.R) (r : Ending) (w' : World) : Prop := match x with
  | .inl z => VrErr w R z r w'
  | .inr (l, t) => VrOk w R s e p l t r w'
theorem Rdr.set_ {w : World} {R p : Nat} {s : List UInt8} {e : UInt8} (h : Rdr w R s p e) (q : Nat) : Rdr (w.setCell ⟨R, 1, none⟩ (.int .i64 (q : Int))) R s q e := by
  have := Blk.set_ h 1 (.int .i64 (q : Int))
  unfold Rdr
  simpa using this
theorem Rdr.new {w w' : World} {R p : Nat} {s : List UInt8} {e : UInt8} (h : Rdr w R s p e) (hb : Below w.heap.size w w') : Rdr w' R s p e := Blk.below h hb (Blk.lt h)
set_option maxRecDepth 100000 in
set_option maxHeartbeats 1000000 in
theorem variable_any {s : List UInt8} {e : UInt8} {p : Nat} (hs : s.length ≤ exMax) (hp : p < s.length)
    (IH : ∀ (p' : Nat) (R : Nat) (w : World), p < p' → p' ≤ s.length → Rdr w R s p' e → Calls Tryz.prog 237 #[.pointer (some ⟨R, 0, none⟩), .int .i64 1] w (RdAns w R s e p' (Ex.readL e .braces (s.drop p'))))
    {w : World} {R : Nat} (h : Rdr w R s p e) {x : Ex.R} (H : Hid (Ex.vR e (s.drop (p + 1)) = x)) :
    Calls Tryz.prog 266 #[.pointer (some ⟨R, 0, none⟩)] w (VrAns w R s e p x) := by
  have c1 : w.cell? ⟨R, 1, none⟩ = some (.int .i64 (p : Int)) := Blk.cell h 1
  have f1 := Blk.frozen h 1
  have hs2 : s.length ≤ 2000000 := hs
  have h1 := Rdr.set_ h (p + 1)
  have k1 := Fx.set_ w ⟨R, 1, none⟩ (.int .i64 ((p + 1 : Nat) : Int))
  rw [show ((p + 1 : Nat) : Int) = (p : Int) + 1 by omega] at h1 k1
  obtain ⟨w1, hw1⟩ : ∃ w1, w.setCell ⟨R, 1, none⟩ (.int .i64 ((p : Int) + 1)) = w1 := ⟨_, rfl⟩
  rw [hw1] at h1 k1
  have HW1 := Lib.hid hw1
  have H1 := Lib.hid h1
  have K1 := Lib.hid k1
  obtain ⟨r, hr⟩ : ∃ r, Hid (s.drop (p + 1) = r) := ⟨_, Lib.hid rfl⟩
  have HRL : Hid (r.length = s.length - (p + 1)) := Lib.hid (by rw [← hr.out, List.length_drop])
  obtain ⟨n, hn⟩ : ∃ n, Hid (Ex.nmL r = n) := ⟨_, Lib.hid rfl⟩
  have hnl : n ≤ r.length := by have := Ex.nm_le r; rw [hn.out] at this; exact this
  have hrl : r.length + p + 1 = s.length := by have := HRL.out; omega
  obtain ⟨N, hN⟩ : ∃ N, Hid (r.take n = N) := ⟨_, Lib.hid rfl⟩
  have hNl : N.length = n := by rw [← hN.out, List.length_take]; omega
  have HNL := Lib.hid hNl
  have HX : Hid (Ex.vR e r = x) := Lib.hid (by rw [← hr.out]; exact H.out)
  have HI := Lib.hid IH
  clear h h1 k1 hw1 H IH hNl
  go_enter Tryz.func266, Tryz.ntmps266
  go_upto_region 2 with fail
  rw [HW1.out]
  go_wp2_with fail
  refine (name_any H1.out (by omega) hs (by rw [hr.out]; exact hn)).mono ?_
  rintro a w2 ⟨rfl, b2⟩
  rw [hr.out, hN.out]
  have H2 := Lib.hid (Rdr.new H1.out b2)
  have K2 := Lib.hid (K1.out.trans (Fx.new b2))
  clear b2 c1 f1
  have c0 : w2.cell? ⟨R, 0, none⟩ = some (.string (bs s)) := Blk.cell H2.out 0
  have c1 : w2.cell? ⟨R, 1, none⟩ = some (.int .i64 ((p + 1 : Nat) : Int)) := Blk.cell H2.out 1
  have f1 := Blk.frozen H2.out 1
  rw [show ((p + 1 : Nat) : Int) = (p : Int) + 1 by omega] at c1
  rcases Nat.eq_zero_or_pos n with h0 | h0
  · have z1 : (bs N).toList.isEmpty = true := by
      rw [bs_list]
      cases N with
      | nil => rfl
      | cons _ _ => have := HNL.out; simp at this; omega
    have sl : ∀ wx, (Instr.slice 9 (.string (bs s)) (some (.int .i64 ((p : Int) + 1))) none none).run Tryz.prog wx = .ok (.string (bs r)) wx := by
      have := slice_from s (p + 1) ((p : Int) + 1) (by omega) (by omega)
      rwa [hr.out] at this
    obtain ⟨b, hb⟩ : ∃ b, Hid (([123] : List UInt8).isPrefixOf r = b) := ⟨_, Lib.hid rfl⟩
    cases b with
    | false =>
      have HV : Hid (x = .inr ([.b 36], r)) := Lib.hid (by rw [← HX.out, Ex.vR_dollar (hn.out.trans h0) hb.out])
      have hpl : (p : Int) + 1 ≤ ((bs s).size : Int) := by rw [bs_size]; omega
      go_wp2_with fail
      go_quiet ((go_at_call 176; exact Calls.quiet_of_same ((hasPrefix_any r [123] _ hb).mono fun _ _ h => ⟨h.1, h.2.symm⟩)))
      go_wp2_with fail
      go_ret2
      rw [HV.out]
      refine ⟨_, 0, rfl, PV.lit (s := [36]) 0 (by decide), ?_, by omega, (K2.out.trans (Fx.new (below_drewN (Below.refl _ _) _)))⟩
      rw [show s.length - r.length = p + 1 by omega]
      exact Rdr.new H2.out (below_drewN (Below.refl _ _) _)
    | true =>
      obtain ⟨t, rfl⟩ : ∃ t, r = 123 :: t := by
        have := hb.out
        rw [List.isPrefixOf_iff_prefix] at this
        obtain ⟨t, ht⟩ := this
        exact ⟨t, ht.symm⟩
      have hlen : (123 :: t).length = t.length + 1 := rfl
      rw [hlen] at hrl hnl
      have HT : Hid (s.drop (p + 2) = t) := Lib.hid (by rw [← List.drop_drop (i := 1) (j := p + 1), hr.out]; rfl)
      obtain ⟨n2, hn2⟩ : ∃ n, Hid (Ex.nmL t = n) := ⟨_, Lib.hid rfl⟩
      have hnl2 : n2 ≤ t.length := by have := Ex.nm_le t; rw [hn2.out] at this; exact this
      obtain ⟨N2, hN2⟩ : ∃ N, Hid (t.take n2 = N) := ⟨_, Lib.hid rfl⟩
      have HNL2 : Hid (N2.length = n2) := Lib.hid (by rw [← hN2.out, List.length_take]; omega)
      have hz2 : (bs N2).size ≤ 2000000 := by rw [bs_size, HNL2.out]; omega
      have HZ2 : Hid ((bs N2).size = n2) := Lib.hid (by rw [bs_size, HNL2.out])
      obtain ⟨u, hu⟩ : ∃ u, Hid (t.drop n2 = u) := ⟨_, Lib.hid rfl⟩
      have HUL : Hid (u.length = t.length - n2) := Lib.hid (by rw [← hu.out, List.length_drop])
      have HUD : Hid (s.drop (p + 2 + n2) = u) := Lib.hid (by rw [← List.drop_drop, HT.out, hu.out])
      have hpl : (p : Int) + 1 ≤ ((bs s).size : Int) := by rw [bs_size]; omega
      clear hlen
      go_wp2_with fail
      go_quiet ((go_at_call 176; exact Calls.quiet_of_same ((hasPrefix_any (123 :: t) [123] _ hb).mono fun _ _ h => ⟨h.1, h.2.symm⟩)))
      go_upto_region 9 with fail
      have h3 := Rdr.set_ (Rdr.new H2.out (below_drewN (Below.refl _ _) nq)) (p + 2)
      have k3 := Fx.set_ (w2.drewN nq) ⟨R, 1, none⟩ (.int .i64 ((p + 2 : Nat) : Int))
      rw [show ((p + 2 : Nat) : Int) = (p : Int) + 1 + 1 by omega] at h3 k3
      have K3 := Lib.hid ((K2.out.trans (Fx.new (below_drewN (Below.refl _ _) nq))).trans k3)
      obtain ⟨w3, hw3⟩ : ∃ w3, (w2.drewN nq).setCell ⟨R, 1, none⟩ (.int .i64 ((p : Int) + 1 + 1)) = w3 := ⟨_, rfl⟩
      rw [hw3] at h3 K3
      have H3 := Lib.hid h3
      have HW3 := Lib.hid hw3
      clear h3 k3 hw3 c0 c1 f1 sl hpl z1
      rw [HW3.out]
      clear HW3
      go_wp2_with fail
      refine (name_any H3.out (by omega) hs (by rw [HT.out]; exact hn2)).mono ?_
      rintro a w4 ⟨rfl, b4⟩
      rw [HT.out, hN2.out]
      have K4 := Lib.hid (K3.out.trans (Fx.new b4))
      have H4 := Lib.hid (Rdr.new H3.out b4)
      clear b4
      go_upto_region 10 with fail
      have b5 := (Below.refl w4.heap.size w4).alloc (Nat.le_refl _) (.cells #[.string (bs N2), .int .u8 0, .slice none 0 0] 412)
      have KV5 := Lib.hid (Blk.new w4 412 #[.string (bs N2), .int .u8 0, .slice none 0 0])
      have H5 := Lib.hid (Rdr.new H4.out b5)
      have K5 := Lib.hid (K4.out.trans (Fx.new b5))
      obtain ⟨V, hV⟩ : ∃ V, w4.heap.size = V := ⟨_, rfl⟩
      obtain ⟨w5, hw5⟩ : ∃ w5, w4.alloc (.cells #[.string (bs N2), .int .u8 0, .slice none 0 0] 412) = w5 := ⟨_, rfl⟩
      rw [hw5] at KV5 H5 K5
      rw [hV] at KV5
      rw [hw5, hV]
      have hRV : R < V := by rw [← hV]; exact Blk.lt H4.out
      have hVw : w.heap.size ≤ V := by rw [← hV]; exact K4.out.size
      clear b5 hw5 hV
      have c0 : w5.cell? ⟨R, 0, none⟩ = some (.string (bs s)) := Blk.cell H5.out 0
      have c1 : w5.cell? ⟨R, 1, none⟩ = some (.int .i64 ((p + 2 : Nat) : Int)) := Blk.cell H5.out 1
      have f1 := Blk.frozen H5.out 1
      have v0 : w5.cell? ⟨V, 0, none⟩ = some (.string (bs N2)) := KV5.out.cell 0
      go_still_tail 10, (by kernel_rfl)
      go_upto_region 11 with fail
      have h6 := Rdr.set_ H5.out (p + 2 + n2)
      have k6 := Fx.set_ w5 ⟨R, 1, none⟩ (.int .i64 ((p + 2 + n2 : Nat) : Int))
      rw [show ((p + 2 + n2 : Nat) : Int) = (p : Int) + 2 + ((bs N2).size : Int) by have := HZ2.out; omega] at h6 k6
      have KV6 := Lib.hid (k6.blk KV5.out (by show ¬ V = R; omega))
      have K6 := Lib.hid (K5.out.trans k6)
      obtain ⟨w6, hw6⟩ : ∃ w6, (w5.setCell ⟨R, 1, none⟩ (.int .i64 ((p : Int) + 2 + ((bs N2).size : Int)))).drew = w6 := ⟨_, rfl⟩
      obtain ⟨m, hm⟩ : ∃ m, m = p + 2 + n2 := ⟨_, rfl⟩
      have HM := Lib.hid hm
      have hms : m ≤ s.length := by omega
      have hpm : p + 2 ≤ m := by omega
      have HUD : Hid (s.drop m = u) := Lib.hid (by rw [hm]; exact HUD.out)
      have HUM : Hid (u.length + m = s.length) := Lib.hid (by have := HUL.out; omega)
      have H6 : Hid (Rdr w6 R s m e) := Lib.hid (by rw [← hw6, hm]; exact h6)
      have KV6 : Hid (Blk w6 V 412 #[.string (bs N2), .int .u8 0, .slice none 0 0]) := Lib.hid (by rw [← hw6]; exact KV6.out)
      have K6 : Hid (Fx (fun b => b = R) w w6) := Lib.hid (by rw [← hw6]; exact K6.out.drewN 1)
      rw [hw6]
      clear h6 k6 hw6 c0 c1 f1 v0 H5 KV5 K5 hm
      have c0 : w6.cell? ⟨R, 0, none⟩ = some (.string (bs s)) := Blk.cell H6.out 0
      have c1 : w6.cell? ⟨R, 1, none⟩ = some (.int .i64 (m : Int)) := Blk.cell H6.out 1
      have sl := slice_from s m (m : Int) rfl (by omega)
      rw [HUD.out] at sl
      go_quiet (fail)
      have H7 := Lib.hid (Rdr.new H6.out (below_drewN (Below.refl _ _) nq))
      have KV7 := Lib.hid (KV6.out.drewN nq)
      have K7 := Lib.hid (K6.out.drewN nq)
      obtain ⟨w7, hw7⟩ : ∃ w7, w6.drewN nq = w7 := ⟨_, rfl⟩
      rw [hw7] at H7 KV7 K7
      rw [hw7]
      clear hw7 sl c0 c1 H6 KV6 K6
      have c1 : w7.cell? ⟨R, 1, none⟩ = some (.int .i64 (m : Int)) := Blk.cell H7.out 1
      have f1 := Blk.frozen H7.out 1
      have v0 : w7.cell? ⟨V, 0, none⟩ = some (.string (bs N2)) := KV7.out.cell 0
      have v1 : w7.cell? ⟨V, 1, none⟩ = some (.int .u8 0) := KV7.out.cell 1
      have v2 : w7.cell? ⟨V, 2, none⟩ = some (.slice none 0 0) := KV7.out.cell 2
      have fv1 := KV7.out.frozen 1
      have HB : Hid (x = match Ex.braceL t with
        | .bad => .inl 4
        | .flat t r' => .inr (t, r')
        | .deep n op r' => match Ex.readL e .braces r' with
          | .inl z => .inl z
          | .inr (l, r2) => .inr ([.v n op l], r2)) := Lib.hid (by rw [← HX.out, Ex.vR_brace])
      rcases Nat.eq_zero_or_pos n2 with h0 | h0
      · have z1 : (bs N2).toList.isEmpty = true := by
          rw [bs_list]
          cases N2 with
          | nil => rfl
          | cons _ _ => have := HNL2.out; simp at this; omega
        have HV : Hid (x = .inl 4) := Lib.hid (by rw [HB.out, Ex.brace_bad (.inl (hn2.out.trans h0))])
        go_wp2_with fail
        go_ret2
        rw [HV.out]
        exact ⟨_, rfl, K7.out⟩
      · have z1 : (bs N2).toList.isEmpty = false := by
          rw [bs_list]
          cases N2 with
          | nil => have := HNL2.out; simp at this; omega
          | cons _ _ => rfl
        have hn0 : Hid (Ex.nmL t ≠ 0) := Lib.hid (by rw [hn2.out]; omega)
        obtain ⟨b1, hb1⟩ : ∃ b, Hid (([125] : List UInt8).isPrefixOf u = b) := ⟨_, Lib.hid rfl⟩
        obtain ⟨b2, hb2⟩ : ∃ b, Hid (([58, 45] : List UInt8).isPrefixOf u = b) := ⟨_, Lib.hid rfl⟩
        obtain ⟨b3, hb3⟩ : ∃ b, Hid (([58, 43] : List UInt8).isPrefixOf u = b) := ⟨_, Lib.hid rfl⟩
        cases b1 with
        | true =>
          have HV : Hid (x = .inr ([.v N2 0 []], u.drop 1)) := Lib.hid (by rw [HB.out, Ex.brace_end hn0.out (by rw [hn2.out, hu.out]; exact hb1.out), hn2.out, hN2.out, ← List.drop_drop, hu.out])
          have hul : 0 < u.length := by
            cases u with
            | nil => have := hb1.out; simp [List.isPrefixOf] at this
            | cons _ _ => simp
          have HUL1 : Hid ((u.drop 1).length + (m + 1) = s.length) := Lib.hid (by have := HUM.out; rw [List.length_drop]; omega)
          have h8 := Rdr.set_ H7.out (m + 1)
          have k8 := Fx.set_ w7 ⟨R, 1, none⟩ (.int .i64 ((m + 1 : Nat) : Int))
          rw [show ((m + 1 : Nat) : Int) = (m : Int) + 1 by omega] at h8 k8
          have H8 := Lib.hid h8
          have K8 := Lib.hid (K7.out.trans k8)
          clear h8 k8
          go_wp2_with fail
          refine (hasPrefix_any u [125] _ hb1).mono ?_
          rintro a w' ⟨rfl, rfl⟩
          go_wp2_with fail
          go_ret2
          rw [HV.out]
          refine ⟨_, 1, rfl, PV.var (by rw [HNL2.out]; unfold exMax; omega) ⟨rfl, fun h => absurd h (by omega)⟩ (Nat.zero_le _) PVs.nil, ?_, by have := HUL1.out; omega, K8.out⟩
          have e8 : s.length - (u.drop 1).length = m + 1 := by have := HUL1.out; omega
          rw [e8]
          exact H8.out
        | false =>
          go_wp2_with fail
          refine (hasPrefix_any u [125] _ hb1).mono ?_
          rintro a w' ⟨rfl, rfl⟩
          go_upto_region 17 with fail
          obtain ⟨b4, hb4⟩ : ∃ b, Hid ((b2 || b3) = b) := ⟨_, Lib.hid rfl⟩
          go_cut [89] (fun s89 wx => s89 = .bool b4 ∧ w7 = wx)
          case first =>
            cases b2 with
            | true =>
              have HF : Hid (b4 = true) := Lib.hid (by rw [← hb4.out]; rfl)
              go_wp2_with fail
              refine (hasPrefix_any u [58, 45] _ hb2).mono ?_
              rintro a w' ⟨rfl, rfl⟩
              go_wp2_with fail
              go_meet
              exact ⟨by rw [HF.out], by first | rfl | trivial⟩
            | false =>
              have HF : Hid (b4 = b3) := Lib.hid (by rw [← hb4.out]; rfl)
              go_wp2_with fail
              refine (hasPrefix_any u [58, 45] _ hb2).mono ?_
              rintro a w' ⟨rfl, rfl⟩
              go_wp2_with fail
              refine (hasPrefix_any u [58, 43] _ hb3).mono ?_
              rintro a w' ⟨rfl, rfl⟩
              go_wp2_with fail
              go_meet
              exact ⟨by rw [HF.out], by first | rfl | trivial⟩
          case rest =>
            obtain ⟨rfl, rfl⟩ := hcut
            cases b4 with
            | false =>
              have HV : Hid (x = .inl 4) := Lib.hid (by
                have h4 := hb4.out
                rw [Bool.or_eq_false_iff] at h4
                rw [HB.out, Ex.brace_bad (.inr ⟨by rw [hn2.out, hu.out]; exact hb1.out, by rw [hn2.out, hu.out, hb2.out]; exact h4.1, by rw [hn2.out, hu.out, hb3.out]; exact h4.2⟩)])
              go_wp2_with fail
              go_ret2
              rw [HV.out]
              exact ⟨_, rfl, K7.out⟩
            | true =>
              obtain ⟨op, hop, y, hy⟩ : ∃ op : UInt8, (op = 45 ∨ op = 43) ∧ ∃ y, u = 58 :: op :: y := by
                have h4 := hb4.out
                rw [Bool.or_eq_true] at h4
                rcases h4 with h4 | h4
                · have h5 := hb2.out.trans h4
                  rw [List.isPrefixOf_iff_prefix] at h5
                  obtain ⟨y, hy⟩ := h5
                  exact ⟨45, .inl rfl, y, hy.symm⟩
                · have h5 := hb3.out.trans h4
                  rw [List.isPrefixOf_iff_prefix] at h5
                  obtain ⟨y, hy⟩ := h5
                  exact ⟨43, .inr rfl, y, hy.symm⟩
              have HY : Hid (s.drop (m + 2) = y) := Lib.hid (by rw [← List.drop_drop, HUD.out, hy]; rfl)
              have hyl : y.length + 2 + m = s.length := by have := HUM.out; rw [hy] at this; simp only [List.length_cons] at this; omega
              have HV0 : Hid (x = match Ex.readL e .braces y with
                | .inl z => .inl z
                | .inr (l, r2) => .inr ([.v N2 op l], r2)) := Lib.hid (by
                have hpf : ([58, op] : List UInt8).isPrefixOf (t.drop (Ex.nmL t)) = true := by rw [hn2.out, hu.out, hy, List.isPrefixOf_iff_prefix]; exact ⟨y, rfl⟩
                rw [HB.out, Ex.brace_op hn0.out hop hpf, hn2.out, hN2.out]
                have : t.drop (n2 + 2) = y := by rw [← List.drop_drop, hu.out, hy]; rfl
                rw [this])
              have hbs : 1 < (bs u).size := by rw [bs_size, hy]; simp
              have hbi : (1 : Int) < ((bs u).size : Int) := by omega
              have hu1 : (bs u)[1]'hbs = op := by
                have h2 : u[1]? = some ((bs u)[1]'hbs) := bs_at u 1 hbs
                have h3 : u[1]? = some op := by rw [hy]; rfl
                exact Option.some.inj (h2.symm.trans h3)
              have hob : op.toNat < 256 := UInt8.toNat_lt _
              clear hy
              have hr8 := Rdr.set_ (R := R) (p := m) (s := s) (e := e) (w := w7.setCell ⟨V, 1, none⟩ (.int .u8 (op.toNat : Int))) ((Fx.set_ w7 ⟨V, 1, none⟩ (.int .u8 (op.toNat : Int))).blk H7.out (by show ¬ R = V; omega)) (m + 2)
              rw [show ((m + 2 : Nat) : Int) = (m : Int) + 2 by omega] at hr8
              have kv8 : Blk ((w7.setCell ⟨V, 1, none⟩ (.int .u8 (op.toNat : Int))).setCell ⟨R, 1, none⟩ (.int .i64 ((m : Int) + 2))) V 412 #[.string (bs N2), .int .u8 (op.toNat : Int), .slice none 0 0] :=
                (Fx.set_ _ ⟨R, 1, none⟩ _).blk (by have := KV7.out.set_ 1 (.int .u8 (op.toNat : Int)); simpa using this) (by show ¬ V = R; omega)
              have k8 : Fx (fun b => b = R) w ((w7.setCell ⟨V, 1, none⟩ (.int .u8 (op.toNat : Int))).setCell ⟨R, 1, none⟩ (.int .i64 ((m : Int) + 2))) :=
                ((K7.out.then (Fx.set_ w7 ⟨V, 1, none⟩ (.int .u8 (op.toNat : Int))) (fun b hb h => by have h2 : b = V := h; omega))).trans (Fx.set_ _ ⟨R, 1, none⟩ _)
              obtain ⟨w8, hw8⟩ : ∃ w8, (w7.setCell ⟨V, 1, none⟩ (.int .u8 (op.toNat : Int))).setCell ⟨R, 1, none⟩ (.int .i64 ((m : Int) + 2)) = w8 := ⟨_, rfl⟩
              rw [hw8] at hr8 kv8 k8
              have H8 := Lib.hid hr8
              have KV8 := Lib.hid kv8
              have K8 := Lib.hid k8
              have HW8 := Lib.hid hw8
              clear hr8 kv8 k8 hw8
              have hRVn : (⟨R, 1, none⟩ : Addr) ≠ ⟨V, 1, none⟩ := fun e => by injection e with e1; omega
              go_upto_region 20 with fail
              rw [HW8.out]
              clear HW8 hbi hu1 hbs c1 f1 v0 v1 v2 fv1 hRVn
              have hcall := HI.out (m + 2) R w8 (by omega) (by omega) H8.out
              rw [HY.out] at hcall
              have hV0 := HV0.out
              cases hX : Ex.readL e .braces y with
              | inl z =>
                rw [hX] at hcall hV0
                have HV := Lib.hid hV0
                have HC := Lib.hid hcall
                clear hcall hV0 hX HV0
                go_wp2_with fail
                refine HC.out.mono ?_
                rintro a w9 ⟨rfl, k9⟩
                have KV9 := Lib.hid (k9.blk KV8.out (by show ¬ V = R; omega))
                have K9 := Lib.hid ((K8.out.trans k9).then (Fx.set_ w9 ⟨V, 2, none⟩ (.slice none 0 0)) (fun b hb h => by have h2 : b = V := h; omega))
                clear k9
                have v0 : w9.cell? ⟨V, 0, none⟩ = some (.string (bs N2)) := KV9.out.cell 0
                have v1 : w9.cell? ⟨V, 1, none⟩ = some (.int .u8 (op.toNat : Int)) := KV9.out.cell 1
                have v2 : w9.cell? ⟨V, 2, none⟩ = some (.slice none 0 0) := KV9.out.cell 2
                have fv2 := KV9.out.frozen 2
                go_wp2_with fail
                go_ret2
                rw [HV.out]
                exact ⟨_, rfl, K9.out⟩
              | inr pr =>
                obtain ⟨l, r2⟩ := pr
                rw [hX] at hcall hV0
                have HV := Lib.hid hV0
                have HC := Lib.hid hcall
                clear hcall hV0 hX HV0
                go_wp2_with fail
                refine HC.out.mono ?_
                rintro a w9 ⟨v, xs, rfl, ho9, hp9, hr9, hl9, k9⟩
                obtain ⟨A, c, rfl⟩ := ownk_form ho9
                have KV9 := Lib.hid (k9.blk KV8.out (by show ¬ V = R; omega))
                have k10 := Fx.set_ w9 ⟨V, 2, none⟩ (.slice A xs.length c)
                have hVl : V < w8.heap.size := KV8.out.lt
                have K10 := Lib.hid ((K8.out.trans k9).then k10 (fun b hb h => by have h2 : b = V := h; omega))
                have HR10 := Lib.hid (k10.blk hr9 (by show ¬ R = V; omega))
                have HO10 := Lib.hid (k10.own ho9 (fun g hg => by have := (ho9.lt g hg).1; show ¬ g = V; omega))
                have HP10 := Lib.hid (hp9.fx k10 (X' := fun b => b < w.heap.size) (fun b hb h => by
                  have h2 : w.heap.size ≤ w8.heap.size := K8.out.size
                  rcases h with h | h
                  · have h3 : b = V := h; show b < _; omega
                  · show b < _; have h3 : b < w.heap.size := h; omega))
                have HSZ := Lib.hid K8.out.size
                clear k9 k10 ho9 hp9 hr9
                have v0 : w9.cell? ⟨V, 0, none⟩ = some (.string (bs N2)) := KV9.out.cell 0
                have v1 : w9.cell? ⟨V, 1, none⟩ = some (.int .u8 (op.toNat : Int)) := KV9.out.cell 1
                have v2 : w9.cell? ⟨V, 2, none⟩ = some (.slice none 0 0) := KV9.out.cell 2
                have fv2 := KV9.out.frozen 2
                go_wp2_with fail
                go_ret2
                rw [HV.out]
                obtain ⟨d, hd⟩ := HP10.out
                exact ⟨_, d + 1, rfl, PV.var (by rw [HNL2.out]; unfold exMax; omega) (Rx.own HO10.out (fun b hb h => by have := HSZ.out; have h2 : b < w.heap.size := h; omega)) (by unfold exMax; omega) hd, HR10.out, by omega, K10.out⟩
  · have z1 : (bs N).toList.isEmpty = false := by
      rw [bs_list]
      cases N with
      | nil => have := HNL.out; simp at this; omega
      | cons _ _ => rfl
    have hz : (bs N).size = n := by rw [bs_size]; exact HNL.out
    have HZ := Lib.hid hz
    have h3 := Rdr.set_ H2.out (p + 1 + n)
    have k3 := Fx.set_ w2 ⟨R, 1, none⟩ (.int .i64 ((p + 1 + n : Nat) : Int))
    rw [show ((p + 1 + n : Nat) : Int) = (p : Int) + 1 + ((bs N).size : Int) by omega] at h3 k3
    have H3 := Lib.hid h3
    have K3 := Lib.hid (K2.out.trans k3)
    have hzl : (bs N).size ≤ 2000000 := by omega
    have HV : Hid (x = .inr ([.v N 0 []], r.drop n)) := Lib.hid (by rw [← HX.out, Ex.vR_name (by rw [hn.out]; exact h0), hn.out, hN.out])
    clear hz h3 k3
    go_wp2_with fail
    go_ret2
    rw [HV.out]
    refine ⟨_, 1, rfl, PV.var (by rw [HNL.out]; unfold exMax; omega) ⟨rfl, fun h => absurd h (by omega)⟩ (Nat.zero_le _) PVs.nil, ?_, by rw [List.length_drop]; omega, K3.out⟩
    have e : s.length - (r.drop n).length = p + 1 + n := by rw [List.length_drop]; omega
    rw [e]
    exact H3.out
end Go.Proofs.YtnlkmljdcmfogaaGreatDoor
