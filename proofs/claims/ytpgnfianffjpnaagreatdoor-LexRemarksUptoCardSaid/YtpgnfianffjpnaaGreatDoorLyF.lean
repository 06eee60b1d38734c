/- stratalaw14's file, within, alike, walked. -/
import Derived.Test.YtpgnfianffjpnaaGreatDoorLnR
import Derived.Test.YtpgnfianffjpnaaGreatDoorLyR
import Derived.Test.YtpgnfianffjpnaaGreatDoorLrI
import Derived.Test.YtpgnfianffjpnaaGreatDoorLentD
namespace Go.Proofs.YtpgnfianffjpnaaGreatDoor
open Go Go.RowKit
theorem Ls.own {w : World} {base n : Nat} {t : TypeId} {A : Option Addr} {c : Nat} {L : List (List UInt8)} (h : w.ownsRow base t 1 (.slice A n c) n (sc L)) : Ls w A L := by
  intro h0
  rcases h.2 with ⟨_, e⟩ | ⟨g, cap, cur, e, _, hg, _⟩
  · have h1 := h.1
    rw [e, Nat.zero_mul] at h1
    rw [show (sc L).length = L.length by simp [sc]] at h1
    omega
  · injection e with e1 _ e3
    subst e1
    refine ⟨g, rfl, ?_, fun j x hx => ?_⟩
    · rcases Nat.lt_or_ge g w.heap.size with h1 | h1
      · exact h1
      · rw [Array.getElem?_eq_none h1] at hg; cases hg
    · have := h.cells (g := g) rfl j (.string (bs x)) (by simp [sc, hx])
      rwa [Addr.add_lit, Nat.zero_add] at this
namespace Lx
theorem fileOf_app (a b : List Bs) : fileOf (a ++ b) = fileOf a ++ fileOf b := by simp [fileOf]
end Lx
set_option maxRecDepth 100000 in
set_option maxHeartbeats 2000000 in
theorem file_any (w : World) {A : Option Addr} {c : Nat} {G : List (List UInt8)} (hr : Ls w A G) (hl : (Lx.fileOf G).length ≤ 1000000) {S : List UInt8} (H : Hid (Lx.fileOf G = S)) :
    Calls Tryz.prog 24 #[.slice A G.length c] w fun e w' => e = .returned (.string (bs S)) ∧ w = w' := by
  obtain ⟨N, hN⟩ : ∃ N, G.length = N := ⟨_, rfl⟩
  have HR := Lib.hid hr
  have HN := Lib.hid hN
  have HL := Lib.hid hl
  have hNl : N ≤ 1000000 := by
    rw [← hN]
    have := Lx.fileOf_len G
    omega
  rw [hN]
  clear hr hN hl
  go_enter Tryz.func24, Tryz.ntmps24
  go_wp2_with fail
  go_loopw [3, 4] (fun t3 t4 wr => ∃ (i : Nat) (X : ByteArray), i ≤ N ∧ t3 = .string X ∧ t4 = .int .i64 (i : Int) ∧ Hid (X = bs (Lx.fileOf (G.take i))) ∧ w = wr) (fun _ t4 _ => N - (intOf t4).toNat)
  case atStart => exact ⟨0, ⟨#[]⟩, by omega, rfl, rfl, Lib.hid (by simp [Lx.fileOf]; rfl), by first | rfl | trivial⟩
  case round =>
    obtain ⟨i, X, hi, rfl, rfl, HX, rfl⟩ := hrel
    have j0 : (0 : Int) ≤ (i : Int) := by omega
    rcases Nat.lt_or_ge i N with hin | hin
    · have i0 : decide ((i : Int) < (N : Int)) = true := by rw [decide_eq_true_eq]; omega
      have i1 : (i : Int) < (N : Int) := by omega
      have hiL : i < G.length := by rw [HN.out]; exact hin
      obtain ⟨g, rfl, hg, hcell⟩ := HR.out (by omega)
      obtain ⟨x, hx⟩ : ∃ x, G[i] = x := ⟨_, rfl⟩
      have hci := hcell i x (by rw [List.getElem?_eq_getElem hiL, hx])
      have htk : Lx.fileOf (G.take (i + 1)) = Lx.fileOf (G.take i) ++ (x ++ [10]) := by
        rw [List.take_succ_eq_append_getElem hiL, hx, Lx.fileOf_app]
        simp [Lx.fileOf]
      have hlen : (Lx.fileOf (G.take i)).length + x.length + 1 ≤ 1000000 := by
        have h1 := HL.out
        rw [← List.take_append_drop (i + 1) G, Lx.fileOf_app, htk] at h1
        simp only [List.length_append, List.length_cons, List.length_nil] at h1
        omega
      have hXs : X.size = (Lx.fileOf (G.take i)).length := by rw [HX.out, bs_size]
      have hxs := bs_size x
      obtain ⟨Y, hY⟩ : ∃ Y, X ++ bs x = Y := ⟨_, rfl⟩
      have hYs : Y.size ≤ 1000000 := by rw [← hY, ByteArray.size_append]; omega
      obtain ⟨Z, hZ⟩ : ∃ Z, Y ++ (⟨#[10]⟩ : ByteArray) = Z := ⟨_, rfl⟩
      have z10 : (⟨#[10]⟩ : ByteArray).size = 1 := rfl
      have ad1 : ∀ w, (Op.stringOp .add X (bs x)).run Tryz.prog w = .ok (.string Y) w := fun w => by rw [← hY]; exact run_string_add_sum w _ _ (by omega)
      have ad2 : ∀ w, (Op.stringOp .add Y ⟨#[10]⟩).run Tryz.prog w = .ok (.string Z) w := fun w => by rw [← hZ]; exact run_string_add_sum w _ _ (by omega)
      have HZ : Hid (Z = bs (Lx.fileOf (G.take (i + 1)))) := by
        show _ = _
        rw [← hZ, ← hY, HX.out, htk, show (⟨#[10]⟩ : ByteArray) = bs [10] from rfl, bs_app, bs_app, List.append_assoc]
      clear hcell htk hlen hXs hxs hY hYs hZ z10 hx hiL
      go_wp2_with fail
      go_roundw
      case rel => exact ⟨i + 1, Z, by omega, rfl, by go_num, HZ, by first | rfl | trivial⟩
      case measure => simp [intOf]; omega
    · have i0 : decide ((i : Int) < (N : Int)) = false := by rw [decide_eq_false_iff_not]; omega
      obtain rfl : i = N := by omega
      have HF : Hid (X = bs S) := by
        show _ = _
        rw [HX.out, ← HN.out, List.take_length, H.out]
      rw [HF.out]
      go_wp2_with fail
      go_ret
      exact ⟨by first | rfl | trivial, by first | rfl | trivial⟩
/-- numbers and texts of documents within bounds. -/
def DcIn (l : Lx.Ln) : Prop := ∀ d ∈ l.docs, 1 ≤ d.line ∧ d.line ≤ 1000000 ∧ d.text.length ≤ 1000000
set_option maxRecDepth 100000 in
set_option maxHeartbeats 4000000 in
theorem within_any (w : World) {v : Value} {ls : List Lx.Ln} (hr : LsRd w v ls) (hin : ∀ l ∈ ls, DcIn l ∧ l.docs.length ≤ 1000000) (hls : ls.length ≤ 1000000) {Af : Option Addr} {cf n p : Nat} (hp : p ≤ n) (_ : n ≤ 1000000) :
    Calls Tryz.prog 23 #[v, .slice Af n cf, .int .i64 (p : Int)] w fun e w' => (∃ b, e = .returned (.bool b) ∧ (b = false → ∀ l ∈ ls, ∀ d ∈ l.docs, ¬ Lx.inDoc p d)) ∧ w = w' := by
  obtain ⟨A, c, hv, hcells⟩ := hr
  subst hv
  obtain ⟨N, hN⟩ : ∃ N, ls.length = N := ⟨_, rfl⟩
  have HN := Lib.hid hN
  have HC := Lib.hid hcells
  have HIN := Lib.hid hin
  rw [hN] at hls
  rw [hN]
  have p1 : decide ((p : Int) ≤ (n : Int)) = true := by rw [decide_eq_true_eq]; omega
  have HS0 : Hid (∀ l ∈ ls.take 0, ∀ d ∈ l.docs, ¬ Lx.inDoc p d) := Lib.hid fun x hx => by simp at hx
  clear hcells hN hin
  go_enter Tryz.func23, Tryz.ntmps23
  go_wp2_with fail
  go_loopw [7, 8, 9, 10, 11] (fun t7 _ _ _ _ wr => ∃ i : Nat, i ≤ N ∧ t7 = .int .i64 (i : Int) ∧ Hid (∀ l ∈ ls.take i, ∀ d ∈ l.docs, ¬ Lx.inDoc p d) ∧ w = wr) (fun t7 _ _ _ _ _ => N - (intOf t7).toNat)
  case atStart => exact ⟨0, by omega, rfl, HS0, by first | rfl | trivial⟩
  case round =>
    clear HS0
    obtain ⟨i, hi, rfl, HS, rfl⟩ := hrel
    have j0 : (0 : Int) ≤ (i : Int) := by omega
    rcases Nat.lt_or_ge i N with hin | hin
    · have i0 : decide ((i : Int) < (N : Int)) = true := by rw [decide_eq_true_eq]; omega
      have i1 : (i : Int) < (N : Int) := by omega
      have hil : i < ls.length := by rw [HN.out]; exact hin
      obtain ⟨b, o, vm, vd, rfl, h0, h1, h2, h3, h4, h5⟩ := HC.out i hil
      obtain ⟨ln, hln⟩ : ∃ ln, ls[i] = ln := ⟨_, rfl⟩
      have htk : ls.take (i + 1) = ls.take i ++ [ln] := by rw [List.take_succ_eq_append_getElem hil, hln]
      obtain ⟨hdi, hdl⟩ := HIN.out ln (by rw [← hln]; exact List.getElem_mem hil)
      rw [hln] at h5
      have HD := Lib.hid h5
      have HDI := Lib.hid hdi
      obtain ⟨Ad, cd, rfl⟩ := h5.form
      obtain ⟨M, hM⟩ : ∃ M, ln.docs.length = M := ⟨_, rfl⟩
      rw [hM] at h3 hdl
      have HM := Lib.hid hM
      have HTK := Lib.hid htk
      clear h0 h1 h2 h4 h5 htk hln hdi hM hil
      have HT0 : Hid (∀ d ∈ ln.docs.take 0, ¬ Lx.inDoc p d) := Lib.hid fun x hx => by simp at hx
      go_wp2_with fail
      go_loopw [8, 9, 10, 11] (fun t8 _ _ _ wr => ∃ k : Nat, k ≤ M ∧ t8 = .int .i64 (k : Int) ∧ Hid (∀ d ∈ ln.docs.take k, ¬ Lx.inDoc p d) ∧ w = wr) (fun t8 _ _ _ _ => M - (intOf t8).toNat)
      case atStart => exact ⟨0, by omega, rfl, HT0, by first | rfl | trivial⟩
      case round =>
        clear HT0
        obtain ⟨k, hk, rfl, HT, rfl⟩ := hrel
        have k0 : (0 : Int) ≤ (k : Int) := by omega
        rcases Nat.lt_or_ge k M with hkn | hkn
        · have m0 : decide ((k : Int) < (M : Int)) = true := by rw [decide_eq_true_eq]; omega
          have m1 : (k : Int) < (M : Int) := by omega
          have hkl : k < ln.docs.length := by rw [HM.out]; exact hkn
          obtain ⟨g, q, cc, hve, -, -, q2, q3⟩ := HD.out.doc k hkl
          injection hve with e1 _ e3
          subst e1
          obtain ⟨d, hd⟩ : ∃ d, ln.docs[k] = d := ⟨_, rfl⟩
          have htk2 : ln.docs.take (k + 1) = ln.docs.take k ++ [d] := by rw [List.take_succ_eq_append_getElem hkl, hd]
          obtain ⟨hl1, hl2, hl3⟩ := HDI.out d (by rw [← hd]; exact List.getElem_mem hkl)
          rw [hd] at q2 q3
          obtain ⟨F, hF⟩ : ∃ F : Nat, d.line = (F : Int) + 1 := ⟨(d.line - 1).toNat, by omega⟩
          rw [hF] at q2 hl1 hl2
          have hF1 : F ≤ 1000000 := by omega
          have hFw : IntKind.i64.wrap ((F : Int) + 1 - 1) = (F : Int) := by rw [IntWalk.i64_in _ (by omega)]; omega
          have hFs : (F : Int) + 1 - 1 = (F : Int) := by omega
          have HF := Lib.hid hF
          have HTK2 := Lib.hid htk2
          have HZ := Lib.hid (bs_size d.text)
          have hts : (bs d.text).size ≤ 1000000 := by rw [HZ.out]; exact hl3
          have HC0 : Hid ((F : Int) = (F : Int) + ((d.text.take 0).count 10 : Int)) := Lib.hid (by simp)
          clear htk2 hd hF hl1 hl2 hkl e3
          go_wp2_with fail
          go_loopw [10, 11] (fun t10 t11 wr => ∃ (j : Nat) (z : Int), j ≤ (bs d.text).size ∧ t10 = .int .i64 z ∧ t11 = .int .i64 (j : Int) ∧ 0 ≤ z ∧ z ≤ 1000000 + (j : Int) ∧ Hid (z = (F : Int) + ((d.text.take j).count 10 : Int)) ∧ w = wr) (fun _ t11 _ => (bs d.text).size - (intOf t11).toNat)
          case atStart => exact ⟨0, (F : Int), by omega, rfl, rfl, by omega, by omega, HC0, by first | rfl | trivial⟩
          case round =>
            clear HC0
            obtain ⟨j, z, hj, rfl, rfl, hz0, hz1, HZC, rfl⟩ := hrel
            have jj0 : (0 : Int) ≤ (j : Int) := by omega
            rcases Nat.lt_or_ge j (bs d.text).size with hjn | hjn
            · have n0 : decide ((j : Int) < ((bs d.text).size : Int)) = true := by rw [decide_eq_true_eq]; omega
              have n1 : (j : Int) < ((bs d.text).size : Int) := by omega
              have hjl : j < d.text.length := by rw [← HZ.out]; exact hjn
              obtain ⟨x, hx⟩ : ∃ x, (bs d.text)[j]'hjn = x := ⟨_, rfl⟩
              have htk3 : d.text.take (j + 1) = d.text.take j ++ [x] := by rw [List.take_succ_eq_append_getElem hjl]; rw [← hx]; rfl
              have hby : x.toNat < 256 := UInt8.toNat_lt _
              obtain ⟨y, hy⟩ : ∃ b, ((x.toNat : Int) == 10) = b := ⟨_, rfl⟩
              have hyx : y = decide (x = 10) := by rw [← hy]; exact u8_eq x 10
              cases y with
              | true =>
                have hx10 : x = 10 := by simpa using hyx.symm
                have HN2 : Hid (z + 1 = (F : Int) + ((d.text.take (j + 1)).count 10 : Int)) := by
                  show _ = _
                  rw [htk3, List.count_append, HZC.out, hx10, show List.count (10 : UInt8) [10] = 1 from rfl]
                  omega
                clear htk3 hyx hx10 HZC hjl
                go_wp2_with fail
                go_roundw
                case rel => exact ⟨j + 1, z + 1, by omega, by go_num, by go_num, by omega, by omega, HN2, by first | rfl | trivial⟩
                case measure => simp [intOf]; omega
              | false =>
                have hx10 : x ≠ 10 := by simpa using hyx.symm
                have HN2 : Hid (z = (F : Int) + ((d.text.take (j + 1)).count 10 : Int)) := by
                  show _ = _
                  have hc1 : List.count (10 : UInt8) [x] = 0 := List.count_eq_zero.2 (by simpa using fun e => hx10 e.symm)
                  rw [htk3, List.count_append, HZC.out, hc1]
                  omega
                clear htk3 hyx hx10 HZC hjl
                go_wp2_with fail
                go_roundw
                case rel => exact ⟨j + 1, z, by omega, rfl, by go_num, by omega, by omega, HN2, by first | rfl | trivial⟩
                case measure => simp [intOf]; omega
            · have n0 : decide ((j : Int) < ((bs d.text).size : Int)) = false := by rw [decide_eq_false_iff_not]; omega
              obtain rfl : j = (bs d.text).size := by omega
              have HZ2 : Hid (z = (F : Int) + (d.text.count 10 : Int)) := by
                show _ = _
                rw [HZC.out, HZ.out, List.take_length]
              have HNX : Hid (¬ (F ≤ p ∧ (p : Int) ≤ z) → ∀ y ∈ ln.docs.take (k + 1), ¬ Lx.inDoc p y) := Lib.hid fun h y hy => by
                rw [HTK2.out] at hy
                rcases List.mem_append.1 hy with hy | hy
                · exact HT.out y hy
                · rw [List.mem_singleton] at hy
                  subst hy
                  intro hd
                  unfold Lx.inDoc at hd
                  rw [HF.out] at hd
                  have hz := HZ2.out
                  omega
              clear HZC HZ2
              rcases Nat.lt_or_ge p F with hpF | hpF
              · have f1 : decide ((F : Int) ≤ (p : Int)) = false := by rw [decide_eq_false_iff_not]; omega
                have f2 : decide (F ≤ p) = false := by rw [decide_eq_false_iff_not]; omega
                have f3 : ¬ F ≤ p := by omega
                have HNN := Lib.hid (HNX.out (fun h => f3 h.1))
                clear HNX
                go_wp2_with fail
                go_roundw
                case rel => exact ⟨k + 1, by omega, by go_num, HNN, by first | rfl | trivial⟩
                case measure => simp [intOf]; omega
              · have f1 : decide ((F : Int) ≤ (p : Int)) = true := by rw [decide_eq_true_eq]; omega
                rcases Int.lt_or_le z (p : Int) with hpz | hpz
                · have f2 : decide ((p : Int) ≤ z) = false := by rw [decide_eq_false_iff_not]; omega
                  have HNN := Lib.hid (HNX.out (fun h => by omega))
                  clear HNX
                  go_wp2_with fail
                  go_roundw
                  case rel => exact ⟨k + 1, by omega, by go_num, HNN, by first | rfl | trivial⟩
                  case measure => simp [intOf]; omega
                · have f2 : decide ((p : Int) ≤ z) = true := by rw [decide_eq_true_eq]; omega
                  clear HNX
                  go_wp2_with fail
                  go_ret
                  exact ⟨⟨true, by first | rfl | trivial, fun h => by cases h⟩, by first | rfl | trivial⟩
        · have m0 : decide ((k : Int) < (M : Int)) = false := by rw [decide_eq_false_iff_not]; omega
          obtain rfl : k = M := by omega
          have HNX : Hid (∀ l ∈ ls.take (i + 1), ∀ d ∈ l.docs, ¬ Lx.inDoc p d) := Lib.hid fun l hl => by
            rw [HTK.out] at hl
            rcases List.mem_append.1 hl with hl | hl
            · exact HS.out l hl
            · rw [List.mem_singleton] at hl
              subst hl
              intro d hd
              exact HT.out d (by rw [← HM.out, List.take_length]; exact hd)
          clear HT HS
          go_wp2_with fail
          go_roundw
          case rel => exact ⟨i + 1, by omega, by go_num, HNX, by first | rfl | trivial⟩
          case measure => simp [intOf]; omega
    · have i0 : decide ((i : Int) < (N : Int)) = false := by rw [decide_eq_false_iff_not]; omega
      obtain rfl : i = N := by omega
      have HF : Hid (∀ l ∈ ls, ∀ d ∈ l.docs, ¬ Lx.inDoc p d) := Lib.hid fun l hl => HS.out l (by rw [← HN.out, List.take_length]; exact hl)
      clear HS
      go_wp2_with fail
      go_ret
      exact ⟨⟨false, by first | rfl | trivial, fun _ => HF.out⟩, by first | rfl | trivial⟩
end Go.Proofs.YtpgnfianffjpnaaGreatDoor
