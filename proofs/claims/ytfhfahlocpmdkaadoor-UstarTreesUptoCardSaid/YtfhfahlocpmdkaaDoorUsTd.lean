/- strataref01's Cut and Check, walked. -/
import Derived.Test.YtfhfahlocpmdkaaDoorUsTc
import Derived.Test.YtfhfahlocpmdkaaDoorUsO
namespace Go.Proofs.YtfhfahlocpmdkaaDoor
open Go.RowKit

theorem strSliceR : ElemT Tryd.prog 83 9 (.string ⟨#[]⟩) 16 := ⟨Tryd.underlying83, by kernel_rfl, rfl⟩
theorem ext_snoc (s : ByteArray) (a k : Nat) (ha : a ≤ k) (hk : k < s.size) : bl (s.extract a (k + 1)) = bl (s.extract a k) ++ [s[k]] := by
  rw [bl_extract, bl_extract, show k + 1 - a = (k - a) + 1 by omega]
  have h : k - a < ((bl s).drop a).length := by rw [List.length_drop, bl_length]; omega
  rw [List.take_succ_eq_append_getElem h]
  congr 2
  rw [List.getElem_drop]
  have e : a + (k - a) = k := by omega
  simp only [e]
  rfl
theorem ext_nil (s : ByteArray) (a : Nat) : bl (s.extract a a) = [] := by rw [bl_extract, Nat.sub_self, List.take_zero]
set_option maxRecDepth 100000 in
set_option maxHeartbeats 2000000 in
theorem cut_any (s : ByteArray) (w : World) (hs : s.size ≤ 100000000) : Calls Tryd.prog 52 #[.string s] w fun e w' => (∃ v, e = .returned v ∧ w'.ownsRow w.heap.size 9 1 v (Us.pieces (bl s)).length (sc (Us.pieces (bl s)))) ∧ Below w.heap.size w w' := by
  obtain ⟨V, hV⟩ : ∃ V, V = Us.pieces (bl s) := ⟨_, rfl⟩
  rw [← hV]
  have HV0 : Hid (V = [] ++ Us.attach (bl (s.extract 0 0)) (Us.pieces ((bl s).drop 0))) := by
    show _ = _
    rw [hV, ext_nil, List.drop_zero, Us.attach_nil (Us.pieces_ne _), List.nil_append]
  clear hV
  go_enter Tryd.func52, Tryd.ntmps52
  go_wp2_with fail
  go_loopw [3, 4, 5] (fun v f i wr => ∃ (k fr n : Nat) (acc : List (List UInt8)), k ≤ s.size + 1 ∧ fr ≤ k ∧ n = acc.length ∧ n ≤ k ∧ f = .int .i64 (fr : Int) ∧ i = .int .i64 (k : Int) ∧ wr.ownsRow w.heap.size 9 1 v n (sc acc) ∧ Below w.heap.size w wr ∧ ((k ≤ s.size ∧ Hid (V = acc ++ Us.attach (bl (s.extract fr k)) (Us.pieces ((bl s).drop k)))) ∨ (s.size < k ∧ Hid (V = acc)))) (fun _ _ i _ => s.size + 1 - (intOf i).toNat)
  case atStart => exact ⟨0, 0, 0, [], by omega, by omega, rfl, by omega, rfl, rfl, World.ownsRow_nil _ _ _ _, Below.refl _ _, .inl ⟨by omega, HV0⟩⟩
  case round =>
    obtain ⟨k, fr, n, acc, hk, hfr, hn, hnk, rfl, rfl, hown, hbel, hrec⟩ := hrel
    have hsz := hbel.size
    clear HV0
    by_cases hks : k ≤ s.size
    · have HK : Hid (V = acc ++ Us.attach (bl (s.extract fr k)) (Us.pieces ((bl s).drop k))) := by
        rcases hrec with ⟨_, h⟩ | ⟨h, _⟩
        · exact h
        · omega
      have i1 : (0 : Int) ≤ (k : Int) := by omega
      have i3 : decide ((k : Int) ≤ (s.size : Int)) = true := by simp; omega
      have hsl := slice_lit s fr k (fr : Int) (k : Int) rfl rfl hfr hks
      have hsc : sc (acc ++ [bl (s.extract fr k)]) = sc acc ++ [.string (s.extract fr k)] := by
        rw [sc_append]; simp [sc, bs_bl]
      have HSC := Lib.hid hsc
      have hnn : n + 1 = (acc ++ [bl (s.extract fr k)]).length := by simp [hn]
      have HNN := Lib.hid hnn
      have HN0 := Lib.hid hn
      clear hrec hsc hnn hn
      by_cases hke : k = s.size
      · have t1 : ((k : Int) == (s.size : Int)) = true := by simp [hke]
        have HN : Hid (V = acc ++ [bl (s.extract fr k)]) := by
          show _ = _
          rw [HK.out, List.drop_of_length_le (l := bl s) (by rw [bl_length]; omega), Us.pieces, Us.attach, List.append_nil]
        have hlt : s.size < k + 1 := by omega
        clear hke HK
        go_wp2_with ((at_builtin; refine wpList_app rfl _ _ _ rfl strSliceR _ _ _ _ rfl (hown.alloc _) _ _ _ _ rfl rfl (news_alloc _ _ _) (one_of_all rfl) (by omega) (by omega) (hbel.alloc hsz _) (by simp; omega) ?_; intro v1 w1 hown1 hb1 hg1 hat1))
        go_roundw
        case rel => exact ⟨k + 1, k + 1, n + 1, acc ++ [bl (s.extract fr k)], by omega, by omega, HNN.out, by omega, by go_num, by go_num, by rw [HSC.out]; exact hown1, hb1, .inr ⟨hlt, HN⟩⟩
        case measure => simp [intOf]; omega
      · have hks2 : k < s.size := by omega
        have hb : (s[k]).toNat < 256 := (s[k]).toNat_lt
        have i2 : (k : Int) < (s.size : Int) := by omega
        have t1 : ((k : Int) == (s.size : Int)) = false := by simp; omega
        by_cases h47 : (s[k]).toNat = 47
        · have t2 : (((s[k]).toNat : Int) == 47) = true := by simp [h47]
          have HN : Hid (V = (acc ++ [bl (s.extract fr k)]) ++ Us.attach (bl (s.extract (k + 1) (k + 1))) (Us.pieces ((bl s).drop (k + 1)))) := by
            show _ = _
            rw [HK.out, bl_drop_cons s k hks2, Us.pieces, if_pos h47, ext_nil, Us.attach_nil (Us.pieces_ne _), Us.attach, List.append_nil, List.append_assoc]; rfl
          clear hke HK h47
          go_wp2_with ((at_builtin; refine wpList_app rfl _ _ _ rfl strSliceR _ _ _ _ rfl (hown.alloc _) _ _ _ _ rfl rfl (news_alloc _ _ _) (one_of_all rfl) (by omega) (by omega) (hbel.alloc hsz _) (by simp; omega) ?_; intro v1 w1 hown1 hb1 hg1 hat1))
          go_roundw
          case rel => exact ⟨k + 1, k + 1, n + 1, acc ++ [bl (s.extract fr k)], by omega, by omega, HNN.out, by omega, by go_num, by go_num, by rw [HSC.out]; exact hown1, hb1, .inl ⟨by omega, HN⟩⟩
          case measure => simp [intOf]; omega
        · have t2 : (((s[k]).toNat : Int) == 47) = false := by simp; omega
          have HN : Hid (V = acc ++ Us.attach (bl (s.extract fr (k + 1))) (Us.pieces ((bl s).drop (k + 1)))) := by
            show _ = _
            rw [HK.out, bl_drop_cons s k hks2, Us.pieces, if_neg h47, ext_snoc s fr k hfr hks2, Us.attach_attach]
          clear hke HK h47
          go_wp2_with fail
          go_roundw
          case rel => exact ⟨k + 1, fr, n, acc, by omega, by omega, HN0.out, by omega, rfl, by go_num, hown, hbel, .inl ⟨by omega, HN⟩⟩
          case measure => simp [intOf]; omega
    · have HN : Hid (V = acc) := by
        rcases hrec with ⟨h, _⟩ | ⟨_, h⟩
        · omega
        · exact h
      have i3 : decide ((k : Int) ≤ (s.size : Int)) = false := by simp; omega
      have HN0 := Lib.hid hn
      clear hrec hn
      go_wp2_with fail
      go_ret
      exact ⟨⟨_, rfl, by rw [HN.out, ← HN0.out]; exact hown⟩, hbel⟩
theorem pieces_len : ∀ p : List UInt8, (Us.pieces p).length ≤ p.length + 1 ∧ ∀ l ∈ Us.pieces p, l.length ≤ p.length
  | [] => by simp [Us.pieces]
  | c :: r => by
    obtain ⟨h1, h2⟩ := pieces_len r
    rw [Us.pieces]
    by_cases hc : c.toNat = 47
    · rw [if_pos hc]
      refine ⟨by simp; omega, fun l hl => ?_⟩
      rw [List.mem_cons] at hl
      rcases hl with rfl | hl
      · simp
      · have := h2 l hl; simp; omega
    · rw [if_neg hc]
      cases hp : Us.pieces r with
      | nil => exact absurd hp (Us.pieces_ne r)
      | cons a q =>
        rw [hp] at h1 h2
        refine ⟨by simp only [Us.attach, List.length_cons] at *; omega, fun l hl => ?_⟩
        simp only [Us.attach, List.mem_cons] at hl
        rcases hl with rfl | hl
        · have := h2 a (List.mem_cons_self ..); simp; omega
        · have := h2 l (List.mem_cons_of_mem _ hl); simp; omega
theorem name_hid (s : ByteArray) (w : World) (hs : s.size ≤ 1000000000) {b : Bool} (h : Hid (Us.nameBad (bl s) = b)) : Calls Tryd.prog 53 #[.string s] w fun e w' => e = .returned (.int .i64 (nameV b)) ∧ w = w' := by
  have := name_any s w hs
  rwa [h.out] at this
theorem refSplit_h (p : ByteArray) (w : World) (hp : p.size ≤ 1000000000000) {U : Option (List UInt8 × List UInt8)} (h : Hid (Us.split (bl p) = U)) : Calls Tryd.prog 35 #[.string p] w fun e w' => e = .returned (splitR U) ∧ Below w.heap.size w w' := by
  have := refSplit_any p w hp
  rwa [h.out] at this
theorem white_size (s : ByteArray) (hs : s.size ≤ 1000000000) : (bs (Us.white (bl s))).size ≤ 1000000000000 := by
  have z1 := parent_size s
  have z2 := last_size s
  rw [bs_size] at *
  rw [Us.white, Us.join]
  split
  · simp [Us.wh]; omega
  · simp [Us.wh]; omega
end Go.Proofs.YtfhfahlocpmdkaaDoor
