/- stratakit.Head, stratalaw02.quoted, strataref02.Names, walked. -/
import Derived.Test.YtdjfakampjbgeaaGreatDoorGbZ
import Derived.Test.YtdjfakampjbgeaaGreatDoorGbD
namespace Go.Proofs.YtdjfakampjbgeaaGreatDoor
open Go.RowKit

theorem slice_lit (s : ByteArray) (a b : Nat) (ai bi : Int) (ha : ai = (a : Int)) (hb : bi = (b : Int)) (hab : a ≤ b) (hbs : b ≤ s.size) : ∀ wx, (Instr.slice 9 (.string s) (some (.int .i64 ai)) (some (.int .i64 bi)) none).run Tryz.prog wx = .ok (.string (s.extract a b)) wx := by
  subst ha hb
  intro wx
  rw [run_slice_string _ _ _ _ _ _ _ Tryz.underlying9 (by omega) (by omega) (by omega)]
  simp
theorem slice_h (s : ByteArray) (b : Nat) (bi : Int) (hb : bi = (b : Int)) (hbs : b ≤ s.size) : ∀ wx, (Instr.slice 9 (.string s) none (some (.int .i64 bi)) none).run Tryz.prog wx = .ok (.string (s.extract 0 b)) wx := by
  subst hb
  intro wx
  rw [run_slice_string_h (ht := Tryz.underlying9) (h0 := by omega) (h2 := by omega)]
  simp
theorem ext_bs (s : ByteArray) (a b : Nat) : s.extract a b = bs (((bl s).drop a).take (b - a)) := by rw [← bl_extract, bs_bl]
set_option maxRecDepth 100000 in
theorem head_any (s : ByteArray) (k : Nat) (hk : 1 ≤ k) (hk2 : k ≤ 2000000) (w : World) : Calls Tryz.prog 63 #[.string s, .int .i64 (k : Int)] w fun e w' => e = .returned (.string (bs ((bl s).take k))) ∧ w = w' := by
  have t0 : decide ((k : Int) < 1) = false := by rw [decide_eq_false_iff_not]; omega
  rcases Nat.lt_or_ge k s.size with h | h
  · have t1 : decide ((s.size : Int) ≤ (k : Int)) = false := by rw [decide_eq_false_iff_not]; omega
    have hsl := slice_h s k (k : Int) rfl (by omega)
    have e : s.extract 0 k = bs ((bl s).take k) := by rw [ext_bs, List.drop_zero, Nat.sub_zero]
    rw [e] at hsl
    clear e
    go_enter Tryz.func63, Tryz.ntmps63
    go_wp2_with fail
    go_ret
    exact ⟨rfl, by first | rfl | trivial⟩
  · have t1 : decide ((s.size : Int) ≤ (k : Int)) = true := by rw [decide_eq_true_eq]; omega
    rw [List.take_of_length_le (by rw [bl_length]; exact h), bs_bl]
    go_enter Tryz.func63, Tryz.ntmps63
    go_wp2_with fail
    go_ret
    exact ⟨rfl, by first | rfl | trivial⟩
theorem quotedL_snoc (a : List UInt8) (c : UInt8) : Gl.quotedL (a ++ [c]) = Gl.quotedL a ++ (if c = 47 then [47] else [92, c]) := by simp [Gl.quotedL]
theorem take_snoc (s : ByteArray) (k : Nat) (h : k < s.size) : (bl s).take (k + 1) = (bl s).take k ++ [s[k]] := by
  have h2 : k < (bl s).length := by rw [bl_length]; exact h
  rw [List.take_add_one, List.getElem?_eq_getElem h2]
  rfl
theorem strK : ElemT Tryz.prog 42 9 (.string ⟨#[]⟩) 16 := ⟨Tryz.underlying42, by kernel_rfl, rfl⟩
/-- the piece that stands between f and k. -/
def mid (s : ByteArray) (f k : Nat) : List UInt8 := ((bl s).drop f).take (k - f)
theorem mid_snoc (s : ByteArray) (f k : Nat) (hf : f ≤ k) (h : k < s.size) : mid s f (k + 1) = mid s f k ++ [s[k]] := by
  have h2 : k - f < ((bl s).drop f).length := by rw [List.length_drop, bl_length]; omega
  rw [mid, mid, show k + 1 - f = k - f + 1 by omega, List.take_add_one, List.getElem?_eq_getElem h2]
  congr 1
  simp only [List.getElem_drop, Option.toList_some, List.cons.injEq, and_true]
  simp only [show f + (k - f) = k by omega]
  rfl
theorem mid_nil (s : ByteArray) (k : Nat) : mid s k k = [] := by rw [mid, Nat.sub_self, List.take_zero]
theorem mid_length (s : ByteArray) (f k : Nat) (hk : k ≤ s.size) : (mid s f k).length = k - f := by rw [mid, List.length_take, List.length_drop, bl_length]; omega
set_option maxRecDepth 100000 in
set_option maxHeartbeats 1000000 in
theorem refNames_any (s : ByteArray) (hs : s.size ≤ 2000000) (w : World) : Calls Tryz.prog 40 #[.string s] w fun e w' => ∃ v, e = .returned v ∧ w'.ownsRow w.heap.size 9 1 v (Gl.namesL (bl s)).length (sc (Gl.namesL (bl s))) ∧ Below w.heap.size w w' := by
  go_enter Tryz.func40, Tryz.ntmps40
  go_wp2_with fail
  go_loopw [3, 4, 5] (fun v t4 i wr => ∃ (k f : Nat) (out : List (List UInt8)), k ≤ s.size + 1 ∧ f ≤ k ∧ out.length ≤ k ∧ Hid (if k ≤ s.size then Gl.namesL (bl s) = out ++ Gl.nm (mid s f k) ((bl s).drop k) else Gl.namesL (bl s) = out) ∧ t4 = .int .i64 (f : Int) ∧ i = .int .i64 (k : Int) ∧ wr.ownsRow w.heap.size 9 1 v out.length (sc out) ∧ Below w.heap.size w wr) (fun _ _ i _ => s.size + 1 - (intOf i).toNat)
  case atStart => exact ⟨0, 0, [], by omega, by omega, by simp, by show (if _ then _ else _); rw [if_pos (by omega), mid_nil, List.drop_zero, List.nil_append, Gl.nm_nil], rfl, rfl, World.ownsRow_nil _ _ _ _, Below.refl _ _⟩
  case round =>
    obtain ⟨k, f, out, hk, hf, hol, HN, rfl, rfl, hown, hB⟩ := hrel
    have hbs := hB.size
    have j0 : (0 : Int) ≤ (k : Int) := by omega
    have j1 : (0 : Int) ≤ (f : Int) := by omega
    rcases Nat.lt_or_ge s.size k with hkn | hkn
    · have i0 : decide ((k : Int) ≤ (s.size : Int)) = false := by rw [decide_eq_false_iff_not]; omega
      have hn : Hid (Gl.namesL (bl s) = out) := by have := HN.out; rwa [if_neg (by omega)] at this
      clear HN
      go_wp2_with fail
      go_ret
      exact ⟨_, rfl, by rw [hn.out]; exact hown, hB⟩
    · have i0 : decide ((k : Int) ≤ (s.size : Int)) = true := by rw [decide_eq_true_eq]; omega
      have hn : Gl.namesL (bl s) = out ++ Gl.nm (mid s f k) ((bl s).drop k) := by have := HN.out; rwa [if_pos hkn] at this
      have hml := mid_length s f k hkn
      clear HN
      have hsl := slice_lit s f k (f : Int) (k : Int) rfl rfl hf hkn
      rw [show s.extract f k = bs (mid s f k) from ext_bs s f k] at hsl
      obtain ⟨cur, hcur⟩ : ∃ cur, mid s f k = cur := ⟨_, rfl⟩
      have HC := Lib.hid hcur
      rw [hcur] at hn hml hsl
      clear hcur
      rcases Nat.eq_or_lt_of_le hkn with he | hlt
      · have t1 : ((k : Int) == (s.size : Int)) = true := by simp; omega
        have hnil : (bl s).drop k = [] := List.drop_eq_nil_of_le (by rw [bl_length]; omega)
        have hge : s.size ≤ k := by omega
        clear he
        rcases Nat.eq_or_lt_of_le hf with hfk | hfk
        · have hce : cur = [] := List.eq_nil_of_length_eq_zero (by omega)
          have t3 : decide ((f : Int) < (k : Int)) = false := by rw [decide_eq_false_iff_not]; omega
          have HN2 : Hid (if k + 1 ≤ s.size then Gl.namesL (bl s) = out ++ Gl.nm (mid s (k + 1) (k + 1)) ((bl s).drop (k + 1)) else Gl.namesL (bl s) = out) := by
            show (if _ then _ else _)
            rw [if_neg (by omega), hn, hnil, hce, Gl.nm, if_pos rfl, List.append_nil]
          clear hn hce hnil
          go_wp2_with fail
          go_roundw
          case rel => exact ⟨k + 1, k + 1, out, by omega, by omega, by omega, HN2, by go_num, by go_num, hown, hB⟩
          case measure => simp [intOf]; omega
        · have hce : cur ≠ [] := fun e => by rw [e] at hml; simp at hml; omega
          have t3 : decide ((f : Int) < (k : Int)) = true := by rw [decide_eq_true_eq]; omega
          have HN2 : Hid (if k + 1 ≤ s.size then Gl.namesL (bl s) = (out ++ [cur]) ++ Gl.nm (mid s (k + 1) (k + 1)) ((bl s).drop (k + 1)) else Gl.namesL (bl s) = out ++ [cur]) := by
            show (if _ then _ else _)
            rw [if_neg (by omega), hn, hnil, Gl.nm, if_neg hce]
          clear hn hce hnil
          go_wp2_with (at_builtin; refine wpList_app rfl _ _ _ rfl strK _ _ _ _ rfl (hown.alloc _) _ _ _ _ rfl rfl (news_alloc _ _ _) (one_of_all rfl) (by omega) (by omega) (hB.alloc hbs _) (by simp; omega) ?_; intro v1 w1 hown1 hb1 hg1 hat1)
          go_roundw
          case rel => exact ⟨k + 1, k + 1, out ++ [cur], by omega, by omega, by simp only [List.length_append, List.length_cons, List.length_nil]; omega, HN2, by go_num, by go_num, by rw [sc_append, List.length_append]; exact hown1, hb1⟩
          case measure => simp [intOf]; omega
      · have t1 : ((k : Int) == (s.size : Int)) = false := by simp; omega
        have i1 : (k : Int) < (s.size : Int) := by omega
        have hby : (s[k]).toNat < 256 := (s[k]).toNat_lt
        have hd := bl_drop_cons s k hlt
        by_cases hc : s[k] = 47
        · have t2 : (((s[k]).toNat : Int) == 47) = true := by rw [hc]; rfl
          rcases Nat.eq_or_lt_of_le hf with hfk | hfk
          · have hce : cur = [] := List.eq_nil_of_length_eq_zero (by omega)
            have t3 : decide ((f : Int) < (k : Int)) = false := by rw [decide_eq_false_iff_not]; omega
            have HN2 : Hid (if k + 1 ≤ s.size then Gl.namesL (bl s) = out ++ Gl.nm (mid s (k + 1) (k + 1)) ((bl s).drop (k + 1)) else Gl.namesL (bl s) = out) := by
              show (if _ then _ else _)
              rw [if_pos (by omega), hn, hd, hc, hce, Gl.nm, if_pos rfl, if_pos rfl, mid_nil]
            clear hn hce hd hc
            go_wp2_with fail
            go_roundw
            case rel => exact ⟨k + 1, k + 1, out, by omega, by omega, by omega, HN2, by go_num, by go_num, hown, hB⟩
            case measure => simp [intOf]; omega
          · have hce : cur ≠ [] := fun e => by rw [e] at hml; simp at hml; omega
            have t3 : decide ((f : Int) < (k : Int)) = true := by rw [decide_eq_true_eq]; omega
            have HN2 : Hid (if k + 1 ≤ s.size then Gl.namesL (bl s) = (out ++ [cur]) ++ Gl.nm (mid s (k + 1) (k + 1)) ((bl s).drop (k + 1)) else Gl.namesL (bl s) = out ++ [cur]) := by
              show (if _ then _ else _)
              rw [if_pos (by omega), hn, hd, hc, Gl.nm, if_pos rfl, if_neg hce, mid_nil, List.append_assoc]
              rfl
            clear hn hce hd hc
            go_wp2_with (at_builtin; refine wpList_app rfl _ _ _ rfl strK _ _ _ _ rfl (hown.alloc _) _ _ _ _ rfl rfl (news_alloc _ _ _) (one_of_all rfl) (by omega) (by omega) (hB.alloc hbs _) (by simp; omega) ?_; intro v1 w1 hown1 hb1 hg1 hat1)
            go_roundw
            case rel => exact ⟨k + 1, k + 1, out ++ [cur], by omega, by omega, by simp only [List.length_append, List.length_cons, List.length_nil]; omega, HN2, by go_num, by go_num, by rw [sc_append, List.length_append]; exact hown1, hb1⟩
            case measure => simp [intOf]; omega
        · have t2 : (((s[k]).toNat : Int) == 47) = false := by
            simp only [beq_eq_false_iff_ne, ne_eq]
            exact fun e => hc (UInt8.toNat_inj.1 (by rw [show (47 : UInt8).toNat = 47 from rfl]; omega))
          have HN2 : Hid (if k + 1 ≤ s.size then Gl.namesL (bl s) = out ++ Gl.nm (mid s f (k + 1)) ((bl s).drop (k + 1)) else Gl.namesL (bl s) = out) := by
            show (if _ then _ else _)
            rw [if_pos (by omega), hn, hd, Gl.nm, if_neg hc, mid_snoc s f k hf hlt, HC.out]
          clear hn hd hc
          go_wp2_with fail
          go_roundw
          case rel => exact ⟨k + 1, f, out, by omega, by omega, by omega, HN2, rfl, by go_num, hown, hB⟩
          case measure => simp [intOf]; omega
end Go.Proofs.YtdjfakampjbgeaaGreatDoor
