/- strataref01's slash, Parent, Begins, Below, Cut, walked. -/
import Derived.Test.YtdjfakampjbgeaaDoorGtA
namespace Go.Proofs.YtdjfakampjbgeaaDoor
open Go Go.RowKit

namespace Gl
/-- the place of the last slash, the places counted from i on. -/
def lastAt : List UInt8 → Nat → Option Nat → Option Nat
  | [], _, o => o
  | c :: r, i, o => lastAt r (i + 1) (if c = 47 then some i else o)
def parentL (p : List UInt8) : List UInt8 := match lastAt p 0 none with
  | none => []
  | some k => p.take k
theorem lastAt_spec : ∀ (l : List UInt8) (i : Nat) (o : Option Nat), lastAt l i o = o ∨ ∃ j, j < l.length ∧ l[j]? = some 47 ∧ lastAt l i o = some (i + j)
  | [], _, _ => .inl rfl
  | c :: r, i, o => by
    rw [lastAt]
    rcases lastAt_spec r (i + 1) (if c = 47 then some i else o) with h | ⟨j, h1, h2, h3⟩
    · by_cases hc : c = 47
      · exact .inr ⟨0, by simp, by simp [hc], by rw [h, if_pos hc]; rfl⟩
      · exact .inl (by rw [h, if_neg hc])
    · exact .inr ⟨j + 1, by simp only [List.length_cons]; omega, by rw [List.getElem?_cons_succ]; exact h2, by rw [h3]; congr 1; omega⟩
theorem last_lt {p : List UInt8} {k : Nat} (h : lastAt p 0 none = some k) : k < p.length ∧ p[k]? = some 47 := by
  rcases lastAt_spec p 0 none with h2 | ⟨j, h1, h2, h3⟩
  · rw [h2] at h; cases h
  · rw [h3] at h
    injection h with h
    have : j = k := by omega
    subst this
    exact ⟨h1, h2⟩
theorem parent_below {p : List UInt8} (h : parentL p ≠ []) : belowP (parentL p) p = true := by
  rw [below_iff h]
  unfold parentL at h ⊢
  cases hk : lastAt p 0 none with
  | none => rw [hk] at h; exact absurd rfl h
  | some k =>
    obtain ⟨h1, h2⟩ := last_lt hk
    exact ⟨k, h1, h2, rfl⟩
theorem below_trans {a b c : List UInt8} (ha : a ≠ []) (h1 : belowP a b = true) (h2 : belowP b c = true) : belowP a c = true := by
  have hb : b ≠ [] := fun e => by rw [e, below_nil] at h1; cases h1
  rw [belowP, if_neg ha, List.isPrefixOf_iff_prefix] at h1 ⊢
  rw [belowP, if_neg hb, List.isPrefixOf_iff_prefix] at h2
  exact h1.trans ((List.prefix_append b [47]).trans h2)
end Gl
def slashV : Option Nat → Int
  | none => -1
  | some k => (k : Int)
theorem slash_hid (s : ByteArray) (w : World) (hs : s.size ≤ 2000000) {R : Int} (H : Hid (slashV (Gl.lastAt (bl s) 0 none) = R)) : Calls Tryd.prog 75 #[.string s] w fun e w' => e = .returned (.int .i64 R) ∧ w = w' := by
  have HR : Hid (R = slashV (Gl.lastAt (bl s) 0 none)) := Lib.hid H.out.symm
  go_enter Tryd.func75, Tryd.ntmps75
  go_wp2_with fail
  go_loop [3, 4] (fun v i => ∃ (k : Nat) (x : Int) (o : Option Nat), k ≤ s.size ∧ i = .int .i64 (k : Int) ∧ v = .int .i64 x ∧ Hid (x = slashV o) ∧ Hid (R = slashV (Gl.lastAt ((bl s).drop k) k o))) (fun _ i => s.size - (intOf i).toNat)
  case atStart => exact ⟨0, -1, none, by omega, rfl, rfl, rfl, HR⟩
  case round =>
    obtain ⟨k, x, o, hk, rfl, rfl, hx, hrec⟩ := hrel
    clear HR
    by_cases hks : k < s.size
    · have hb : (s[k]).toNat < 256 := (s[k]).toNat_lt
      have i1 : (0 : Int) ≤ (k : Int) := by omega
      have i2 : (k : Int) < (s.size : Int) := by omega
      by_cases h47 : s[k] = 47
      · have HN : Hid (R = slashV (Gl.lastAt ((bl s).drop (k + 1)) (k + 1) (some k))) := by
          show _ = _
          rw [hrec.out, bl_drop_cons s k hks, Gl.lastAt, if_pos h47]
        have t1 : (((s[k]).toNat : Int) == 47) = true := by rw [h47]; rfl
        clear hrec h47
        go_wp2_with fail
        go_round
        case rel => exact ⟨k + 1, (k : Int), some k, by omega, by go_num, rfl, rfl, HN⟩
        case measure => simp [intOf]; omega
      · have HN : Hid (R = slashV (Gl.lastAt ((bl s).drop (k + 1)) (k + 1) o)) := by
          show _ = _
          rw [hrec.out, bl_drop_cons s k hks, Gl.lastAt, if_neg h47]
        have t1 : (((s[k]).toNat : Int) == 47) = false := by simp only [beq_eq_false_iff_ne, ne_eq]; exact fun e => h47 (UInt8.toNat_inj.1 (by rw [show (47 : UInt8).toNat = 47 from rfl]; omega))
        clear hrec h47
        go_wp2_with fail
        go_round
        case rel => exact ⟨k + 1, x, o, by omega, by go_num, rfl, hx, HN⟩
        case measure => simp [intOf]; omega
    · have HN : Hid (R = x) := by
        show _ = _
        rw [hrec.out, List.drop_of_length_le (by rw [bl_length]; omega), Gl.lastAt, hx.out]
      have i2 : decide ((k : Int) < (s.size : Int)) = false := by simp; omega
      clear hrec
      go_wp2_with fail
      go_ret
      exact ⟨by rw [HN.out]; rfl, rfl⟩
theorem parent_any (s : ByteArray) (w : World) (hs : s.size ≤ 2000000) : Calls Tryd.prog 51 #[.string s] w fun e w' => e = .returned (.string (bs (Gl.parentL (bl s)))) ∧ w = w' := by
  cases hl : Gl.lastAt (bl s) 0 none with
  | none =>
    have HN : Hid (Gl.parentL (bl s) = []) := by show _ = _; rw [Gl.parentL, hl]
    have HX : Hid (slashV (Gl.lastAt (bl s) 0 none) = -1) := by show _ = _; rw [hl]; rfl
    clear hl
    go_enter Tryd.func51, Tryd.ntmps51
    go_wp2_with (go_at_call 75; refine (slash_hid _ _ hs HX).mono ?_; rintro e w1 ⟨rfl, rfl⟩)
    go_ret
    exact ⟨by rw [HN.out]; rfl, rfl⟩
  | some k =>
    have hk := (Gl.last_lt hl).1
    rw [bl_length] at hk
    have HN : Hid (Gl.parentL (bl s) = (bl s).take k) := by show _ = _; rw [Gl.parentL, hl]
    have HX : Hid (slashV (Gl.lastAt (bl s) 0 none) = (k : Int)) := by show _ = _; rw [hl]; rfl
    have i1 : (0 : Int) ≤ (k : Int) := by omega
    have t1 : decide ((k : Int) < 0) = false := by simp
    have hsl := slice_h s k (k : Int) rfl (by omega)
    have e1 : s.extract 0 k = bs ((bl s).take k) := by rw [← bs_bl (s.extract 0 k), bl_extract, List.drop_zero, Nat.sub_zero]
    rw [e1] at hsl
    clear hl e1
    go_enter Tryd.func51, Tryd.ntmps51
    go_wp2_with (go_at_call 75; refine (slash_hid _ _ hs HX).mono ?_; rintro e w1 ⟨rfl, rfl⟩)
    go_ret
    exact ⟨by rw [HN.out]; rfl, rfl⟩
theorem begins_hid (s h : ByteArray) (w : World) {r : Bool} (H : Hid ((bl h).isPrefixOf (bl s) = r)) : Calls Tryd.prog 76 #[.string s, .string h] w fun e w' => e = .returned (.bool r) ∧ w = w' := by
  rcases Nat.lt_or_ge s.size h.size with hl | hl
  · have t1 : decide ((h.size : Int) ≤ (s.size : Int)) = false := by rw [decide_eq_false_iff_not]; omega
    have HN : Hid (r = false) := by
      show _ = _
      rw [← H.out, Bool.eq_false_iff]
      intro e
      have := (List.isPrefixOf_iff_prefix.1 e).length_le
      rw [bl_length, bl_length] at this
      omega
    clear H
    go_enter Tryd.func76, Tryd.ntmps76
    go_wp2_with fail
    go_ret
    exact ⟨by rw [HN.out]; rfl, rfl⟩
  · have t1 : decide ((h.size : Int) ≤ (s.size : Int)) = true := by rw [decide_eq_true_eq]; omega
    have hsl := slice_h s h.size (h.size : Int) rfl (by omega)
    have e1 : s.extract 0 h.size = bs ((bl s).take h.size) := by rw [← bs_bl (s.extract 0 h.size), bl_extract, List.drop_zero, Nat.sub_zero]
    rw [e1] at hsl
    have t2 : ((bs ((bl s).take h.size)).toList == h.toList) = r := by
      rw [← H.out, toList_bs, ← bs_bl h, toList_bs, bl_bs, bs_size, Bool.eq_iff_iff, beq_iff_eq, List.isPrefixOf_iff_prefix, List.prefix_iff_eq_take]
      exact eq_comm
    clear e1 H
    go_enter Tryd.func76, Tryd.ntmps76
    go_wp2_with fail
    go_ret
    exact ⟨rfl, rfl⟩
theorem below_hid (d s : ByteArray) (w : World) (hd : d.size ≤ 2000000) {r : Bool} (H : Hid (Gl.belowP (bl d) (bl s) = r)) : Calls Tryd.prog 52 #[.string d, .string s] w fun e w' => e = .returned (.bool r) ∧ w = w' := by
  by_cases h0 : bl d = []
  · have hz : d = ⟨#[]⟩ := by rw [← bs_bl d, h0]; rfl
    subst hz
    have t2 : (!s.toList.isEmpty) = r := by
      rw [← H.out, Gl.belowP, if_pos h0, ← bs_bl s, toList_bs, bl_bs]
    clear H
    go_enter Tryd.func52, Tryd.ntmps52
    go_wp2_with fail
    go_ret
    exact ⟨by rw [← t2]; rfl, rfl⟩
  · have hz : d.size ≠ 0 := fun e => h0 (List.length_eq_zero_iff.1 (by rw [bl_length]; exact e))
    have t1 : (d.toList == ([] : List UInt8)) = false := by
      rw [← bs_bl d, toList_bs, beq_eq_false_iff_ne]
      exact h0
    have z1 : (⟨#[47]⟩ : ByteArray).size = 1 := rfl
    have ad : ∀ w, (Op.stringOp .add d ⟨#[47]⟩).run Tryd.prog w = .ok (.string (d ++ ⟨#[47]⟩)) w := fun w => run_string_add_sum w _ _ (by rw [z1]; omega)
    have HB : Hid ((bl (d ++ ⟨#[47]⟩)).isPrefixOf (bl s) = r) := by
      show _ = _
      rw [← H.out, Gl.belowP, if_neg h0, bl_append]
      rfl
    clear H z1
    go_enter Tryd.func52, Tryd.ntmps52
    go_wp2_with (go_at_call 76; refine (begins_hid _ _ _ HB).mono ?_; rintro e w1 ⟨rfl, rfl⟩)
    go_ret
    exact ⟨rfl, rfl⟩
theorem mid_no47 {s : ByteArray} {f k : Nat} (h : ∀ (x : Nat) b, f ≤ x → x < k → (bl s)[x]? = some b → b ≠ 47) : ∀ c ∈ mid s f k, c ≠ 47 := by
  intro c hc
  obtain ⟨i, hi, e⟩ := List.getElem_of_mem hc
  have e2 : (mid s f k)[i]? = some c := by rw [List.getElem?_eq_getElem hi, e]
  unfold mid at e2
  rw [List.getElem?_take] at e2
  split at e2
  · rw [List.getElem?_drop] at e2
    exact h (f + i) c (by omega) (by omega) e2
  · cases e2
set_option maxRecDepth 100000 in
set_option maxHeartbeats 2000000 in
theorem cut47_any (s : ByteArray) (hs : s.size ≤ 2000000) (w : World) {ls : List (List UInt8)} (H : Hid (Gl.cutL 47 (bl s) = ls)) : Calls Tryd.prog 74 #[.string s] w fun e w' => ∃ A c, e = .returned (.slice A ls.length c) ∧ RC w' (fun g => w.heap.size ≤ g ∧ g < w'.heap.size) (.slice A ls.length c) ls.length (sc ls) ∧ Below w.heap.size w w' := by
  go_enter Tryd.func74, Tryd.ntmps74
  go_wp2_with fail
  go_loopw [3, 4, 5] (fun v t4 t5 wr => ∃ (k f : Nat) (out : List (List UInt8)), k ≤ s.size + 1 ∧ f ≤ k ∧ out.length ≤ k ∧ t4 = .int .i64 (f : Int) ∧ t5 = .int .i64 (k : Int) ∧ wr.ownsRow w.heap.size 9 1 v out.length (sc out) ∧ Below w.heap.size w wr ∧ ((k ≤ s.size ∧ Hid (ls = out ++ Gl.cutL 47 ((bl s).drop f)) ∧ Hid (∀ (x : Nat) b, f ≤ x → x < k → (bl s)[x]? = some b → b ≠ 47)) ∨ (k = s.size + 1 ∧ Hid (ls = out)))) (fun _ _ t5 _ => s.size + 1 - (intOf t5).toNat)
  case atStart => exact ⟨0, 0, [], by omega, by omega, by simp, rfl, rfl, World.ownsRow_nil _ _ _ _, Below.refl _ _, .inl ⟨by omega, by show _ = _; rw [List.drop_zero, List.nil_append, H.out], Lib.hid (fun x b h1 h2 => by omega)⟩⟩
  case round =>
    obtain ⟨k, f, out, hk, hf, hol, rfl, rfl, hown, hB, hcase⟩ := hrel
    obtain ⟨AA, cc, rfl⟩ := own_form hown
    have hbs := hB.size
    have j0 : (0 : Int) ≤ (k : Int) := by omega
    have j1 : (0 : Int) ≤ (f : Int) := by omega
    rcases hcase with ⟨hks, HN, HF⟩ | ⟨hks, HN⟩
    · have i3 : decide ((k : Int) ≤ (s.size : Int)) = true := by rw [decide_eq_true_eq]; omega
      have hsl := slice_ij s f k hf hks
      rw [show ((bl s).drop f).take (k - f) = mid s f k from rfl] at hsl
      have hno := mid_no47 HF.out
      rcases Nat.lt_or_ge k s.size with hkn | hkn
      · have t1 : ((k : Int) == (s.size : Int)) = false := by rw [beq_eq_false_iff_ne]; omega
        have i1 : (k : Int) < (s.size : Int) := by omega
        have hby : (s[k]).toNat < 256 := (s[k]).toNat_lt
        by_cases hc : s[k] = 47
        · have t2 : (((s[k]).toNat : Int) == 47) = true := by rw [hc]; rfl
          obtain ⟨cur, hcur⟩ : ∃ cur, mid s f k = cur := ⟨_, rfl⟩
          have HN2 : Hid (ls = (out ++ [cur]) ++ Gl.cutL 47 ((bl s).drop (k + 1))) := by
            show _ = _
            rw [HN.out, drop_at s hf hkn, hc, Gl.cutL_cut 47 _ _ hno, hcur, List.append_assoc]
            rfl
          have HF2 : Hid (∀ (x : Nat) b, k + 1 ≤ x → x < k + 1 → (bl s)[x]? = some b → b ≠ 47) := Lib.hid (fun x b h1 h2 => by omega)
          rw [hcur] at hsl
          clear hcur hno HN HF hc
          go_wp2_with (at_builtin; refine wpList_app rfl _ _ _ rfl strK _ _ _ _ rfl (hown.alloc _) _ _ _ _ rfl rfl (news_alloc _ _ _) (one_of_all rfl) (by omega) (by omega) (hB.alloc hbs _) (by simp; omega) ?_; intro v1 w1 hown1 hb1 hg1 hat1)
          go_roundw
          case rel => exact ⟨k + 1, k + 1, out ++ [cur], by omega, by omega, by simp only [List.length_append, List.length_cons, List.length_nil]; omega, by go_num, by go_num, by rw [sc_append, List.length_append]; exact hown1, hb1, .inl ⟨by omega, HN2, HF2⟩⟩
          case measure => simp [intOf]; omega
        · have t2 : (((s[k]).toNat : Int) == 47) = false := by simp only [beq_eq_false_iff_ne, ne_eq]; exact fun e => hc (UInt8.toNat_inj.1 (by rw [show (47 : UInt8).toNat = 47 from rfl]; omega))
          have e := bl_at s k hkn
          have HF2 : Hid (∀ (x : Nat) b, f ≤ x → x < k + 1 → (bl s)[x]? = some b → b ≠ 47) := Lib.hid (fun x b h1 h2 hb => by
            by_cases h : x = k
            · subst h
              rw [e] at hb
              injection hb with hb
              rw [← hb]
              exact hc
            · exact HF.out x b h1 (by omega) hb)
          clear hc HF e hsl hno
          go_wp2_with fail
          go_roundw
          case rel => exact ⟨k + 1, f, out, by omega, by omega, by omega, rfl, by go_num, hown, hB, .inl ⟨by omega, HN, HF2⟩⟩
          case measure => simp [intOf]; omega
      · have t1 : ((k : Int) == (s.size : Int)) = true := by rw [beq_iff_eq]; omega
        have hke : k = s.size := by omega
        have hcut : (bl s).drop f = mid s f k := by
          rw [mid, List.take_of_length_le (by rw [List.length_drop, bl_length]; omega)]
        obtain ⟨cur, hcur⟩ : ∃ cur, mid s f k = cur := ⟨_, rfl⟩
        have HN2 : Hid (ls = out ++ [cur]) := by
          show _ = _
          rw [HN.out, hcut, Gl.cutL_no 47 _ hno, hcur]
        have hk1 : k + 1 = s.size + 1 := by omega
        have HK1 := Lib.hid hk1
        rw [hcur] at hsl
        clear hcur hno HN HF hcut hke hk1
        go_wp2_with (at_builtin; refine wpList_app rfl _ _ _ rfl strK _ _ _ _ rfl (hown.alloc _) _ _ _ _ rfl rfl (news_alloc _ _ _) (one_of_all rfl) (by omega) (by omega) (hB.alloc hbs _) (by simp; omega) ?_; intro v1 w1 hown1 hb1 hg1 hat1)
        go_roundw
        case rel => exact ⟨k + 1, k + 1, out ++ [cur], by omega, by omega, by simp only [List.length_append, List.length_cons, List.length_nil]; omega, by go_num, by go_num, by rw [sc_append, List.length_append]; exact hown1, hb1, .inr ⟨HK1.out, HN2⟩⟩
        case measure => simp [intOf]; omega
    · have i3 : decide ((k : Int) ≤ (s.size : Int)) = false := by rw [decide_eq_false_iff_not]; omega
      have hks2 : ¬ (k ≤ s.size) := by omega
      clear hks
      go_wp2_with fail
      go_ret
      refine ⟨AA, cc, by rw [HN.out]; rfl, ?_, hB⟩
      rw [HN.out]
      exact RC.own hown (fun g e => hown.lt g e)
end Go.Proofs.YtdjfakampjbgeaaDoor
