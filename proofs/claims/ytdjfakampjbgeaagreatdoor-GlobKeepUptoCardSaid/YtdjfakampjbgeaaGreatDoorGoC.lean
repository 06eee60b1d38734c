/- strataref02.Lines, Parse, walked. -/
import Derived.Test.YtdjfakampjbgeaaGreatDoorMG
import Derived.Test.YtdjfakampjbgeaaGreatDoorME
namespace Go.Proofs.YtdjfakampjbgeaaGreatDoor
open Go Go.RowKit

theorem drop_at (s : ByteArray) {f k : Nat} (hf : f ≤ k) (hk : k < s.size) : (bl s).drop f = mid s f k ++ s[k] :: (bl s).drop (k + 1) := by
  have e : ((bl s).drop f).drop (k - f) = s[k] :: (bl s).drop (k + 1) := by
    rw [List.drop_drop, show f + (k - f) = k by omega, bl_drop_cons s k hk]
  rw [← e]
  exact (List.take_append_drop _ _).symm
theorem mid_no {s : ByteArray} {f k : Nat} (h : ∀ (x : Nat) b, f ≤ x → x < k → (bl s)[x]? = some b → b ≠ 10) : ∀ c ∈ mid s f k, c ≠ 10 := by
  intro c hc
  obtain ⟨i, hi, e⟩ := List.getElem_of_mem hc
  have e2 : (mid s f k)[i]? = some c := by rw [List.getElem?_eq_getElem hi, e]
  unfold mid at e2
  rw [List.getElem?_take] at e2
  split at e2
  · rw [List.getElem?_drop] at e2
    exact h (f + i) c (by omega) (by omega) e2
  · cases e2
set_option maxRecDepth 100000 in
set_option maxHeartbeats 2000000 in
theorem lines_any (s : ByteArray) (hs : s.size ≤ 2000000) (w : World) {ls : List (List UInt8)} (H : Hid (Gl.cutL 10 (bl s) = ls)) : Calls Tryz.prog 18 #[.string s] w fun e w' => ∃ A c, e = .returned (.slice A ls.length c) ∧ RC w' (fun g => w.heap.size ≤ g ∧ g < w'.heap.size) (.slice A ls.length c) ls.length (sc ls) ∧ Below w.heap.size w w' := by
  go_enter Tryz.func18, Tryz.ntmps18
  go_wp2_with fail
  go_loopw [3, 4, 5] (fun v t4 t5 wr => ∃ (k f : Nat) (out : List (List UInt8)), k ≤ s.size ∧ f ≤ k ∧ out.length ≤ k ∧ Hid (ls = out ++ Gl.cutL 10 ((bl s).drop f)) ∧ Hid (∀ (x : Nat) b, f ≤ x → x < k → (bl s)[x]? = some b → b ≠ 10) ∧ t4 = .int .i64 (f : Int) ∧ t5 = .int .i64 (k : Int) ∧ wr.ownsRow w.heap.size 9 1 v out.length (sc out) ∧ Below w.heap.size w wr) (fun _ _ t5 _ => s.size - (intOf t5).toNat)
  case atStart => exact ⟨0, 0, [], by omega, by omega, by simp, by show _ = _; rw [List.drop_zero, List.nil_append, H.out], Lib.hid (fun x b h1 h2 => by omega), rfl, rfl, World.ownsRow_nil _ _ _ _, Below.refl _ _⟩
  case round =>
    obtain ⟨k, f, out, hk, hf, hol, HN, HF, rfl, rfl, hown, hB⟩ := hrel
    obtain ⟨AA, cc, rfl⟩ := own_form hown
    have hbs := hB.size
    have j0 : (0 : Int) ≤ (k : Int) := by omega
    have j1 : (0 : Int) ≤ (f : Int) := by omega
    rcases Nat.lt_or_ge k s.size with hkn | hkn
    · have i0 : decide ((k : Int) < (s.size : Int)) = true := by rw [decide_eq_true_eq]; omega
      have i1 : (k : Int) < (s.size : Int) := by omega
      have hby : (s[k]).toNat < 256 := (s[k]).toNat_lt
      by_cases hc : s[k] = 10
      · have t2 : (((s[k]).toNat : Int) == 10) = true := by rw [hc]; rfl
        have hsl := slice_ij s f k hf (by omega)
        rw [show ((bl s).drop f).take (k - f) = mid s f k from rfl] at hsl
        have hno := mid_no HF.out
        obtain ⟨cur, hcur⟩ : ∃ cur, mid s f k = cur := ⟨_, rfl⟩
        have HN2 : Hid (ls = (out ++ [cur]) ++ Gl.cutL 10 ((bl s).drop (k + 1))) := by
          show _ = _
          rw [HN.out, drop_at s hf hkn, hc, Gl.cutL_cut 10 _ _ hno, hcur, List.append_assoc]
          rfl
        have HF2 : Hid (∀ (x : Nat) b, k + 1 ≤ x → x < k + 1 → (bl s)[x]? = some b → b ≠ 10) := Lib.hid (fun x b h1 h2 => by omega)
        rw [hcur] at hsl
        clear hcur hno HN HF hc
        go_wp2_with (at_builtin; refine wpList_app rfl _ _ _ rfl strK _ _ _ _ rfl (hown.alloc _) _ _ _ _ rfl rfl (news_alloc _ _ _) (one_of_all rfl) (by omega) (by omega) (hB.alloc hbs _) (by simp; omega) ?_; intro v1 w1 hown1 hb1 hg1 hat1)
        go_roundw
        case rel => exact ⟨k + 1, k + 1, out ++ [cur], by omega, by omega, by simp only [List.length_append, List.length_cons, List.length_nil]; omega, HN2, HF2, by go_num, by go_num, by rw [sc_append, List.length_append]; exact hown1, hb1⟩
        case measure => simp [intOf]; omega
      · have t2 : (((s[k]).toNat : Int) == 10) = false := by simp only [beq_eq_false_iff_ne, ne_eq]; exact fun e => hc (UInt8.toNat_inj.1 (by rw [show (10 : UInt8).toNat = 10 from rfl]; omega))
        have e := bl_at s k hkn
        have HF2 : Hid (∀ (x : Nat) b, f ≤ x → x < k + 1 → (bl s)[x]? = some b → b ≠ 10) := Lib.hid (fun x b h1 h2 hb => by
          by_cases h : x = k
          · subst h
            rw [e] at hb
            injection hb with hb
            rw [← hb]
            exact hc
          · exact HF.out x b h1 (by omega) hb)
        clear hc HF e
        go_wp2_with fail
        go_roundw
        case rel => exact ⟨k + 1, f, out, by omega, by omega, by omega, HN, HF2, rfl, by go_num, hown, hB⟩
        case measure => simp [intOf]; omega
    · have i0 : decide ((k : Int) < (s.size : Int)) = false := by rw [decide_eq_false_iff_not]; omega
      have hsl := slice_f s (bs ((bl s).drop f)) f (f : Int) rfl (by omega) (by
        rw [ext_bs, List.take_of_length_le (by rw [List.length_drop, bl_length]; exact Nat.le_refl _)])
      have hno : ∀ c ∈ (bl s).drop f, c ≠ 10 := fun c hc => by
        obtain ⟨i, hi, e⟩ := List.getElem_of_mem hc
        have e2 : ((bl s).drop f)[i]? = some c := by rw [List.getElem?_eq_getElem hi, e]
        rw [List.getElem?_drop] at e2
        have := (List.getElem?_eq_some_iff.1 e2).1
        rw [bl_length] at this
        exact HF.out (f + i) c (by omega) (by omega) e2
      obtain ⟨cur, hcur⟩ : ∃ cur, (bl s).drop f = cur := ⟨_, rfl⟩
      have HN2 : Hid (ls = out ++ [cur]) := by
        show _ = _
        rw [HN.out, Gl.cutL_no 10 _ hno, hcur]
      rw [hcur] at hsl
      clear hcur hno HN HF
      go_wp2_with (at_builtin; refine wpList_app rfl _ _ _ rfl strK _ _ _ _ rfl (hown.alloc _) _ _ _ _ rfl rfl (news_alloc _ _ _) (one_of_all rfl) (by omega) (by omega) (hB.alloc hbs _) (by simp; omega) ?_; intro v1 w1 hown1 hb1 hg1 hat1; obtain ⟨B1, q1, rfl⟩ := own_form hown1)
      go_ret
      have e3 : ls.length = out.length + 1 := by rw [HN2.out, List.length_append]; rfl
      refine ⟨B1, q1, by rw [e3]; rfl, ?_, hb1⟩
      have e4 : sc ls = sc out ++ [.string (bs cur)] := by rw [HN2.out, sc_append]; rfl
      rw [e3, e4]
      exact RC.own hown1 (fun g e => hown1.lt g e)

theorem ruleK : ElemK Tryz.prog 23 46 (.agg #[.bool false, .string ⟨#[]⟩]) 2 24 := ⟨Tryz.underlying23, by kernel_rfl, rfl, by decide⟩
/-- the cells of the document's rules. -/
def rlC (rs : List Gl.Rl) : List Value := rs.flatMap fun r => [.bool r.back, .string (bs r.pat)]
theorem rlC_snoc (rs : List Gl.Rl) (r : Gl.Rl) : rlC (rs ++ [r]) = rlC rs ++ [.bool r.back, .string (bs r.pat)] := by simp [rlC]
theorem rlC_at : ∀ (rs : List Gl.Rl) (i : Nat) (hi : i < rs.length), (rlC rs)[i * 2]? = some (.bool rs[i].back) ∧ (rlC rs)[i * 2 + 1]? = some (.string (bs rs[i].pat))
  | [], _, h => absurd h (by simp)
  | _ :: _, 0, _ => ⟨rfl, rfl⟩
  | r :: rs, i + 1, h => by
    have ih := rlC_at rs i (by simpa using h)
    have e : rlC (r :: rs) = [.bool r.back, .string (bs r.pat)] ++ rlC rs := rfl
    rw [e, show (i + 1) * 2 = i * 2 + 2 by omega, show i * 2 + 2 + 1 = i * 2 + 1 + 2 by omega]
    exact ih
/-- what the document's Parse answers. -/
def RefParseAns (r : (Nat × Nat) ⊕ List Gl.Rl) (w w' : World) (e : Ending) : Prop := match r with
  | .inl (n, k) => e = .returned (.tuple #[.slice none 0 0, .int .i64 (n : Int), .int .i64 (k : Int)])
  | .inr rs => ∃ A c, e = .returned (.tuple #[.slice A rs.length c, .int .i64 0, .int .i64 0]) ∧ RC w' (fun g => w.heap.size ≤ g ∧ g < w'.heap.size) (.slice A rs.length c) rs.length (rlC rs)
theorem trimmed_at (x : List UInt8) (hx : x.length ≤ 2000000) (w : World) {S : ByteArray} (H : Hid (bs (Gl.trimL x) = S)) : Calls Tryz.prog 19 #[.string (bs x)] w fun e w' => e = .returned (.string S) ∧ w = w' := by
  have := trimmed_any (bs x) (by rw [bs_size]; exact hx) w (t := Gl.trimL x) (Lib.hid (by rw [bl_bs]))
  rwa [H.out] at this
theorem pattern_at (x : List UInt8) (hx : x.length ≤ 2000000) (w : World) {b : Bool} (H : Hid ((Gl.readL x).isSome = b)) : Calls Tryz.prog 20 #[.string (bs x)] w fun e w' => e = .returned (.bool b) ∧ Below w.heap.size w w' :=
  pattern_any (bs x) (by rw [bs_size]; exact hx) w (Lib.hid (by rw [bl_bs]; exact H.out))
set_option maxRecDepth 100000 in
set_option maxHeartbeats 4000000 in
theorem refParse_any (s : ByteArray) (hs : s.size ≤ 2000000) (w : World) {RES : (Nat × Nat) ⊕ List Gl.Rl} (H : Hid (Gl.parseL (bl s) = RES)) : Calls Tryz.prog 5 #[.string s] w fun e w' => RefParseAns RES w w' e ∧ Below w.heap.size w w' := by
  obtain ⟨l, hl⟩ : ∃ l, Hid (Gl.cutL 10 (bl s) = l) := ⟨_, Lib.hid rfl⟩
  have hll : l.length ≤ 2000001 := by have := Gl.cutL_length 10 (bl s); rw [hl.out, bl_length] at this; omega
  have hx : Hid (∀ x ∈ l, x.length ≤ 2000000) := Lib.hid fun x hx => by
    rw [← hl.out] at hx
    have := Gl.cutL_piece 10 _ _ hx
    rw [bl_length] at this
    omega
  have hF0 : Hid (Gl.parseA (l.drop 0) 0 [] = RES) := by show _ = _; rw [List.drop_zero, ← hl.out]; exact H.out
  go_enter Tryz.func5, Tryz.ntmps5
  go_wp2_with fail
  refine (lines_any s hs _ hl).mono ?_
  rintro e w1 ⟨A, cc, rfl, hQ, b1⟩
  have HQ := Lib.hid hQ
  clear hQ
  go_wp2_with fail
  go_loopw [5, 7, 8, 9] (fun t5 t7 _ _ wr => ∃ (k : Nat) (out : List Gl.Rl), k ≤ l.length ∧ out.length ≤ 256 ∧ t7 = .int .i64 (k : Int) ∧ Hid (Gl.parseA (l.drop k) k out = RES) ∧ wr.ownsRow w1.heap.size 46 2 t5 out.length (rlC out) ∧ Below w1.heap.size w1 wr) (fun _ t7 _ _ _ => l.length - (intOf t7).toNat)
  case atStart => exact ⟨0, [], by omega, by simp, rfl, hF0, World.ownsRow_nil _ _ _ _, Below.refl _ _⟩
  case round =>
    clear hF0
    obtain ⟨k, out, hk, hol, rfl, HF, hown, hB⟩ := hrel
    obtain ⟨AA, ca, rfl⟩ := ownk_form hown
    have hbs := hB.size
    have j0 : (0 : Int) ≤ (k : Int) := by omega
    rcases Nat.lt_or_ge k l.length with hkn | hkn
    · have i0 : decide ((k : Int) < (l.length : Int)) = true := by rw [decide_eq_true_eq]; omega
      have i1 : (k : Int) < (l.length : Int) := by omega
      have hQ := HQ.out.below hB
      obtain ⟨g, o, c', hvl, d0⟩ := hQ.str hkn
      obtain ⟨hA, hcc⟩ : A = some ⟨g, o, none⟩ ∧ cc = c' := by injection hvl with e1 _ e3; exact ⟨e1, e3⟩
      subst hA hcc
      clear hvl hQ
      have hlx := hx.out _ (List.getElem_mem hkn)
      obtain ⟨x, hxe⟩ : ∃ x, l[k] = x := ⟨_, rfl⟩
      have hd : Hid (l.drop k = x :: l.drop (k + 1)) := by show _ = _; rw [List.drop_eq_getElem_cons hkn, hxe]
      rw [hxe] at d0 hlx
      clear hxe
      have htl := Gl.trimL_len x
      obtain ⟨S, hS⟩ : ∃ S, Hid (bs (Gl.trimL x) = S) := ⟨_, Lib.hid rfl⟩
      cases htx : Gl.trimL x with
      | nil =>
        have HR : Hid (Gl.ruleOf x = none) := by show _ = _; rw [Gl.ruleOf, htx]
        have hSe : S = ⟨#[]⟩ := by rw [← hS.out, htx]; rfl
        subst hSe
        have HF2 : Hid (Gl.parseA (l.drop (k + 1)) (k + 1) out = RES) := by show _ = _; rw [← HF.out, hd.out, Gl.parseA_skip HR.out]
        clear HF htx HR
        go_wp2_with fail
        refine (trimmed_at x hlx _ hS).mono ?_
        rintro e w2 ⟨rfl, rfl⟩
        go_wp2_with fail
        go_roundw
        case rel => exact ⟨k + 1, out, by omega, by omega, by go_num, HF2, hown, hB⟩
        case measure => simp [intOf]; omega
      | cons c r =>
        have HT := Lib.hid htx
        rw [htx, List.length_cons] at htl
        have hz : S.size = r.length + 1 := by rw [← hS.out, htx, bs_size, List.length_cons]
        have hz0 : 0 < S.size := by omega
        have hS0 : S[0]'hz0 = c := by
          have h0 := hS.out
          rw [htx] at h0
          subst h0
          rfl
        have hne : S.toList.isEmpty = false := by
          have h0 := hS.out
          rw [htx] at h0
          rw [← h0, toList_bs]
          rfl
        have hne2 : (S.toList == []) = false := by
          have h0 := hS.out
          rw [htx] at h0
          rw [← h0, toList_bs]
          rfl
        have hS1 : Hid (S.extract 1 S.size = bs r) := by
          show _ = _
          have h0 := hS.out
          rw [htx] at h0
          rw [← h0, ext_bs, bl_bs, bs_size]
          simp
        have hby : c.toNat < 256 := UInt8.toNat_lt _
        have hSc : Hid (S = bs (c :: r)) := by show _ = _; rw [← htx]; exact hS.out.symm
        clear htx
        by_cases h35 : c = 35
        · have t2 : ((c.toNat : Int) == 35) = true := by rw [h35]; rfl
          have HR : Hid (Gl.ruleOf x = none) := by show _ = _; rw [Gl.ruleOf, HT.out]; simp only [if_pos h35]
          have HF2 : Hid (Gl.parseA (l.drop (k + 1)) (k + 1) out = RES) := by show _ = _; rw [← HF.out, hd.out, Gl.parseA_skip HR.out]
          clear HF HR h35 hz
          go_wp2_with fail
          refine (trimmed_at x hlx _ hS).mono ?_
          rintro e w2 ⟨rfl, rfl⟩
          go_wp2_with fail
          go_roundw
          case rel => exact ⟨k + 1, out, by omega, by omega, by go_num, HF2, hown, hB⟩
          case measure => simp [intOf]; omega
        · have t2 : ((c.toNat : Int) == 35) = false := by simp only [beq_eq_false_iff_ne, ne_eq]; exact fun e => h35 (UInt8.toNat_inj.1 (by rw [show (35 : UInt8).toNat = 35 from rfl]; omega))
          obtain ⟨b, hb⟩ : ∃ b, ((c.toNat : Int) == 33) = b := ⟨_, rfl⟩
          have hb33 : Hid (b = decide (c = 33)) := by
            show _ = _
            rw [← hb, Bool.eq_iff_iff, beq_iff_eq, decide_eq_true_eq]
            exact ⟨fun e => UInt8.toNat_inj.1 (by rw [show (33 : UInt8).toNat = 33 from rfl]; omega), fun e => by rw [e]; rfl⟩
          have H35 := Lib.hid h35
          clear h35 hz
          go_wp2_with fail
          refine (trimmed_at x hlx _ hS).mono ?_
          rintro e w2 ⟨rfl, rfl⟩
          go_upto_if 34 with fail
          go_cut [8] (fun s8 wx => s8 = .string S ∧ ∃ (bk : Bool) (q : List UInt8), Hid (Gl.ruleOf x = some (bk, q)) ∧ wx = wr.alloc (.cells #[.bool bk, .string (bs q)] 46))
          case first =>
            cases b with
            | true =>
              have hc : c = 33 := by have := hb33.out; simpa using this.symm
              have HR : Hid (Gl.ruleOf x = some (true, Gl.lft r)) := by
                show _ = _
                rw [Gl.ruleOf, HT.out]
                simp only [if_neg H35.out, if_pos hc]
              have hsl := slice_f S (bs r) 1 1 rfl (by omega) hS1.out
              have htr : Hid (bs (Gl.trimL r) = bs (Gl.lft r)) := by show _ = _; rw [Gl.trim_tail HT.out]
              clear hc
              go_wp2_with (go_at_call 19; refine (trimmed_at r (by omega) _ htr).mono ?_; rintro e w2 ⟨rfl, rfl⟩)
              go_meet
              exact ⟨rfl, true, Gl.lft r, HR, rfl⟩
            | false =>
              have hc : c ≠ 33 := by have := hb33.out; simpa using this.symm
              have HR : Hid (Gl.ruleOf x = some (false, c :: r)) := by
                show _ = _
                rw [Gl.ruleOf, HT.out]
                simp only [if_neg H35.out, if_neg hc]
              clear hc
              go_wp2_with fail
              go_meet
              exact ⟨rfl, false, c :: r, HR, by rw [hSc.out]⟩
          case rest =>
            obtain ⟨rfl, bk, q, HR, rfl⟩ := hcut
            have hql := Gl.ruleOf_len HR.out
            clear d0 t2 hb hb33 hSc hS1 hne hne2 hby hS0
            rcases Nat.lt_or_ge out.length 256 with hm | hm
            · have t3 : ((out.length : Int) == 256) = false := by simp; omega
              have hm2 : Hid (¬ 256 ≤ out.length) := Lib.hid (by omega)
              have hown5 := hown.alloc (.cells #[.bool bk, .string (bs q)] 46)
              have hB5 := hB.alloc hB.size (.cells #[.bool bk, .string (bs q)] 46)
              have hK5 := Blk.new wr 46 #[.bool bk, .string (bs q)]
              have hz5 : (wr.alloc (.cells #[.bool bk, .string (bs q)] 46)).heap.size = wr.heap.size + 1 := by simp
              have HO5 := Lib.hid hown5
              have HB5 := Lib.hid hB5
              have HK5 := Lib.hid hK5
              have HZ5 := Lib.hid hz5
              clear hown5 hB5 hK5 hz5
              cases hq : Gl.readL q with
              | none =>
                have HE : Hid (RES = .inl (24, k + 1)) := by show _ = _; rw [← HF.out, hd.out, Gl.parseA_none HR.out hm2.out hq]
                have HP : Hid ((Gl.readL q).isSome = false) := by show _ = _; rw [hq]; rfl
                clear hq HF
                go_wp2_with fail
                refine (pattern_at q (by omega) _ HP).mono ?_
                rintro e w7 ⟨rfl, b7⟩
                have hB7 := below_of_below HB5.out b7 HB5.out.size
                go_wp2_with fail
                go_ret3
                exact ⟨by rw [HE.out]; first | rfl | (simp only [RefParseAns]; rfl), below_of_below b1 hB7 b1.size⟩
              | some ps =>
                have HF2 : Hid (Gl.parseA (l.drop (k + 1)) (k + 1) (out ++ [⟨bk, q, ps⟩]) = RES) := by show _ = _; rw [← HF.out, hd.out, Gl.parseA_some HR.out hm2.out hq]
                have HP : Hid ((Gl.readL q).isSome = true) := by show _ = _; rw [hq]; rfl
                clear hq HF
                go_wp2_with fail
                refine (pattern_at q (by omega) _ HP).mono ?_
                rintro e w7 ⟨rfl, b7⟩
                have hK7 := HK5.out.below b7 (by rw [HZ5.out]; omega)
                have c0 : w7.cell? ⟨wr.heap.size, 0, none⟩ = some (.bool bk) := hK7.cell 0
                have c1 : w7.cell? ⟨wr.heap.size, 1, none⟩ = some (.string (bs q)) := hK7.cell 1
                have hB7 := below_of_below HB5.out b7 HB5.out.size
                have hown7 := HO5.out.kept (grown_of_below b7 none) (by cases AA <;> simp [Value.ownBlock])
                have hs7 := hB7.size
                clear b7 hK7 HO5 HB5 HK5 HZ5 hown hB hbs
                go_wp2_with (at_builtin; refine wpList_appk rfl _ _ _ rfl ruleK _ _ _ _ rfl (hown7.alloc _) _ _ _ _ rfl rfl (news_at _ _ (by simp) _ _) (by simp [Value.oneCell']) (by omega) (by omega) (hB7.alloc hB7.size _) (by rw [World.size_alloc]; omega) ?_; intro v1 w1 ho1 hb1 hg1 hat1; obtain ⟨B1, q1, rfl⟩ := ownk_form ho1)
                go_roundw
                case rel => exact ⟨k + 1, out ++ [⟨bk, q, ps⟩], by omega, by simp only [List.length_append, List.length_cons, List.length_nil]; omega, by go_num, HF2, by rw [rlC_snoc, List.length_append]; exact ho1, hb1⟩
                case measure => simp [intOf]; omega
            · have t3 : ((out.length : Int) == 256) = true := by simp; omega
              have HE : Hid (RES = .inl (5, k + 1)) := by show _ = _; rw [← HF.out, hd.out, Gl.parseA_many HR.out hm]
              have hB5 := hB.alloc hB.size (.cells #[.bool bk, .string (bs q)] 46)
              clear HF
              go_wp2_with fail
              go_ret3
              exact ⟨by rw [HE.out]; first | rfl | (simp only [RefParseAns]; rfl), below_of_below b1 hB5 b1.size⟩
    · have i0 : decide ((k : Int) < (l.length : Int)) = false := by rw [decide_eq_false_iff_not]; omega
      have hR : Hid (RES = .inr out) := by show _ = _; rw [← HF.out, List.drop_eq_nil_of_le hkn, Gl.parseA]
      clear HF
      go_wp2_with fail
      go_ret3
      have h1s := b1.size
      refine ⟨?_, below_of_below b1 hB b1.size⟩
      rw [hR.out]
      exact ⟨AA, ca, rfl, RC.own hown (fun g e => ⟨by have := (hown.lt g e).1; omega, (hown.lt g e).2⟩)⟩
end Go.Proofs.YtdjfakampjbgeaaGreatDoor
