/- glob.readSet, walked. -/
import Derived.Test.YtdjfakampjbgeaaGreatDoorGbS
import Derived.Deep.DeepCutAuto
namespace Go.Proofs.YtdjfakampjbgeaaGreatDoor
open Go.RowKit

theorem setOpen_eq (r : List UInt8) (neg : Bool) (hn : neg = (r.head? = some 33 || r.head? = some 94 : Bool)) {RES : Option ((List UInt8 × List UInt8) × List UInt8)} (h : Gl.setL ((if neg then r.tail else r).length + 1) true (if neg then r.tail else r) [] [] = RES) : Gl.setOpen r = RES.map fun x => (⟨false, neg, x.1.1, x.1.2⟩, x.2) := by
  subst hn
  subst h
  rfl
set_option maxRecDepth 100000 in
set_option maxHeartbeats 4000000 in
theorem readSet_any (s : ByteArray) (hs : s.size ≤ 2000000) (h1 : 1 ≤ s.size) (w : World) : Calls Tryz.prog 77 #[.string s] w fun e w' => SetAns s w w' e ∧ Below w.heap.size w w' := by
  obtain ⟨neg, hneg⟩ : ∃ neg : Bool, neg = (((bl s).drop 1).head? = some 33 || ((bl s).drop 1).head? = some 94 : Bool) := ⟨_, rfl⟩
  obtain ⟨k0, hk0, hk0s, hl0⟩ : ∃ k0 : Nat, (1 ≤ k0 ∧ k0 ≤ 2 ∧ ((k0 : Int) = if neg then 2 else 1)) ∧ k0 ≤ s.size ∧ (if neg then ((bl s).drop 1).tail else (bl s).drop 1) = (bl s).drop k0 := by
    cases neg with
    | false => exact ⟨1, by simp, h1, by simp⟩
    | true =>
      refine ⟨2, by simp, ?_, by rw [if_pos rfl, List.tail_drop]⟩
      rcases Nat.lt_or_ge 1 s.size with h | h
      · omega
      · rw [show (bl s).drop 1 = [] from List.drop_eq_nil_of_le (by rw [bl_length]; omega)] at hneg
        simp at hneg
  obtain ⟨RES, hRES⟩ : ∃ RES, Gl.setL (((bl s).drop k0).length + 1) true ((bl s).drop k0) [] [] = RES := ⟨_, rfl⟩
  have hopen : Hid (Gl.setOpen ((bl s).drop 1) = RES.map fun x => (⟨false, neg, x.1.1, x.1.2⟩, x.2)) := setOpen_eq _ neg hneg (by rw [hl0]; exact hRES)
  clear hl0
  obtain ⟨w2, hw2⟩ : ∃ w2, (w.alloc (.cells #[.bool false, .bool false, .slice none 0 0, .slice none 0 0] 124)).alloc (.cells #[.bool false, .bool false, .slice none 0 0, .slice none 0 0] 124) = w2 := ⟨_, rfl⟩
  have HW2 := Lib.hid hw2
  have hM0 : SetM w false [] [] (.slice none 0 0) (.slice none 0 0) w2 := by
    rw [← hw2]
    refine ⟨?_, (Blk.new w _ _).alloc _, World.ownsRow_nil _ _ _ _, World.ownsRow_nil _ _ _ _, fun g e => (by cases e), fun g e => (by cases e), fun g e => (by cases e), ((Below.refl _ w).alloc (Nat.le_refl _) _).alloc (by simp) _⟩
    have := Blk.new (w.alloc (.cells #[.bool false, .bool false, .slice none 0 0, .slice none 0 0] 124)) 124 #[.bool false, .bool false, .slice none 0 0, .slice none 0 0]
    rwa [World.size_alloc] at this
  clear hw2
  go_enter Tryz.func77, Tryz.ntmps77
  go_upto_region 3 with fail
  rw [HW2.out]
  go_cut [26] (fun s26 wx => s26 = .bool neg ∧ wx = w2)
  case first =>
    rcases Nat.lt_or_ge 1 s.size with h | h
    · have hd := bl_drop_cons s 1 h
      have i0 : decide ((1 : Int) < (s.size : Int)) = true := by simp; omega
      have i1 : (1 : Int) < (s.size : Int) := by omega
      have hb : (s[1]).toNat < 256 := (s[1]).toNat_lt
      by_cases e1 : s[1] = 33
      · have t1 : (((s[1]).toNat : Int) == 33) = true := by rw [e1]; rfl
        have hn : neg = true := by rw [hneg, hd]; simp [e1]
        clear hd hneg hopen hRES
        go_wp2_with fail
        go_meet
        exact ⟨by rw [hn], rfl⟩
      · have t1 : (((s[1]).toNat : Int) == 33) = false := by
          simp only [beq_eq_false_iff_ne, ne_eq]
          exact fun e => e1 (UInt8.toNat_inj.1 (by rw [show (33 : UInt8).toNat = 33 from rfl]; omega))
        by_cases e2 : s[1] = 94
        · have t2 : (((s[1]).toNat : Int) == 94) = true := by rw [e2]; rfl
          have hn : neg = true := by rw [hneg, hd]; simp [e2]
          clear hd hneg hopen hRES
          go_wp2_with fail
          go_meet
          exact ⟨by rw [hn], rfl⟩
        · have t2 : (((s[1]).toNat : Int) == 94) = false := by
            simp only [beq_eq_false_iff_ne, ne_eq]
            exact fun e => e2 (UInt8.toNat_inj.1 (by rw [show (94 : UInt8).toNat = 94 from rfl]; omega))
          have hn : neg = false := by rw [hneg, hd]; simp [e1, e2]
          clear hd hneg hopen hRES
          go_wp2_with fail
          go_meet
          exact ⟨by rw [hn], rfl⟩
    · have i0 : decide ((1 : Int) < (s.size : Int)) = false := by simp; omega
      have hn : neg = false := by rw [hneg, show (bl s).drop 1 = [] from List.drop_eq_nil_of_le (by rw [bl_length]; omega)]; rfl
      clear hneg hopen hRES
      go_wp2_with fail
      go_meet
      exact ⟨by rw [hn], rfl⟩
  case rest =>
    obtain ⟨rfl, hwc⟩ := hcut
    rw [← hwc] at hM0
    clear hneg hwc
    go_upto_if 26 with fail
    go_cut [6] (fun s6 wx => s6 = .int .i64 (k0 : Int) ∧ SetM w neg [] [] (.slice none 0 0) (.slice none 0 0) wx)
    case first =>
      have c1 := hM0.bm.cell 1
      have f1 := hM0.bm.frozen 1
      simp only [List.getElem?_toArray, List.getElem?_cons_succ, List.getElem?_cons_zero] at c1
      clear hopen hRES
      cases neg with
      | false =>
        have e0 : (k0 : Int) = 1 := by simpa using hk0.2.2
        go_wp2_with fail
        go_meet
        exact ⟨by rw [e0], hM0⟩
      | true =>
        have e0 : (k0 : Int) = 2 := by simpa using hk0.2.2
        have hset := setCell_grown wc ⟨w.heap.size + 1, 1, none⟩ (.bool true)
        have hM1 : SetM w true [] [] (.slice none 0 0) (.slice none 0 0) (wc.setCell ⟨w.heap.size + 1, 1, none⟩ (.bool true)) :=
          ⟨by have e := hM0.bm.set_ 1 (.bool true); simpa using e, hM0.bz.grown hset (by simp), World.ownsRow_nil _ _ _ _, World.ownsRow_nil _ _ _ _, fun g e => (by cases e), fun g e => (by cases e), fun g e => (by cases e), hM0.bel.setCell (p := ⟨w.heap.size + 1, 1, none⟩) (by show w.heap.size ≤ w.heap.size + 1; omega) _⟩
        go_wp2_with fail
        go_meet
        exact ⟨by rw [e0], hM1⟩
    case rest =>
      clear hM0 HW2
      obtain ⟨rfl, hM⟩ := hcut
      go_wp2_with fail
      have hF0 : Hid (Gl.setL (((bl s).drop k0).length + 1) true ((bl s).drop k0) [] [] = RES) := hRES
      clear hRES
      go_loopw [6, 7, 8, 9, 10] (fun t6 t7 _ _ _ wr => ∃ (k fuel : Nat) (first : Bool) (fs ts : List UInt8) (vf vt : Value), t6 = .int .i64 (k : Int) ∧ t7 = .bool first ∧ k ≤ s.size ∧ 1 ≤ k ∧ s.size - k < fuel ∧ Hid (Gl.setL fuel first ((bl s).drop k) fs ts = RES) ∧ fs.length = ts.length ∧ fs.length ≤ k ∧ SetM w neg fs ts vf vt wr) (fun t6 _ _ _ _ _ => s.size - (intOf t6).toNat)
      case atStart => exact ⟨k0, _, true, [], [], _, _, rfl, rfl, hk0s, hk0.1, by rw [List.length_drop, bl_length]; omega, hF0, rfl, by simp, hM⟩
      case round =>
        clear hM hF0
        obtain ⟨k, fuel, first, fs, ts, vf, vt, rfl, rfl, hk, hk1, hfu, HF, hlen, hlek, hM⟩ := hrel
        obtain ⟨n, rfl⟩ : ∃ n, fuel = n + 1 := ⟨fuel - 1, by omega⟩
        have HLEN := Lib.hid hlen
        have hltk : ts.length ≤ k := by omega
        clear hlen
        obtain ⟨A1, cc1, rfl⟩ := own_form hM.of_
        obtain ⟨A2, cc2, rfl⟩ := own_form hM.ot
        have j0 : (0 : Int) ≤ (k : Int) := by omega
        rcases Nat.lt_or_ge k s.size with hkn | hkn
        · have i0 : decide ((k : Int) < (s.size : Int)) = true := by simp; omega
          have i1 : (k : Int) < (s.size : Int) := by omega
          have i9 : decide ((s.size : Int) ≤ (k : Int)) = false := by simp; omega
          have hb : (s[k]).toNat < 256 := (s[k]).toNat_lt
          have hd := bl_drop_cons s k hkn
          by_cases hend : s[k] = 93 ∧ first = false
          · obtain ⟨hx, rfl⟩ := hend
            have t1 : (((s[k]).toNat : Int) != 93) = false := by rw [hx]; rfl
            have hR : Hid (RES = some ((fs, ts), (bl s).drop (k + 1))) := by show _ = _; rw [← HF.out, hd, hx, Gl.setL_end]
            have c0 := hM.bm.cell 0
            have c1 := hM.bm.cell 1
            have c2 := hM.bm.cell 2
            have c3 := hM.bm.cell 3
            simp only [List.getElem?_toArray, List.getElem?_cons_succ, List.getElem?_cons_zero] at c0 c1 c2 c3
            clear hd HF
            go_wp2_with (refine wpList_store_mk rfl _ _ rfl w.heap.size _ _ _ _ rfl rfl _ _ _ _ hM.bz (by simp [Value.oneCell']) ?_; intro wz hBz hgz hsz)
            have kf : wz.ownsRow w.heap.size 5 1 (.slice A1 fs.length cc1) fs.length (bc fs) := hM.of_.kept hgz (by
              rcases hv : (Value.slice A1 fs.length cc1).ownBlock with _ | g
              · exact .inl rfl
              · exact .inr (fun e => by injection e with e; have := hM.sf g hv; omega))
            have kt : wz.ownsRow w.heap.size 5 1 (.slice A2 ts.length cc2) ts.length (bc ts) := hM.ot.kept hgz (by
              rcases hv : (Value.slice A2 ts.length cc2).ownBlock with _ | g
              · exact .inl rfl
              · exact .inr (fun e => by injection e with e; have := hM.st g hv; omega))
            refine bodyPost_ret (results_mk rfl rfl rfl rfl hBz) rfl ?_
            exact ⟨.inr ⟨⟨false, neg, fs, ts⟩, k + 1, _, _, by rw [hopen.out, hR.out]; rfl, by omega, by omega, rfl, RB.own kf (fun g e => ⟨by have := hM.sf g e; omega, own_lt kf g e⟩), RB.own kt (fun g e => ⟨by have := hM.st g e; omega, own_lt kt g e⟩), HLEN.out, (show fs.length ≤ s.size by omega)⟩, hM.bel.grown hgz hM.bel.size (fun k e => by cases e; exact Nat.le_refl _)⟩
          · have hx : s[k] ≠ 93 ∨ first = true := by
              by_cases h : s[k] = 93
              · right
                cases first with
                | false => exact absurd ⟨h, rfl⟩ hend
                | true => rfl
              · exact .inl h
            go_upto_region 7 with fail
            go_cut [42] (fun s42 wx => s42 = .bool true ∧ wx = wr)
            case first =>
              cases first with
              | false =>
                have t1 : (((s[k]).toNat : Int) != 93) = true := by
                  rcases hx with hx | hx
                  · simp only [bne_iff_ne, ne_eq]
                    exact fun e => hx (UInt8.toNat_inj.1 (by rw [show (93 : UInt8).toNat = 93 from rfl]; omega))
                  · cases hx
                clear hd HF hM
                go_wp2_with fail
                go_meet
                exact ⟨rfl, rfl⟩
              | true =>
                clear hd HF hM
                go_wp2_with fail
                go_meet
                exact ⟨rfl, rfl⟩
            case rest =>
              obtain ⟨rfl, hwc⟩ := hcut
              rw [← hwc] at hM
              clear hwc
              have hsl1 := slice_l s k (k : Int) rfl (by omega)
              rcases oneN_cases (l := (bl s).drop k) (by rw [hd]; simp) with ⟨ho, hn⟩ | ⟨c, m, ho, hn, m1, m2, ml⟩
              · have HN := Lib.hid hn
                have hR : RES = none := by rw [← HF.out, hd]; exact Gl.setL_none hx (by rw [← hd]; exact ho)
                clear hd HF ho hn
                go_wp2_with (first | (go_at_call 94; (with_reducible refine (one_at s k hkn _ HN).mono ?_); rintro e w' ⟨rfl, rfl⟩) | (refine wpList_store_mk rfl _ _ rfl w.heap.size _ _ _ _ rfl rfl _ _ _ _ hM.bz (by simp [Value.oneCell']) ?_; intro wz hBz hgz hsz))
                refine bodyPost_ret (results_mk rfl rfl rfl rfl hBz) rfl ?_
                exact ⟨.inl ⟨by rw [hopen.out, hR]; rfl, rfl⟩, hM.bel.grown hgz hM.bel.size (fun k e => by cases e; exact Nat.le_refl _)⟩
              · have HN := Lib.hid hn
                clear hn
                rw [List.length_drop, bl_length] at ml
                rw [List.drop_drop] at ho
                have tm : ((m : Int) == 0) = false := by simp; omega
                have hbc : c.toNat < 256 := c.toNat_lt
                have p0 : (0 : Int) ≤ (k : Int) + (m : Int) := by omega
                have p3 : ((k : Int) + (m : Int)).toNat = k + m := by omega
                have p5 : ((k : Int) + (m : Int) + 1).toNat = k + m + 1 := by omega
                have p6 : (0 : Int) ≤ (k : Int) + (m : Int) + 1 := by omega
                rcases Nat.lt_or_ge (k + m + 1) s.size with h2 | h2
                · have h3 : k + m < s.size := by omega
                  have q1 : decide ((k : Int) + (m : Int) + 1 < (s.size : Int)) = true := by simp; omega
                  have p1 : (k : Int) + (m : Int) < (s.size : Int) := by omega
                  have p4 : (k : Int) + (m : Int) + 1 < (s.size : Int) := by omega
                  have hby : (s[k + m]).toNat < 256 := (s[k + m]).toNat_lt
                  have hbz : (s[k + m + 1]).toNat < 256 := (s[k + m + 1]).toNat_lt
                  have hd1 := bl_drop_cons s (k + m) h3
                  have hd2 := bl_drop_cons s (k + m + 1) h2
                  have ho' : Gl.oneL (s[k] :: (bl s).drop (k + 1)) = some (c, s[k + m] :: s[k + m + 1] :: (bl s).drop (k + m + 1 + 1)) := by rw [← hd, ho, hd1, hd2]
                  by_cases hy : s[k + m] = 45
                  · have ty : (((s[k + m]).toNat : Int) == 45) = true := by rw [hy]; rfl
                    by_cases hz : s[k + m + 1] = 93
                    · have tz : (((s[k + m + 1]).toNat : Int) != 93) = false := by rw [hz]; rfl
                      have HF2 : Hid (Gl.setL n false ((bl s).drop (k + m)) (fs ++ [c]) (ts ++ [c]) = RES) := by
                        show _ = _
                        rw [← HF.out, hd, Gl.setL_one2 hx ho' (.inr hz), hd1, hd2]
                      clear ho' hd hd1 hd2 HF ho
                      have c2 := hM.bm.cell 2
                      have c3 := hM.bm.cell 3
                      simp only [List.getElem?_toArray, List.getElem?_cons_succ, List.getElem?_cons_zero] at c2 c3
                      go_wp2_with (first | (go_at_call 94; (with_reducible refine (one_at s k hkn _ HN).mono ?_); rintro e w' ⟨rfl, rfl⟩) | (at_builtin; refine wpList_app rfl _ _ _ rfl byteT _ _ _ _ rfl (hM.of_.alloc _) _ _ _ _ rfl rfl (news_alloc _ _ _) (one_of_all rfl) (by omega) (by omega) (hM.bel.alloc hM.bel.size _) (by have := hM.bel.size; simp; omega) ?_; intro v1 w1 ho1 hb1 hg1 hat1; obtain ⟨B1, q1, rfl⟩ := own_form ho1; obtain ⟨hbm1, hM1⟩ := hM.push1 ho1 hb1 hg1 hat1; have d2 := hbm1.cell 2; have e2 := hbm1.frozen 2; have d3 := hbm1.cell 3; simp only [List.getElem?_toArray, List.getElem?_cons_succ, List.getElem?_cons_zero] at d2 d3) | (at_builtin; refine wpList_app rfl _ _ _ rfl byteT _ _ _ _ rfl (hM1.ot.alloc _) _ _ _ _ rfl rfl (news_at _ _ (by simp) _ _) (one_of_all rfl) (by omega) (by omega) (hM1.bel.alloc hM1.bel.size _) (by have := hM1.bel.size; rw [World.size_alloc]; omega) ?_; intro v2 w3 ho2 hb2 hg2 hat2; obtain ⟨B2, q2, rfl⟩ := own_form ho2; obtain ⟨hbm2, hM2⟩ := hM1.push2 ho2 hb2 hg2 hat2; have x3 := hbm2.cell 3; have y3 := hbm2.frozen 3; simp only [List.getElem?_toArray, List.getElem?_cons_succ, List.getElem?_cons_zero] at x3))
                      go_roundw
                      case rel => exact ⟨k + m, n, false, fs ++ [c], ts ++ [c], _, _, by go_num, rfl, by omega, by omega, by omega, HF2, by simp only [List.length_append, List.length_cons, List.length_nil, HLEN.out], by simp only [List.length_append, List.length_cons, List.length_nil]; omega, hM2⟩
                      case measure => simp [intOf]; omega
                    · have tz : (((s[k + m + 1]).toNat : Int) != 93) = true := by
                        simp only [bne_iff_ne, ne_eq]
                        exact fun e => hz (UInt8.toNat_inj.1 (by rw [show (93 : UInt8).toNat = 93 from rfl]; omega))
                      have hsl2 := slice_l s (k + m + 1) ((k : Int) + (m : Int) + 1) (by omega) (by omega)
                      rcases oneN_cases (l := (bl s).drop (k + m + 1)) (by rw [hd2]; simp) with ⟨ho2, hn2⟩ | ⟨d, m', ho2, hn2, m1', m2', ml'⟩
                      · have HN2 := Lib.hid hn2
                        have hR : RES = none := by rw [← HF.out, hd]; exact Gl.setL_rnone hx (by rw [← hd, ho, hd1, hd2, hy]) hz (by rw [← hd2]; exact ho2)
                        clear ho' hd hd1 hd2 HF ho ho2 hn2
                        go_wp2_with (first | (go_at_call 94; (with_reducible refine (one_at s k hkn _ HN).mono ?_); rintro e w' ⟨rfl, rfl⟩) | (go_at_call 94; (with_reducible refine (one_at s (k + m + 1) h2 _ HN2).mono ?_); rintro e w' ⟨rfl, rfl⟩) | (refine wpList_store_mk rfl _ _ rfl w.heap.size _ _ _ _ rfl rfl _ _ _ _ hM.bz (by simp [Value.oneCell']) ?_; intro wz hBz hgz hsz))
                        refine bodyPost_ret (results_mk rfl rfl rfl rfl hBz) rfl ?_
                        exact ⟨.inl ⟨by rw [hopen.out, hR]; rfl, rfl⟩, hM.bel.grown hgz hM.bel.size (fun k e => by cases e; exact Nat.le_refl _)⟩
                      · have HN2 := Lib.hid hn2
                        clear hn2
                        rw [List.length_drop, bl_length] at ml'
                        rw [List.drop_drop] at ho2
                        have tm2 : ((m' : Int) == 0) = false := by simp; omega
                        have hbd : d.toNat < 256 := d.toNat_lt
                        by_cases hdc : d < c
                        · have td : decide ((d.toNat : Int) < (c.toNat : Int)) = true := by simp; exact hdc
                          have hR : RES = none := by rw [← HF.out, hd]; exact Gl.setL_rlt hx (by rw [← hd, ho, hd1, hd2, hy]) hz (by rw [← hd2]; exact ho2) hdc
                          clear ho' hd hd1 hd2 HF ho ho2
                          go_wp2_with (first | (go_at_call 94; (with_reducible refine (one_at s k hkn _ HN).mono ?_); rintro e w' ⟨rfl, rfl⟩) | (go_at_call 94; (with_reducible refine (one_at s (k + m + 1) h2 _ HN2).mono ?_); rintro e w' ⟨rfl, rfl⟩) | (refine wpList_store_mk rfl _ _ rfl w.heap.size _ _ _ _ rfl rfl _ _ _ _ hM.bz (by simp [Value.oneCell']) ?_; intro wz hBz hgz hsz))
                          refine bodyPost_ret (results_mk rfl rfl rfl rfl hBz) rfl ?_
                          exact ⟨.inl ⟨by rw [hopen.out, hR]; rfl, rfl⟩, hM.bel.grown hgz hM.bel.size (fun k e => by cases e; exact Nat.le_refl _)⟩
                        · have td : decide ((d.toNat : Int) < (c.toNat : Int)) = false := by simp; exact UInt8.not_lt.1 hdc
                          have HF2 : Hid (Gl.setL n false ((bl s).drop (k + m + 1 + m')) (fs ++ [c]) (ts ++ [d]) = RES) := by
                            show _ = _
                            rw [← HF.out, hd, Gl.setL_rng hx (by rw [← hd, ho, hd1, hd2, hy]) hz (by rw [← hd2]; exact ho2) hdc]
                          clear ho' hd hd1 hd2 HF ho ho2
                          have c2 := hM.bm.cell 2
                          have c3 := hM.bm.cell 3
                          simp only [List.getElem?_toArray, List.getElem?_cons_succ, List.getElem?_cons_zero] at c2 c3
                          go_wp2_with (first | (go_at_call 94; (with_reducible refine (one_at s k hkn _ HN).mono ?_); rintro e w' ⟨rfl, rfl⟩) | (go_at_call 94; (with_reducible refine (one_at s (k + m + 1) h2 _ HN2).mono ?_); rintro e w' ⟨rfl, rfl⟩) | (at_builtin; refine wpList_app rfl _ _ _ rfl byteT _ _ _ _ rfl (hM.of_.alloc _) _ _ _ _ rfl rfl (news_alloc _ _ _) (one_of_all rfl) (by omega) (by omega) (hM.bel.alloc hM.bel.size _) (by have := hM.bel.size; simp; omega) ?_; intro v1 w1 ho1 hb1 hg1 hat1; obtain ⟨B1, q1, rfl⟩ := own_form ho1; obtain ⟨hbm1, hM1⟩ := hM.push1 ho1 hb1 hg1 hat1; have d2 := hbm1.cell 2; have e2 := hbm1.frozen 2; have d3 := hbm1.cell 3; simp only [List.getElem?_toArray, List.getElem?_cons_succ, List.getElem?_cons_zero] at d2 d3) | (at_builtin; refine wpList_app rfl _ _ _ rfl byteT _ _ _ _ rfl (hM1.ot.alloc _) _ _ _ _ rfl rfl (news_at _ _ (by simp) _ _) (one_of_all rfl) (by omega) (by omega) (hM1.bel.alloc hM1.bel.size _) (by have := hM1.bel.size; rw [World.size_alloc]; omega) ?_; intro v2 w3 ho2 hb2 hg2 hat2; obtain ⟨B2, q2, rfl⟩ := own_form ho2; obtain ⟨hbm2, hM2⟩ := hM1.push2 ho2 hb2 hg2 hat2; have x3 := hbm2.cell 3; have y3 := hbm2.frozen 3; simp only [List.getElem?_toArray, List.getElem?_cons_succ, List.getElem?_cons_zero] at x3))
                          go_roundw
                          case rel => exact ⟨k + m + 1 + m', n, false, fs ++ [c], ts ++ [d], _, _, by go_num, rfl, by omega, by omega, by omega, HF2, by simp only [List.length_append, List.length_cons, List.length_nil, HLEN.out], by simp only [List.length_append, List.length_cons, List.length_nil]; omega, hM2⟩
                          case measure => simp [intOf]; omega
                  · have ty : (((s[k + m]).toNat : Int) == 45) = false := by
                      simp only [beq_eq_false_iff_ne, ne_eq]
                      exact fun e => hy (UInt8.toNat_inj.1 (by rw [show (45 : UInt8).toNat = 45 from rfl]; omega))
                    have HF2 : Hid (Gl.setL n false ((bl s).drop (k + m)) (fs ++ [c]) (ts ++ [c]) = RES) := by
                      show _ = _
                      rw [← HF.out, hd, Gl.setL_one2 hx ho' (.inl hy), hd1, hd2]
                    clear ho' hd hd1 hd2 HF ho
                    have c2 := hM.bm.cell 2
                    have c3 := hM.bm.cell 3
                    simp only [List.getElem?_toArray, List.getElem?_cons_succ, List.getElem?_cons_zero] at c2 c3
                    go_wp2_with (first | (go_at_call 94; (with_reducible refine (one_at s k hkn _ HN).mono ?_); rintro e w' ⟨rfl, rfl⟩) | (at_builtin; refine wpList_app rfl _ _ _ rfl byteT _ _ _ _ rfl (hM.of_.alloc _) _ _ _ _ rfl rfl (news_alloc _ _ _) (one_of_all rfl) (by omega) (by omega) (hM.bel.alloc hM.bel.size _) (by have := hM.bel.size; simp; omega) ?_; intro v1 w1 ho1 hb1 hg1 hat1; obtain ⟨B1, q1, rfl⟩ := own_form ho1; obtain ⟨hbm1, hM1⟩ := hM.push1 ho1 hb1 hg1 hat1; have d2 := hbm1.cell 2; have e2 := hbm1.frozen 2; have d3 := hbm1.cell 3; simp only [List.getElem?_toArray, List.getElem?_cons_succ, List.getElem?_cons_zero] at d2 d3) | (at_builtin; refine wpList_app rfl _ _ _ rfl byteT _ _ _ _ rfl (hM1.ot.alloc _) _ _ _ _ rfl rfl (news_at _ _ (by simp) _ _) (one_of_all rfl) (by omega) (by omega) (hM1.bel.alloc hM1.bel.size _) (by have := hM1.bel.size; rw [World.size_alloc]; omega) ?_; intro v2 w3 ho2 hb2 hg2 hat2; obtain ⟨B2, q2, rfl⟩ := own_form ho2; obtain ⟨hbm2, hM2⟩ := hM1.push2 ho2 hb2 hg2 hat2; have x3 := hbm2.cell 3; have y3 := hbm2.frozen 3; simp only [List.getElem?_toArray, List.getElem?_cons_succ, List.getElem?_cons_zero] at x3))
                    go_roundw
                    case rel => exact ⟨k + m, n, false, fs ++ [c], ts ++ [c], _, _, by go_num, rfl, by omega, by omega, by omega, HF2, by simp only [List.length_append, List.length_cons, List.length_nil, HLEN.out], by simp only [List.length_append, List.length_cons, List.length_nil]; omega, hM2⟩
                    case measure => simp [intOf]; omega
                · have q1 : decide ((k : Int) + (m : Int) + 1 < (s.size : Int)) = false := by simp; omega
                  have HF2 : Hid (Gl.setL n false ((bl s).drop (k + m)) (fs ++ [c]) (ts ++ [c]) = RES) := by
                    show _ = _
                    rw [← HF.out, hd, Gl.setL_one1 hx (by rw [← hd]; exact ho) (by rw [List.length_drop, bl_length]; omega)]
                  clear hd HF ho
                  have c2 := hM.bm.cell 2
                  have c3 := hM.bm.cell 3
                  simp only [List.getElem?_toArray, List.getElem?_cons_succ, List.getElem?_cons_zero] at c2 c3
                  go_wp2_with (first | (go_at_call 94; (with_reducible refine (one_at s k hkn _ HN).mono ?_); rintro e w' ⟨rfl, rfl⟩) | (at_builtin; refine wpList_app rfl _ _ _ rfl byteT _ _ _ _ rfl (hM.of_.alloc _) _ _ _ _ rfl rfl (news_alloc _ _ _) (one_of_all rfl) (by omega) (by omega) (hM.bel.alloc hM.bel.size _) (by have := hM.bel.size; simp; omega) ?_; intro v1 w1 ho1 hb1 hg1 hat1; obtain ⟨B1, q1, rfl⟩ := own_form ho1; obtain ⟨hbm1, hM1⟩ := hM.push1 ho1 hb1 hg1 hat1; have d2 := hbm1.cell 2; have e2 := hbm1.frozen 2; have d3 := hbm1.cell 3; simp only [List.getElem?_toArray, List.getElem?_cons_succ, List.getElem?_cons_zero] at d2 d3) | (at_builtin; refine wpList_app rfl _ _ _ rfl byteT _ _ _ _ rfl (hM1.ot.alloc _) _ _ _ _ rfl rfl (news_at _ _ (by simp) _ _) (one_of_all rfl) (by omega) (by omega) (hM1.bel.alloc hM1.bel.size _) (by have := hM1.bel.size; rw [World.size_alloc]; omega) ?_; intro v2 w3 ho2 hb2 hg2 hat2; obtain ⟨B2, q2, rfl⟩ := own_form ho2; obtain ⟨hbm2, hM2⟩ := hM1.push2 ho2 hb2 hg2 hat2; have x3 := hbm2.cell 3; have y3 := hbm2.frozen 3; simp only [List.getElem?_toArray, List.getElem?_cons_succ, List.getElem?_cons_zero] at x3))
                  go_roundw
                  case rel => exact ⟨k + m, n, false, fs ++ [c], ts ++ [c], _, _, by go_num, rfl, by omega, by omega, by omega, HF2, by simp only [List.length_append, List.length_cons, List.length_nil, HLEN.out], by simp only [List.length_append, List.length_cons, List.length_nil]; omega, hM2⟩
                  case measure => simp [intOf]; omega
        · have i0 : decide ((k : Int) < (s.size : Int)) = false := by simp; omega
          have i9 : decide ((s.size : Int) ≤ (k : Int)) = true := by simp; omega
          have hR : RES = none := by rw [← HF.out, show (bl s).drop k = [] from List.drop_eq_nil_of_le (by rw [bl_length]; omega), Gl.setL_nil]
          clear HF
          go_wp2_with (first | (refine wpList_store_mk rfl _ _ rfl w.heap.size _ _ _ _ rfl rfl _ _ _ _ hM.bz (by simp [Value.oneCell']) ?_; intro wz hBz hgz hsz))
          refine bodyPost_ret (results_mk rfl rfl rfl rfl hBz) rfl ?_
          exact ⟨.inl ⟨by rw [hopen.out, hR]; rfl, rfl⟩, hM.bel.grown hgz hM.bel.size (fun k e => by cases e; exact Nat.le_refl _)⟩
end Go.Proofs.YtdjfakampjbgeaaGreatDoor
