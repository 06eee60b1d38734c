/- strataref02.set, walked (printed by wip/gengrc.py). -/
import Derived.Test.YtdjfakampjbgeaaGreatDoorMJ
import Derived.Test.YtdjfakampjbgeaaGreatDoorGbT
namespace Go.Proofs.YtdjfakampjbgeaaGreatDoor
open Go.RowKit

/-- is x in one of the ranges? -/
def hasR (fs ts : List UInt8) (x : Nat) : Bool := (fs.zip ts).any fun p => decide (p.1.toNat ≤ x) && decide (x ≤ p.2.toNat)
theorem hasR_snoc {fs ts : List UInt8} (h : fs.length = ts.length) (c d : UInt8) (x : Nat) : hasR (fs ++ [c]) (ts ++ [d]) x = (hasR fs ts x || (decide (c.toNat ≤ x) && decide (x ≤ d.toNat))) := by
  rw [hasR, List.zip_append h, List.any_append]
  simp [hasR]
theorem mf_hasR (neg : Bool) (fs ts : List UInt8) {x : Nat} (hx : x < 256) : mf ⟨false, neg, fs, ts⟩ x = if neg then !hasR fs ts x else hasR fs ts x := by
  have e : (fs.zip ts).any (fun p => decide (p.1 ≤ UInt8.ofNat x) && decide (UInt8.ofNat x ≤ p.2)) = hasR fs ts x := by
    rw [hasR]
    congr 1
    funext p
    have h1 : (UInt8.ofNat x).toNat = x := by simp; omega
    simp only [UInt8.le_iff_toNat_le, h1]
  rw [mf, Gl.Mk.takes]
  simp only [e]
  cases neg <;> cases hasR fs ts x <;> rfl
/-- what set answers. -/
def HasAns (s : ByteArray) (i : Nat) (w w' : World) (e : Ending) : Prop :=
  (Gl.setOpen ((bl s).drop (i + 1)) = none ∧ e = .returned (.tuple #[.slice none 0 0, .int .i64 0, .bool false])) ∨
  (∃ m n g, Gl.setOpen ((bl s).drop (i + 1)) = some (m, (bl s).drop n) ∧ i + 1 < n ∧ n ≤ s.size ∧ m.any = false ∧ e = .returned (.tuple #[.slice (some ⟨g, 0, none⟩) 256 256, .int .i64 (n : Int), .bool true]) ∧ w.heap.size ≤ g ∧ BF w' g 256 (mf m))
set_option maxRecDepth 100000 in
set_option maxHeartbeats 4000000 in
theorem set_any (s : ByteArray) (i : Nat) (hs : s.size ≤ 2000000) (hi : i < s.size) (w : World) : Calls Tryz.prog 67 #[.string s, .int .i64 (i : Int)] w fun e w' => HasAns s i w w' e ∧ Below w.heap.size w w' := by
  obtain ⟨neg, hneg⟩ : ∃ neg : Bool, neg = (((bl s).drop (i + 1)).head? = some 33 || ((bl s).drop (i + 1)).head? = some 94 : Bool) := ⟨_, rfl⟩
  obtain ⟨k0, hk0, hk0s, hl0⟩ : ∃ k0 : Nat, (i + 1 ≤ k0 ∧ k0 ≤ i + 2 ∧ ((k0 : Int) = if neg then (i : Int) + 1 + 1 else (i : Int) + 1)) ∧ k0 ≤ s.size ∧ (if neg then ((bl s).drop (i + 1)).tail else (bl s).drop (i + 1)) = (bl s).drop k0 := by
    cases neg with
    | false => exact ⟨i + 1, by simp, by omega, by simp⟩
    | true =>
      refine ⟨i + 2, by simp; omega, ?_, by rw [if_pos rfl, List.tail_drop]⟩
      rcases Nat.lt_or_ge (i + 1) s.size with h | h
      · omega
      · rw [show (bl s).drop (i + 1) = [] from List.drop_eq_nil_of_le (by rw [bl_length]; omega)] at hneg
        simp at hneg
  obtain ⟨RES, hRES⟩ : ∃ RES, Gl.setL (((bl s).drop k0).length + 1) true ((bl s).drop k0) [] [] = RES := ⟨_, rfl⟩
  have hopen : Hid (Gl.setOpen ((bl s).drop (i + 1)) = RES.map fun x => (⟨false, neg, x.1.1, x.1.2⟩, x.2)) := setOpen_eq _ neg hneg (by rw [hl0]; exact hRES)
  clear hl0
  have hF0' : Hid (Gl.setL (((bl s).drop k0).length + 1) true ((bl s).drop k0) [] [] = RES) := hRES
  clear hRES
  have hmk : ∀ W : World, (Instr.makeSlice 65 (.int .i64 256) (.int .i64 256)).run Tryz.prog W = .ok (.slice (some ⟨W.heap.size, 0, none⟩) 256 256) (W.alloc (.cells (madeCells #[.bool false] 256) 4)) := fun W => make_bf 256 (by decide) W
  have hF0 := BF.new w 256
  have hb1 := (Below.refl w.heap.size w).alloc (Nat.le_refl _) (.cells (madeCells #[.bool false] 256) 4)
  obtain ⟨w1, hw1⟩ : ∃ w1, w.alloc (.cells (madeCells #[.bool false] 256) 4) = w1 := ⟨_, rfl⟩
  rw [hw1] at hF0 hb1
  have HW1 := Lib.hid hw1
  clear hw1
  have ji : (0 : Int) ≤ (i : Int) := by omega
  go_enter Tryz.func67, Tryz.ntmps67
  go_upto_region 2 with fail
  rw [HW1.out]
  go_upto_region 3 with fail
  go_cut [8] (fun s8 wx => s8 = .bool neg ∧ wx = w1)
  case first =>
    clear hF0 hF0' hopen
    rcases Nat.lt_or_ge (i + 1) s.size with h | h
    · have hd := bl_drop_cons s (i + 1) h
      have i0 : decide ((i : Int) + 1 < (s.size : Int)) = true := by rw [decide_eq_true_eq]; omega
      have i1 : (i : Int) + 1 < (s.size : Int) := by omega
      have hb : (s[i + 1]).toNat < 256 := (s[i + 1]).toNat_lt
      by_cases e1 : s[i + 1] = 33
      · have t1 : (((s[i + 1]).toNat : Int) == 33) = true := by rw [e1]; rfl
        have hn : Hid (neg = true) := by show _ = _; rw [hneg, hd]; simp [e1]
        clear hd hneg
        go_wp2_with fail
        go_meet
        exact ⟨by rw [hn.out], by first | rfl | trivial⟩
      · have t1 : (((s[i + 1]).toNat : Int) == 33) = false := by
          simp only [beq_eq_false_iff_ne, ne_eq]
          exact fun e => e1 (UInt8.toNat_inj.1 (by rw [show (33 : UInt8).toNat = 33 from rfl]; omega))
        by_cases e2 : s[i + 1] = 94
        · have t2 : (((s[i + 1]).toNat : Int) == 94) = true := by rw [e2]; rfl
          have hn : Hid (neg = true) := by show _ = _; rw [hneg, hd]; simp [e2]
          clear hd hneg
          go_wp2_with fail
          go_meet
          exact ⟨by rw [hn.out], by first | rfl | trivial⟩
        · have t2 : (((s[i + 1]).toNat : Int) == 94) = false := by
            simp only [beq_eq_false_iff_ne, ne_eq]
            exact fun e => e2 (UInt8.toNat_inj.1 (by rw [show (94 : UInt8).toNat = 94 from rfl]; omega))
          have hn : Hid (neg = false) := by show _ = _; rw [hneg, hd]; simp [e1, e2]
          clear hd hneg
          go_wp2_with fail
          go_meet
          exact ⟨by rw [hn.out], by first | rfl | trivial⟩
    · have i0 : decide ((i : Int) + 1 < (s.size : Int)) = false := by rw [decide_eq_false_iff_not]; omega
      have hn : Hid (neg = false) := by show _ = _; rw [hneg, show (bl s).drop (i + 1) = [] from List.drop_eq_nil_of_le (by rw [bl_length]; omega)]; rfl
      clear hneg
      go_wp2_with fail
      go_meet
      exact ⟨by rw [hn.out], by first | rfl | trivial⟩
  case rest =>
    obtain ⟨rfl, hwc⟩ := hcut
    rw [← hwc] at hF0 hb1
    clear hneg hwc
    go_upto_if 35 with fail
    go_cut [1] (fun s1 wx => s1 = .int .i64 (k0 : Int) ∧ BF wx w.heap.size 256 (fun _ => false) ∧ Below w.heap.size w wx)
    case first =>
      clear hopen hF0'
      cases neg with
      | false =>
        have e0 : Hid ((k0 : Int) = (i : Int) + 1) := by show _ = _; simpa using hk0.2.2
        clear hk0 hk0s
        go_wp2_with fail
        go_meet
        exact ⟨by rw [e0.out], hF0, hb1⟩
      | true =>
        have e0 : Hid ((k0 : Int) = (i : Int) + 1 + 1) := by show _ = _; simpa using hk0.2.2
        clear hk0 hk0s
        go_wp2_with fail
        go_meet
        exact ⟨by rw [e0.out], hF0, hb1⟩
    case rest =>
      clear hF0 hb1 HW1
      obtain ⟨rfl, hF0, hB0⟩ := hcut
      have hk01 := hk0.1
      clear hk0
      go_wp2_with fail
      go_loopw [1, 9, 10, 11, 12, 13, 14] (fun t1 t9 _ _ _ _ _ wr => ∃ (k fuel : Nat) (first : Bool) (fs ts : List UInt8), t1 = .int .i64 (k : Int) ∧ t9 = .bool first ∧ k ≤ s.size ∧ i + 1 ≤ k ∧ s.size - k < fuel ∧ Hid (Gl.setL fuel first ((bl s).drop k) fs ts = RES) ∧ Hid (fs.length = ts.length) ∧ BF wr w.heap.size 256 (hasR fs ts) ∧ Below w.heap.size w wr) (fun t1 _ _ _ _ _ _ _ => s.size - (intOf t1).toNat)
      case atStart => exact ⟨k0, _, true, [], [], rfl, rfl, hk0s, hk01, by rw [List.length_drop, bl_length]; omega, hF0', rfl, hF0, hB0⟩
      case round =>
        clear hF0 hB0 hF0' hk0s hk01
        obtain ⟨k, fuel, first, fs, ts, rfl, rfl, hk, hik, hfu, HF, HLEN, hF, hB⟩ := hrel
        obtain ⟨n, rfl⟩ : ∃ n, fuel = n + 1 := ⟨fuel - 1, by omega⟩
        have j0 : (0 : Int) ≤ (k : Int) := by omega
        rcases Nat.lt_or_ge k s.size with hkn | hkn
        · have i0 : decide ((s.size : Int) ≤ (k : Int)) = false := by rw [decide_eq_false_iff_not]; omega
          have i0n : decide (s.size ≤ k) = false := by rw [decide_eq_false_iff_not]; omega
          have i1 : (k : Int) < (s.size : Int) := by omega
          have hb : (s[k]).toNat < 256 := (s[k]).toNat_lt
          obtain ⟨stop, hstop⟩ : ∃ stop : Bool, Hid (stop = (s[k] == 93 && !first)) := ⟨s[k] == 93 && !first, Lib.hid rfl⟩
          go_upto_region 9 with fail
          go_cut [49] (fun s49 wx => s49 = .bool stop ∧ wx = wr)
          case first =>
            clear HF hopen hF hB
            by_cases e1 : s[k] = 93
            · have t1 : (((s[k]).toNat : Int) == 93) = true := by rw [e1]; rfl
              have hn : Hid (stop = !first) := by show _ = _; rw [hstop.out, e1]; rfl
              clear hstop e1
              cases first
              all_goals (go_wp2_with fail; go_meet; exact ⟨by rw [hn.out]; rfl, by first | rfl | trivial⟩)
            · have t1 : (((s[k]).toNat : Int) == 93) = false := by
                simp only [beq_eq_false_iff_ne, ne_eq]
                exact fun e => e1 (UInt8.toNat_inj.1 (by rw [show (93 : UInt8).toNat = 93 from rfl]; omega))
              have hn : Hid (stop = false) := by show _ = _; rw [hstop.out]; simp [e1]
              clear hstop e1
              go_wp2_with fail
              go_meet
              exact ⟨by rw [hn.out], by first | rfl | trivial⟩
          case rest =>
            obtain ⟨rfl, hwc⟩ := hcut
            rw [← hwc] at hF hB
            clear hwc
            have hd := bl_drop_cons s k hkn
            cases stop with
            | true =>
              have hx : s[k] = 93 ∧ first = false := by
                have := hstop.out.symm
                simp only [Bool.and_eq_true, beq_iff_eq, Bool.not_eq_true'] at this
                exact this
              have hR : Hid (RES = some ((fs, ts), (bl s).drop (k + 1))) := by show _ = _; rw [← HF.out, hd, hx.1, hx.2, Gl.setL_end]
              have hO : Hid (Gl.setOpen ((bl s).drop (i + 1)) = some (⟨false, neg, fs, ts⟩, (bl s).drop (k + 1))) := by show _ = _; rw [hopen.out, hR.out]; rfl
              clear hd HF hstop hx hR hopen
              cases neg with
              | false =>
                have hF2 : BF _ w.heap.size 256 (mf ⟨false, false, fs, ts⟩) := hF.congr fun x hx => by rw [mf_hasR _ _ _ hx]; rfl
                clear hF
                go_wp2_with fail
                go_ret3
                exact ⟨.inr ⟨_, k + 1, _, hO.out, by omega, by omega, rfl, by first | rfl | (simp; done), Nat.le_refl _, hF2⟩, hB⟩
              | true =>
                go_wp2_with fail
                go_loopw [15] (fun t15 wr => ∃ q : Nat, q ≤ 256 ∧ t15 = .int .i64 (q : Int) ∧ BF wr w.heap.size 256 (fun x => if x < q then !hasR fs ts x else hasR fs ts x) ∧ Below w.heap.size w wr) (fun t15 _ => 256 - (intOf t15).toNat)
                case atStart => exact ⟨0, by omega, rfl, hF.congr fun x _ => by rw [if_neg (by omega)], hB⟩
                case round =>
                  clear hF hB
                  obtain ⟨q, hq, rfl, hF, hB⟩ := hrel
                  have jq : (0 : Int) ≤ (q : Int) := by omega
                  rcases Nat.lt_or_ge q 256 with hqn | hqn
                  · have iq : decide ((q : Int) < 256) = true := by rw [decide_eq_true_eq]; omega
                    have iq1 : (q : Int) < 256 := by omega
                    have c1 := hF.cell hqn
                    rw [if_neg (by omega)] at c1
                    have f1 := hF.frozen q
                    have hF2 : BF (wr.setCell ⟨w.heap.size, q, none⟩ (.bool (!hasR fs ts q))) w.heap.size 256 (fun x => if x < q + 1 then !hasR fs ts x else hasR fs ts x) := (hF.set_ q _).congr fun x _ => by
                      rcases Nat.lt_trichotomy x q with h | h | h
                      · rw [if_neg (by omega), if_pos h, if_pos (by omega)]
                      · rw [if_pos h, if_pos (by omega), h]
                      · rw [if_neg (by omega), if_neg (by omega), if_neg (by omega)]
                    have hB2 : Below w.heap.size w (wr.setCell ⟨w.heap.size, q, none⟩ (.bool (!hasR fs ts q))) := hB.setCell (p := ⟨w.heap.size, q, none⟩) (Nat.le_refl _) _
                    go_wp2_with fail
                    go_roundw
                    case rel => exact ⟨q + 1, by omega, by go_num, hF2, hB2⟩
                    case measure => simp [intOf]; omega
                  · have iq : decide ((q : Int) < 256) = false := by rw [decide_eq_false_iff_not]; omega
                    have hF2 : BF wr w.heap.size 256 (mf ⟨false, true, fs, ts⟩) := hF.congr fun x hx => by rw [if_pos (by omega), mf_hasR _ _ _ hx]; rfl
                    clear hF
                    go_wp2_with fail
                    go_ret3
                    exact ⟨.inr ⟨_, k + 1, _, hO.out, by omega, by omega, rfl, by first | rfl | (simp; done), Nat.le_refl _, hF2⟩, hB⟩
            | false =>
              have hx : s[k] ≠ 93 ∨ first = true := by
                have := hstop.out.symm
                rw [Bool.and_eq_false_iff] at this
                rcases this with h | h
                · exact .inl (by simpa using h)
                · exact .inr (by simpa using h)
              clear hstop
              go_wp2_with fail
              refine (byteAt_any s k hs hkn _).mono ?_
              rintro e w2 ⟨hS, rfl⟩
              rcases hS with ⟨ho, rfl⟩ | ⟨c, n1, ho, hn1, hn2, hn3, rfl⟩
              · have hR : Hid (RES = none) := by show _ = _; rw [← HF.out, hd, Gl.setL_none hx (by rw [← hd]; exact ho)]
                have hO : Hid (Gl.setOpen ((bl s).drop (i + 1)) = none) := by show _ = _; rw [hopen.out, hR.out]; rfl
                clear hd HF hx hR hopen ho
                go_wp2_with fail
                go_ret3
                exact ⟨.inl ⟨hO.out, by first | rfl | (simp; done)⟩, hB⟩
              · rw [hd] at ho
                obtain ⟨rng, q1, q2, q3⟩ : ∃ rng : Bool, (rng = true → ∃ (h : n1 + 1 < s.size), s[n1] = 45 ∧ s[n1 + 1] ≠ 93) ∧ (rng = false → Gl.setL (n + 1) first (s[k] :: (bl s).drop (k + 1)) fs ts = Gl.setL n false ((bl s).drop n1) (fs ++ [c]) (ts ++ [c])) ∧
                    (rng = true ∨ s.size ≤ n1 + 1 ∨ ∃ (h : n1 + 1 < s.size), s[n1] ≠ 45 ∨ (s[n1] = 45 ∧ s[n1 + 1] = 93)) := by
                  rcases Nat.lt_or_ge (n1 + 1) s.size with h | h
                  · have d1 := bl_drop_cons s n1 (by omega)
                    have d2 := bl_drop_cons s (n1 + 1) h
                    rw [d2] at d1
                    by_cases e1 : s[n1] = 45
                    · by_cases e2 : s[n1 + 1] = 93
                      · exact ⟨false, fun e => (by cases e), fun _ => by rw [d1] at ho ⊢; exact Gl.setL_one2 hx ho (.inr e2), .inr (.inr ⟨h, .inr ⟨e1, e2⟩⟩)⟩
                      · exact ⟨true, fun _ => ⟨h, e1, e2⟩, fun e => (by cases e), .inl rfl⟩
                    · exact ⟨false, fun e => (by cases e), fun _ => by rw [d1] at ho ⊢; exact Gl.setL_one2 hx ho (.inl e1), .inr (.inr ⟨h, .inl e1⟩)⟩
                  · exact ⟨false, fun e => (by cases e), fun _ => Gl.setL_one1 hx ho (by rw [List.length_drop, bl_length]; omega), .inr (.inl h)⟩
                have hrng := Lib.hid q1
                have hrng2 := Lib.hid q2
                have hrng3 := Lib.hid q3
                clear q1 q2 q3
                have j1 : (0 : Int) ≤ (n1 : Int) := by omega
                rw [hd] at HF
                have HO := Lib.hid ho
                clear ho hd
                go_upto_region 16 with fail
                go_cut [78] (fun s78 wx => s78 = .bool rng ∧ wx = wc)
                case first =>
                  clear HF hopen hF hB HO hrng2
                  cases rng with
                  | true =>
                    obtain ⟨h, e1, e2⟩ := hrng.out rfl
                    have k1 : decide ((n1 : Int) + 1 < (s.size : Int)) = true := by rw [decide_eq_true_eq]; omega
                    have k2 : (n1 : Int) + 1 < (s.size : Int) := by omega
                    have k3 : (n1 : Int) < (s.size : Int) := by omega
                    have b1 : (s[n1]).toNat < 256 := (s[n1]).toNat_lt
                    have b2 : (s[n1 + 1]).toNat < 256 := (s[n1 + 1]).toNat_lt
                    have t1 : (((s[n1]).toNat : Int) == 45) = true := by rw [e1]; rfl
                    have t2 : (((s[n1 + 1]).toNat : Int) != 93) = true := by
                      simp only [bne_iff_ne, ne_eq]
                      exact fun e => e2 (UInt8.toNat_inj.1 (by rw [show (93 : UInt8).toNat = 93 from rfl]; omega))
                    clear e1 e2 hrng hrng3
                    go_wp2_with fail
                    go_meet
                    exact ⟨by first | rfl | (simp; done), by first | rfl | trivial⟩
                  | false =>
                    rcases hrng3.out with h | h | ⟨h, h2⟩
                    · cases h
                    · have k1 : decide ((n1 : Int) + 1 < (s.size : Int)) = false := by rw [decide_eq_false_iff_not]; omega
                      clear hrng hrng3
                      go_wp2_with fail
                      go_meet
                      exact ⟨by first | rfl | (simp; done), by first | rfl | trivial⟩
                    · have k1 : decide ((n1 : Int) + 1 < (s.size : Int)) = true := by rw [decide_eq_true_eq]; omega
                      have k2 : (n1 : Int) + 1 < (s.size : Int) := by omega
                      have k3 : (n1 : Int) < (s.size : Int) := by omega
                      have b1 : (s[n1]).toNat < 256 := (s[n1]).toNat_lt
                      have b2 : (s[n1 + 1]).toNat < 256 := (s[n1 + 1]).toNat_lt
                      rcases h2 with e1 | ⟨e1, e2⟩
                      · have t1 : (((s[n1]).toNat : Int) == 45) = false := by
                          simp only [beq_eq_false_iff_ne, ne_eq]
                          exact fun e => e1 (UInt8.toNat_inj.1 (by rw [show (45 : UInt8).toNat = 45 from rfl]; omega))
                        clear e1 hrng hrng3
                        go_wp2_with fail
                        go_meet
                        exact ⟨by first | rfl | (simp; done), by first | rfl | trivial⟩
                      · have t1 : (((s[n1]).toNat : Int) == 45) = true := by rw [e1]; rfl
                        have t2 : (((s[n1 + 1]).toNat : Int) != 93) = false := by rw [e2]; rfl
                        clear e1 e2 hrng hrng3
                        go_wp2_with fail
                        go_meet
                        exact ⟨by first | rfl | (simp; done), by first | rfl | trivial⟩
                case rest =>
                  obtain ⟨rfl, hwc⟩ := hcut
                  rw [← hwc] at hF hB
                  clear hwc hrng3
                  cases rng with
                  | false =>
                    have HF2 : Hid (Gl.setL n false ((bl s).drop n1) (fs ++ [c]) (ts ++ [c]) = RES) := by show _ = _; rw [← hrng2.out rfl]; exact HF.out
                    have hcd : c.toNat ≤ c.toNat := Nat.le_refl _
                    clear HF hrng hrng2 HO hx
                    have hcl : c.toNat < 256 := c.toNat_lt
                    have hdl : c.toNat < 256 := c.toNat_lt
                    have hcd' : c.toNat ≤ c.toNat := hcd
                    clear hcd
                    go_upto_region 21 with fail
                    go_wp2_with fail
                    go_loopw [14] (fun t14 wr => ∃ q : Nat, c.toNat ≤ q ∧ q ≤ c.toNat + 1 ∧ t14 = .int .i64 (q : Int) ∧ BF wr w.heap.size 256 (fun x => hasR fs ts x || (decide (c.toNat ≤ x) && decide (x < q))) ∧ Below w.heap.size w wr) (fun t14 _ => 256 - (intOf t14).toNat)
                    case atStart => exact ⟨c.toNat, Nat.le_refl _, by omega, rfl, hF.congr fun x _ => by rw [show (decide (c.toNat ≤ x) && decide (x < c.toNat)) = false by simp <;> omega, Bool.or_false], hB⟩
                    case round =>
                      clear hF hB
                      obtain ⟨q, hq1, hq2, rfl, hF, hB⟩ := hrel
                      have j0 : (0 : Int) ≤ (q : Int) := by omega
                      rcases Nat.lt_or_ge c.toNat q with hqd | hqd
                      · have i0 : decide ((q : Int) ≤ (c.toNat : Int)) = false := by rw [decide_eq_false_iff_not]; omega
                        have i0n : decide (q ≤ c.toNat) = false := by rw [decide_eq_false_iff_not]; omega
                        have hF2 : BF wr w.heap.size 256 (hasR (fs ++ [c]) (ts ++ [c])) := hF.congr fun x _ => by
                          rw [hasR_snoc HLEN.out, show decide (x < q) = decide (x ≤ c.toNat) by rw [decide_eq_decide]; omega]
                        have hL2 : Hid ((fs ++ [c]).length = (ts ++ [c]).length) := by show _ = _; simp only [List.length_append, HLEN.out, List.length_cons, List.length_nil]
                        clear hF hq1 hq2
                        go_wp2_with fail
                        go_roundw
                        case rel => exact ⟨n1, n, false, fs ++ [c], ts ++ [c], rfl, rfl, by omega, by omega, by omega, HF2, hL2, hF2, hB⟩
                        case measure => simp [intOf]; omega
                      · have i0 : decide ((q : Int) ≤ (c.toNat : Int)) = true := by rw [decide_eq_true_eq]; omega
                        have i0n : decide (q ≤ c.toNat) = true := by rw [decide_eq_true_eq]; omega
                        have i1 : (q : Int) < 256 := by omega
                        have hq256 : q < 256 := by omega
                        have c1 := hF.cell hq256
                        have f1 := hF.frozen q
                        have hF2 : BF (wr.setCell ⟨w.heap.size, q, none⟩ (.bool true)) w.heap.size 256 (fun x => hasR fs ts x || (decide (c.toNat ≤ x) && decide (x < q + 1))) := (hF.set_ q true).congr fun x _ => by
                          by_cases hx : x = q
                          · rw [if_pos hx, hx, show decide (c.toNat ≤ q) = true by simpa using hq1, show decide (q < q + 1) = true by simp]; simp
                          · rw [if_neg hx, show decide (x < q + 1) = decide (x < q) by rw [decide_eq_decide]; omega]
                        have hB2 : Below w.heap.size w (wr.setCell ⟨w.heap.size, q, none⟩ (.bool true)) := hB.setCell (p := ⟨w.heap.size, q, none⟩) (Nat.le_refl _) _
                        go_wp2_with fail
                        go_roundw
                        case rel => exact ⟨q + 1, by omega, by omega, by go_num, hF2, hB2⟩
                        case measure => simp [intOf]; omega
                  | true =>
                    obtain ⟨h, e1, e2⟩ := hrng.out rfl
                    have d1 := bl_drop_cons s n1 (by omega)
                    have d2 := bl_drop_cons s (n1 + 1) h
                    rw [d2, e1] at d1
                    have ho := HO.out
                    rw [d1] at ho
                    have k1 : (n1 : Int) + 1 < (s.size : Int) := by omega
                    clear e1 hrng hrng2 d1 HO
                    go_wp2_with fail
                    refine (byteAt_any s (n1 + 1) hs h _).mono ?_
                    rintro e w3 ⟨hS, rfl⟩
                    rcases hS with ⟨ho2, rfl⟩ | ⟨d, k2, ho2, hk2, hk3, hk4, rfl⟩
                    · rw [d2] at ho2
                      have hR : Hid (RES = none) := by show _ = _; rw [← HF.out]; exact Gl.setL_rnone hx ho e2 ho2
                      have hO : Hid (Gl.setOpen ((bl s).drop (i + 1)) = none) := by show _ = _; rw [hopen.out, hR.out]; rfl
                      clear d2 HF hx hR hopen ho ho2 e2
                      go_wp2_with fail
                      go_ret3
                      exact ⟨.inl ⟨hO.out, by first | rfl | (simp; done)⟩, hB⟩
                    · rw [d2] at ho2
                      rcases Nat.lt_or_ge d.toNat c.toNat with hdc | hcd
                      · have hR : Hid (RES = none) := by show _ = _; rw [← HF.out]; exact Gl.setL_rlt hx ho e2 ho2 (UInt8.lt_iff_toNat_lt.2 hdc)
                        have hO : Hid (Gl.setOpen ((bl s).drop (i + 1)) = none) := by show _ = _; rw [hopen.out, hR.out]; rfl
                        have t1 : decide ((d.toNat : Int) < (c.toNat : Int)) = true := by rw [decide_eq_true_eq]; omega
                        have t1n : decide (d.toNat < c.toNat) = true := by rw [decide_eq_true_eq]; omega
                        clear d2 HF hx hR hopen ho ho2 e2 hdc
                        go_wp2_with fail
                        go_ret3
                        exact ⟨.inl ⟨hO.out, by first | rfl | (simp; done)⟩, hB⟩
                      · have HF2 : Hid (Gl.setL n false ((bl s).drop k2) (fs ++ [c]) (ts ++ [d]) = RES) := by
                          show _ = _
                          rw [← HF.out, Gl.setL_rng hx ho e2 ho2 (fun hh => by have := UInt8.lt_iff_toNat_lt.1 hh; omega)]
                        have t1 : decide ((d.toNat : Int) < (c.toNat : Int)) = false := by rw [decide_eq_false_iff_not]; omega
                        have t1n : decide (d.toNat < c.toNat) = false := by rw [decide_eq_false_iff_not]; omega
                        clear d2 HF hx ho ho2 e2
                        have hcl : c.toNat < 256 := c.toNat_lt
                        have hdl : d.toNat < 256 := d.toNat_lt
                        have hcd' : c.toNat ≤ d.toNat := hcd
                        clear hcd
                        go_upto_region 21 with fail
                        go_wp2_with fail
                        go_loopw [14] (fun t14 wr => ∃ q : Nat, c.toNat ≤ q ∧ q ≤ d.toNat + 1 ∧ t14 = .int .i64 (q : Int) ∧ BF wr w.heap.size 256 (fun x => hasR fs ts x || (decide (c.toNat ≤ x) && decide (x < q))) ∧ Below w.heap.size w wr) (fun t14 _ => 256 - (intOf t14).toNat)
                        case atStart => exact ⟨c.toNat, Nat.le_refl _, by omega, rfl, hF.congr fun x _ => by rw [show (decide (c.toNat ≤ x) && decide (x < c.toNat)) = false by simp <;> omega, Bool.or_false], hB⟩
                        case round =>
                          clear hF hB
                          obtain ⟨q, hq1, hq2, rfl, hF, hB⟩ := hrel
                          have j0 : (0 : Int) ≤ (q : Int) := by omega
                          rcases Nat.lt_or_ge d.toNat q with hqd | hqd
                          · have i0 : decide ((q : Int) ≤ (d.toNat : Int)) = false := by rw [decide_eq_false_iff_not]; omega
                            have i0n : decide (q ≤ d.toNat) = false := by rw [decide_eq_false_iff_not]; omega
                            have hF2 : BF wr w.heap.size 256 (hasR (fs ++ [c]) (ts ++ [d])) := hF.congr fun x _ => by
                              rw [hasR_snoc HLEN.out, show decide (x < q) = decide (x ≤ d.toNat) by rw [decide_eq_decide]; omega]
                            have hL2 : Hid ((fs ++ [c]).length = (ts ++ [d]).length) := by show _ = _; simp only [List.length_append, HLEN.out, List.length_cons, List.length_nil]
                            clear hF hq1 hq2
                            go_wp2_with fail
                            go_roundw
                            case rel => exact ⟨k2, n, false, fs ++ [c], ts ++ [d], rfl, rfl, by omega, by omega, by omega, HF2, hL2, hF2, hB⟩
                            case measure => simp [intOf]; omega
                          · have i0 : decide ((q : Int) ≤ (d.toNat : Int)) = true := by rw [decide_eq_true_eq]; omega
                            have i0n : decide (q ≤ d.toNat) = true := by rw [decide_eq_true_eq]; omega
                            have i1 : (q : Int) < 256 := by omega
                            have hq256 : q < 256 := by omega
                            have c1 := hF.cell hq256
                            have f1 := hF.frozen q
                            have hF2 : BF (wr.setCell ⟨w.heap.size, q, none⟩ (.bool true)) w.heap.size 256 (fun x => hasR fs ts x || (decide (c.toNat ≤ x) && decide (x < q + 1))) := (hF.set_ q true).congr fun x _ => by
                              by_cases hx : x = q
                              · rw [if_pos hx, hx, show decide (c.toNat ≤ q) = true by simpa using hq1, show decide (q < q + 1) = true by simp]; simp
                              · rw [if_neg hx, show decide (x < q + 1) = decide (x < q) by rw [decide_eq_decide]; omega]
                            have hB2 : Below w.heap.size w (wr.setCell ⟨w.heap.size, q, none⟩ (.bool true)) := hB.setCell (p := ⟨w.heap.size, q, none⟩) (Nat.le_refl _) _
                            go_wp2_with fail
                            go_roundw
                            case rel => exact ⟨q + 1, by omega, by omega, by go_num, hF2, hB2⟩
                            case measure => simp [intOf]; omega
        · have i0 : decide ((s.size : Int) ≤ (k : Int)) = true := by rw [decide_eq_true_eq]; omega
          have i0n : decide (s.size ≤ k) = true := by rw [decide_eq_true_eq]; omega
          have hR : Hid (RES = none) := by show _ = _; rw [← HF.out, show (bl s).drop k = [] from List.drop_eq_nil_of_le (by rw [bl_length]; omega), Gl.setL_nil]
          have hO : Hid (Gl.setOpen ((bl s).drop (i + 1)) = none) := by show _ = _; rw [hopen.out, hR.out]; rfl
          clear HF hR hopen
          go_wp2_with fail
          go_ret3
          exact ⟨.inl ⟨hO.out, by first | rfl | (simp; done)⟩, hB⟩
end Go.Proofs.YtdjfakampjbgeaaGreatDoor
