/- The reference's Words (strataref32), walked whole: it answers what Dk.wordsF tells. -/
import Derived.Test.YtkbigejknkamiaaDoorDkR
namespace Go.Proofs.YtkbigejknkamiaaDoor
open Go.RowKit

/-- what the reference's Words answers. -/
def RefWordsEnd (B : Nat) (o : Option (List (List UInt8))) (e : Ending) (w' : World) : Prop :=
  match o with
  | some l => ∃ v, e = .returned (.tuple #[v, .int .i64 0]) ∧ w'.ownsRow B 9 1 v l.length (sc l)
  | none => e = .returned (.tuple #[.slice none 0 0, .int .i64 6])
theorem quoted_some (s : ByteArray) (at_ : Nat) (w : World) (hs : s.size ≤ 1000000000000) (hat : at_ < s.size) {wd : List UInt8} {k E : Nat} (h : Hid (Dk.unq ((bl s).drop (at_ + 1)) [] 1 = some (wd, k))) (hE : Hid (E = at_ + k)) :
    Calls Tryd.prog 10 #[.string s, .int .i64 (at_ : Int)] w fun e w' => e = .returned (.tuple #[.string (bs wd), .int .i64 (E : Int)]) ∧ Below w.heap.size w w' := by
  have := quoted_any s at_ w hs hat
  rw [h.out] at this
  rw [hE.out]
  exact this
theorem quoted_none (s : ByteArray) (at_ : Nat) (w : World) (hs : s.size ≤ 1000000000000) (hat : at_ < s.size) (h : Hid (Dk.unq ((bl s).drop (at_ + 1)) [] 1 = none)) :
    Calls Tryd.prog 10 #[.string s, .int .i64 (at_ : Int)] w fun e w' => e = .returned (.tuple #[.string ⟨#[]⟩, .int .i64 (-1)]) ∧ Below w.heap.size w w' := by
  have := quoted_any s at_ w hs hat
  rw [h.out] at this
  exact this

set_option maxRecDepth 100000 in
set_option maxHeartbeats 4000000 in
theorem refWords_any (s : ByteArray) (w : World) (hs : s.size ≤ 1000000000000) :
    Calls Tryd.prog 4 #[.string s] w fun e w' => RefWordsEnd w.heap.size (Dk.words (bl s)) e w' ∧ Below w.heap.size w w' := by
  obtain ⟨U, hU⟩ : ∃ U, U = Dk.words (bl s) := ⟨_, rfl⟩
  have HU : Hid (U = Dk.wordsF s.size ((bl s).drop 0) []) := by
    show _ = _
    rw [hU, Dk.words, bl_length]; rfl
  rw [← hU]
  clear hU
  go_enter Tryd.func4, Tryd.ntmps4
  go_wp2_with fail
  go_loopw [4, 5] (fun v i wr => ∃ (k n m : Nat) (acc : List (List UInt8)), k ≤ s.size ∧ s.size ≤ m + k ∧ n ≤ k ∧ i = .int .i64 k ∧ wr.ownsRow w.heap.size 9 1 v n (sc acc) ∧ Below w.heap.size w wr ∧ Hid (U = Dk.wordsF m ((bl s).drop k) acc)) (fun _ i _ => s.size - (intOf i).toNat)
  case atStart => exact ⟨0, 0, s.size, [], by omega, by omega, by omega, rfl, World.ownsRow_nil _ _ _ _, Below.refl _ _, HU⟩
  case round =>
    obtain ⟨k, n, m, acc, hk, hm, hn, rfl, hown, hbel, hrec⟩ := hrel
    have hsz := hbel.size
    clear HU
    by_cases hkn : k < s.size
    · obtain ⟨m, rfl⟩ : ∃ m', m = m' + 1 := ⟨m - 1, by omega⟩
      have hc : (s[k]).toNat < 256 := (s[k]).toNat_lt
      have hi1 : (0 : Int) ≤ (k : Int) := by omega
      have hi2 : (k : Int) < (s.size : Int) := by omega
      have HR : Hid (U = _) := hrec.out.trans (by rw [bl_drop_cons s k hkn, wordsF_cons])
      clear hrec
      by_cases h1 : Dk.isBl s[k] = true
      · have HV : Hid (U = Dk.wordsF m ((bl s).drop (k + 1)) acc) := by
          show _ = _
          rw [HR.out, if_pos h1]
        go_wp2_with (go_at_call 9; refine (refBlank_any _ _).mono ?_; rintro e w' ⟨rfl, rfl⟩)
        go_roundw
        case rel => exact ⟨k + 1, n, m, acc, by omega, by omega, by omega, by go_num, hown, hbel, HV⟩
        case measure => simp [intOf]; omega
      · have h1' : Dk.isBl s[k] = false := by simpa using h1
        by_cases h2 : (s[k]).toNat = 35
        · have t2 : (((s[k]).toNat : Int) == 35) = true := by simp [h2]
          have HV : Hid (U = some acc) := by
            show _ = _
            rw [HR.out, if_neg h1, if_pos h2]
          have hl : acc.length = n := by have := hown.1; rw [sc_length] at this; omega
          have HL := Lib.hid hl
          clear h1 h2 hl
          go_wp2_with (go_at_call 9; refine (refBlank_any _ _).mono ?_; rintro e w' ⟨rfl, rfl⟩)
          go_ret2
          exact ⟨by rw [HV.out]; exact ⟨_, rfl, by rw [HL.out]; exact hown⟩, hbel⟩
        · have t2 : (((s[k]).toNat : Int) == 35) = false := by simp; omega
          by_cases h3 : (s[k]).toNat = 34
          · have t3 : (((s[k]).toNat : Int) == 34) = true := by simp [h3]
            rcases hu : Dk.unq ((bl s).drop (k + 1)) [] 1 with _ | ⟨wd, kk⟩
            · have HV : Hid (U = none) := by
                show _ = _
                rw [HR.out, if_neg h1, if_neg h2, if_pos h3, hu]
              have HU2 := Lib.hid hu
              clear hu h1 h2 h3 HR
              go_wp2_with (first | (go_at_call 9; refine (refBlank_any _ _).mono ?_; rintro e w' ⟨rfl, rfl⟩) | (go_at_call 10; refine (quoted_none _ _ _ hs hkn HU2).mono ?_; rintro e w2 ⟨rfl, hb2⟩))
              go_ret2
              exact ⟨by rw [HV.out]; rfl, below_of_below hbel hb2 hsz⟩
            · have hkk := Dk.unq_bounds _ _ _ _ _ _ (Nat.le_refl _) hu
              rw [List.length_drop, bl_length] at hkk
              have HU2 := Lib.hid hu
              have hdd : (s[k] :: (bl s).drop (k + 1)).drop kk = (bl s).drop (k + kk) := by rw [← bl_drop_cons s k hkn, List.drop_drop]
              obtain ⟨E, hE⟩ : ∃ E, E = k + kk := ⟨_, rfl⟩
              have hEl : k < E ∧ E ≤ s.size := by omega
              have hneg : decide ((E : Int) < 0) = false := by simp
              by_cases hend : E < s.size
              · have hj1 : (0 : Int) ≤ (E : Int) := by omega
                have hj2 : (E : Int) < (s.size : Int) := by omega
                have hj3 : decide ((E : Int) < (s.size : Int)) = true := by simpa using hend
                have HR2 : Hid (U = if Dk.isBl s[E] then Dk.wordsF m ((bl s).drop E) (acc ++ [wd]) else none) := by
                  show _ = _
                  rw [HR.out, if_neg h1, if_neg h2, if_pos h3, hu]
                  simp only []
                  rw [hdd, ← hE, bl_drop_cons s E hend]
                have HE := Lib.hid hE
                clear hu h1 h2 h3 HR hdd hE
                by_cases hb4 : Dk.isBl s[E] = true
                · have HV : Hid (U = Dk.wordsF m ((bl s).drop E) (acc ++ [wd])) := by
                    show _ = _
                    rw [HR2.out, if_pos hb4]
                  clear HR2
                  go_wp2_with (first | (go_at_call 9; refine (refBlank_any _ _).mono ?_; rintro e w' ⟨rfl, rfl⟩) | (go_at_call 10; refine (quoted_some _ _ _ hs hkn HU2 HE).mono ?_; rintro e w2 ⟨rfl, hb2⟩; have hown2 := own_below hown hb2; have hbel2 := below_of_below hbel hb2 hsz; have hsz2 := hbel2.size) | (at_builtin; refine wpList_app rfl _ _ _ rfl strSlice _ _ _ _ rfl (hown2.alloc _) _ _ _ _ rfl rfl (news_alloc _ _ _) (one_of_all rfl) (by omega) (by omega) (hbel2.alloc hsz2 _) (by simp; omega) ?_; intro v1 w1 hown1 hb1 hg1 hat1))
                  go_roundw
                  case rel => exact ⟨E, n + 1, m, acc ++ [wd], by omega, by omega, by omega, rfl, by rw [sc_append, ← sc_wd]; exact hown1, hb1, HV⟩
                  case measure => simp [intOf]; omega
                · have hb4' : Dk.isBl s[E] = false := by simpa using hb4
                  have HV : Hid (U = none) := by
                    show _ = _
                    rw [HR2.out, if_neg hb4]
                  clear HR2 hb4
                  go_wp2_with (first | (go_at_call 9; refine (refBlank_any _ _).mono ?_; rintro e w' ⟨rfl, rfl⟩) | (go_at_call 10; refine (quoted_some _ _ _ hs hkn HU2 HE).mono ?_; rintro e w2 ⟨rfl, hb2⟩))
                  go_ret2
                  exact ⟨by rw [HV.out]; rfl, below_of_below hbel hb2 hsz⟩
              · have hd : decide ((E : Int) < (s.size : Int)) = false := by simp; omega
                have HV : Hid (U = Dk.wordsF m ((bl s).drop E) (acc ++ [wd])) := by
                  show _ = _
                  rw [HR.out, if_neg h1, if_neg h2, if_pos h3, hu]
                  simp only []
                  rw [hdd, ← hE, List.drop_of_length_le (by rw [bl_length]; omega)]
                have HE := Lib.hid hE
                clear hu h1 h2 h3 HR hdd hE
                go_wp2_with (first | (go_at_call 9; refine (refBlank_any _ _).mono ?_; rintro e w' ⟨rfl, rfl⟩) | (go_at_call 10; refine (quoted_some _ _ _ hs hkn HU2 HE).mono ?_; rintro e w2 ⟨rfl, hb2⟩; have hown2 := own_below hown hb2; have hbel2 := below_of_below hbel hb2 hsz; have hsz2 := hbel2.size) | (at_builtin; refine wpList_app rfl _ _ _ rfl strSlice _ _ _ _ rfl (hown2.alloc _) _ _ _ _ rfl rfl (news_alloc _ _ _) (one_of_all rfl) (by omega) (by omega) (hbel2.alloc hsz2 _) (by simp; omega) ?_; intro v1 w1 hown1 hb1 hg1 hat1))
                go_roundw
                case rel => exact ⟨E, n + 1, m, acc ++ [wd], by omega, by omega, by omega, rfl, by rw [sc_append, ← sc_wd]; exact hown1, hb1, HV⟩
                case measure => simp [intOf]; omega
          · have t3 : (((s[k]).toNat : Int) == 34) = false := by simp; omega
            have HV : Hid (U = Dk.wordsF m (((bl s).drop k).dropWhile nbl) (acc ++ [((bl s).drop k).takeWhile nbl])) := by
              show _ = _
              rw [HR.out, if_neg h1, if_neg h2, if_neg h3, ← bl_drop_cons s k hkn]
            obtain ⟨E, hE⟩ : ∃ E, E = k + (((bl s).drop k).takeWhile nbl).length := ⟨_, rfl⟩
            have hEl : E ≤ s.size := by
              have := List.IsPrefix.length_le (List.takeWhile_prefix (p := nbl) (l := (bl s).drop k))
              rw [List.length_drop, bl_length] at this
              omega
            have hEk : k + 1 ≤ E := by
              rw [bl_drop_cons s k hkn, List.takeWhile_cons, if_pos (by simp [nbl, h1']), List.length_cons] at hE
              omega
            have HW : Hid (U = Dk.wordsF m ((bl s).drop E) (acc ++ [bl (s.extract k E)])) := by
              show _ = _
              rw [HV.out, dw_drop, List.drop_drop, ← hE, bl_extract, show E - k = (((bl s).drop k).takeWhile nbl).length by omega, ← tw_take]
            have HE := Lib.hid hE
            clear hE HV HR h1 h2 h3
            obtain ⟨wo, hwo⟩ : ∃ wo, wr = wo := ⟨_, rfl⟩
            subst hwo
            go_wp2_with (go_at_call 9; refine (refBlank_any _ _).mono ?_; rintro e w' ⟨rfl, rfl⟩)
            go_loop [8] (fun x => ∃ j : Nat, k ≤ j ∧ j ≤ s.size ∧ x = .int .i64 j ∧ Hid (E = j + (((bl s).drop j).takeWhile nbl).length)) (fun x => s.size - (intOf x).toNat)
            case atStart => exact ⟨k, by omega, by omega, rfl, HE⟩
            case round =>
              obtain ⟨j, hj1, hj2, rfl, hjE⟩ := hrel
              clear HE
              by_cases hjs : j < s.size
              · have hji1 : (0 : Int) ≤ (j : Int) := by omega
                have hji2 : (j : Int) < (s.size : Int) := by omega
                by_cases hjb : Dk.isBl s[j] = true
                · have hjE2 : E = j := by
                    have := hjE.out
                    rw [bl_drop_cons s j hjs, List.takeWhile_cons, if_neg (by simp [nbl, hjb])] at this
                    simpa using this
                  subst hjE2
                  clear hjE
                  go_wp2_with (first | (go_at_call 9; refine (refBlank_any _ _).mono ?_; rintro e w' ⟨rfl, rfl⟩) | (at_builtin; refine wpList_app rfl _ _ _ rfl strSlice _ _ _ _ rfl (hown.alloc _) _ _ _ _ rfl rfl (news_alloc _ _ _) (one_of_all rfl) (by omega) (by omega) (hbel.alloc hsz _) (by simp; omega) ?_; intro v1 w1 hown1 hb1 hg1 hat1))
                  go_roundw
                  case rel => exact ⟨E, n + 1, m, acc ++ [bl (s.extract k E)], by omega, by omega, by omega, rfl, by rw [sc_append, ← sc_bl]; exact hown1, hb1, HW⟩
                  case measure => simp [intOf]; omega
                · have hjb' : Dk.isBl s[j] = false := by simpa using hjb
                  have hjE2 : Hid (E = j + 1 + (((bl s).drop (j + 1)).takeWhile nbl).length) := by
                    show _ = _
                    have := hjE.out
                    rw [bl_drop_cons s j hjs, List.takeWhile_cons, if_pos (by simp [nbl, hjb']), List.length_cons] at this
                    omega
                  clear hjE hjb
                  go_wp2_with (go_at_call 9; refine (refBlank_any _ _).mono ?_; rintro e w' ⟨rfl, rfl⟩)
                  go_round
                  case rel => exact ⟨j + 1, by omega, by omega, by go_num, hjE2⟩
                  case measure => simp [intOf]; omega
              · have hjE2 : E = j := by
                  have := hjE.out
                  rw [List.drop_of_length_le (by rw [bl_length]; omega)] at this
                  simpa using this
                subst hjE2
                clear hjE
                have hd : decide ((E : Int) < (s.size : Int)) = false := by simp; omega
                go_wp2_with (first | (go_at_call 9; refine (refBlank_any _ _).mono ?_; rintro e w' ⟨rfl, rfl⟩) | (at_builtin; refine wpList_app rfl _ _ _ rfl strSlice _ _ _ _ rfl (hown.alloc _) _ _ _ _ rfl rfl (news_alloc _ _ _) (one_of_all rfl) (by omega) (by omega) (hbel.alloc hsz _) (by simp; omega) ?_; intro v1 w1 hown1 hb1 hg1 hat1))
                go_roundw
                case rel => exact ⟨E, n + 1, m, acc ++ [bl (s.extract k E)], by omega, by omega, by omega, rfl, by rw [sc_append, ← sc_bl]; exact hown1, hb1, HW⟩
                case measure => simp [intOf]; omega
    · have HV : Hid (U = some acc) := by
        show _ = _
        rw [hrec.out, List.drop_of_length_le (by rw [bl_length]; omega)]
        cases m <;> rfl
      have hl : acc.length = n := by have := hown.1; rw [sc_length] at this; omega
      have HL := Lib.hid hl
      clear hl
      go_wp2_with fail
      go_ret2
      exact ⟨by rw [HV.out]; exact ⟨_, rfl, by rw [HL.out]; exact hown⟩, hbel⟩
end Go.Proofs.YtkbigejknkamiaaDoor
