/- desk.Words, walked: it answers what Dk.wordsF tells. -/
import Derived.Test.YtkbigejknkamiaaDoorDkU
namespace Go.Proofs.YtkbigejknkamiaaDoor
open Go.RowKit

/-- the error of Words. -/
def wordsFault : Value := .iface 41 (.agg #[.string ⟨#[119, 111, 114, 100, 115]⟩, .int .i64 6])
/-- what Words answers. -/
def WordsEnd (B : Nat) (o : Option (List (List UInt8))) (e : Ending) (w' : World) : Prop :=
  match o with
  | some l => ∃ v, e = .returned (.tuple #[v, .nilIface]) ∧ w'.ownsRow B 9 1 v l.length (sc l)
  | none => e = .returned (.tuple #[.slice none 0 0, wordsFault])
theorem strSlice : ElemT Tryd.prog 22 9 (.string ⟨#[]⟩) 16 := ⟨Tryd.underlying22, by kernel_rfl, rfl⟩
theorem tw_take (p : UInt8 → Bool) (l : List UInt8) : l.takeWhile p = l.take (l.takeWhile p).length := by
  induction l with
  | nil => rfl
  | cons c l ih =>
    rw [List.takeWhile_cons]
    split
    · rw [List.length_cons, List.take_succ_cons, ← ih]
    · rfl
theorem dw_drop (p : UInt8 → Bool) (l : List UInt8) : l.dropWhile p = l.drop (l.takeWhile p).length := by
  induction l with
  | nil => rfl
  | cons c l ih =>
    rw [List.takeWhile_cons, List.dropWhile_cons]
    split
    · rw [List.length_cons, List.drop_succ_cons, ← ih]
    · rfl
theorem sc_bl (x : ByteArray) : [Value.string x] = sc [bl x] := by simp [sc, bs_bl]
theorem sc_wd (x : List UInt8) : [Value.string (bs x)] = sc [x] := rfl
def nbl (c : UInt8) : Bool := !Dk.isBl c
theorem wordsF_cons (n : Nat) (c : UInt8) (r : List UInt8) (acc : List (List UInt8)) : Dk.wordsF (n + 1) (c :: r) acc =
    if Dk.isBl c then Dk.wordsF n r acc else if c.toNat = 35 then some acc
    else if c.toNat = 34 then
      match Dk.unq r [] 1 with
      | none => none
      | some (w, k) =>
        match (c :: r).drop k with
        | [] => Dk.wordsF n [] (acc ++ [w])
        | d :: r' => if Dk.isBl d then Dk.wordsF n (d :: r') (acc ++ [w]) else none
    else Dk.wordsF n ((c :: r).dropWhile nbl) (acc ++ [(c :: r).takeWhile nbl]) := by
  rw [Dk.wordsF]; rfl

set_option maxRecDepth 100000 in
set_option maxHeartbeats 4000000 in
theorem words_any (s : ByteArray) (w : World) (hs : s.size ≤ 1000000000000) :
    Calls Tryd.prog 5 #[.string s] w fun e w' => WordsEnd w.heap.size (Dk.words (bl s)) e w' ∧ Below w.heap.size w w' := by
  obtain ⟨U, hU⟩ : ∃ U, U = Dk.words (bl s) := ⟨_, rfl⟩
  have HU : Hid (U = Dk.wordsF s.size ((bl s).drop 0) []) := by
    show _ = _
    rw [hU, Dk.words, bl_length]; rfl
  rw [← hU]
  clear hU
  go_enter Tryd.func5, Tryd.ntmps5
  go_wp2_with fail
  go_loopw [4, 5] (fun v i wr => ∃ (k n m : Nat) (acc : List (List UInt8)), k ≤ s.size ∧ s.size ≤ m + k ∧ n ≤ k ∧ i = .int .i64 k ∧ wr.ownsRow w.heap.size 9 1 v n (sc acc) ∧ Below w.heap.size w wr ∧ Hid (U = Dk.wordsF m ((bl s).drop k) acc)) (fun _ i _ => s.size - (intOf i).toNat)
  case atStart => exact ⟨0, 0, s.size, [], by omega, by omega, by omega, rfl, World.ownsRow_nil _ _ _ _, Below.refl _ _, HU⟩
  case round =>
    obtain ⟨k, n, m, acc, hk, hm, hn, rfl, hown, hbel, hrec⟩ := hrel
    have hsz := hbel.size
    clear HU
    by_cases hkn : k < s.size
    · obtain ⟨m, rfl⟩ : ∃ m', m = m' + 1 := ⟨m - 1, by omega⟩
      have hc : (s[k]).toNat < 256 := (s[k]).toNat_lt
      have hi1 : (0 : Int) ≤ (k : Int) := by omega
      have hi2 : (k : Int) < (s.size : Int) := by omega
      have HR : Hid (U = _) := hrec.out.trans (by rw [bl_drop_cons s k hkn, wordsF_cons])
      clear hrec
      by_cases h1 : Dk.isBl s[k] = true
      · have HV : Hid (U = Dk.wordsF m ((bl s).drop (k + 1)) acc) := by
          show _ = _
          rw [HR.out, if_pos h1]
        go_wp2_with (go_at_call 11; refine (isBlank_any _ _).mono ?_; rintro e w' ⟨rfl, rfl⟩)
        go_roundw
        case rel => exact ⟨k + 1, n, m, acc, by omega, by omega, by omega, by go_num, hown, hbel, HV⟩
        case measure => simp [intOf]; omega
      · have h1' : Dk.isBl s[k] = false := by simpa using h1
        by_cases h2 : (s[k]).toNat = 35
        · have t2 : (((s[k]).toNat : Int) == 35) = true := by simp [h2]
          have HV : Hid (U = some acc) := by
            show _ = _
            rw [HR.out, if_neg h1, if_pos h2]
          have hl : acc.length = n := by have := hown.1; rw [sc_length] at this; omega
          have HL := Lib.hid hl
          clear h1 h2 hl
          go_wp2_with (go_at_call 11; refine (isBlank_any _ _).mono ?_; rintro e w' ⟨rfl, rfl⟩)
          go_ret2
          exact ⟨by rw [HV.out]; exact ⟨_, rfl, by rw [HL.out]; exact hown⟩, hbel⟩
        · have t2 : (((s[k]).toNat : Int) == 35) = false := by simp; omega
          by_cases h3 : (s[k]).toNat = 34
          · have t3 : (((s[k]).toNat : Int) == 34) = true := by simp [h3]
            have hbf : (bl (s.extract k s.size)).drop 1 = (bl s).drop (k + 1) := by rw [bl_from, List.drop_drop]
            have hxs : (s.extract k s.size).size ≤ 1000000000000 := by rw [ByteArray.size_extract]; omega
            rcases hu : Dk.unq ((bl s).drop (k + 1)) [] 1 with _ | ⟨wd, kk⟩
            · have HV : Hid (U = none) := by
                show _ = _
                rw [HR.out, if_neg h1, if_neg h2, if_pos h3, hu]
              have HU2 : Hid (Dk.unq ((bl (s.extract k s.size)).drop 1) [] 1 = none) := by
                show _ = _
                rw [hbf, hu]
              clear hu hbf h1 h2 h3 HR
              go_wp2_with (first | (go_at_call 11; refine (isBlank_any _ _).mono ?_; rintro e w' ⟨rfl, rfl⟩) | (go_at_call 12; refine (unquote_none _ _ hxs HU2).mono ?_; rintro e w2 ⟨rfl, hb2⟩))
              go_ret2
              exact ⟨by rw [HV.out]; rfl, below_of_below hbel hb2 hsz⟩
            · have hkk := Dk.unq_bounds _ _ _ _ _ _ (Nat.le_refl _) hu
              rw [List.length_drop, bl_length] at hkk
              have HU2 : Hid (Dk.unq ((bl (s.extract k s.size)).drop 1) [] 1 = some (wd, kk)) := by
                show _ = _
                rw [hbf, hu]
              have hdd : (s[k] :: (bl s).drop (k + 1)).drop kk = (bl s).drop (k + kk) := by rw [← bl_drop_cons s k hkn, List.drop_drop]
              by_cases hend : k + kk < s.size
              · have hj1 : (0 : Int) ≤ (k : Int) + (kk : Int) := by omega
                have hj2 : (k : Int) + (kk : Int) < (s.size : Int) := by omega
                have HR2 : Hid (U = if Dk.isBl s[k + kk] then Dk.wordsF m ((bl s).drop (k + kk)) (acc ++ [wd]) else none) := by
                  show _ = _
                  rw [HR.out, if_neg h1, if_neg h2, if_pos h3, hu]
                  simp only []
                  rw [hdd, bl_drop_cons s (k + kk) hend]
                clear hu hbf h1 h2 h3 HR hdd
                by_cases hb4 : Dk.isBl s[k + kk] = true
                · have HV : Hid (U = Dk.wordsF m ((bl s).drop (k + kk)) (acc ++ [wd])) := by
                    show _ = _
                    rw [HR2.out, if_pos hb4]
                  clear HR2
                  go_wp2_with (first | (go_at_call 11; refine (isBlank_any _ _).mono ?_; rintro e w' ⟨rfl, rfl⟩) | (go_at_call 12; refine (unquote_some _ _ hxs HU2).mono ?_; rintro e w2 ⟨rfl, hb2⟩; have hown2 := own_below hown hb2; have hbel2 := below_of_below hbel hb2 hsz; have hsz2 := hbel2.size) | (at_builtin; refine wpList_app rfl _ _ _ rfl strSlice _ _ _ _ rfl (hown2.alloc _) _ _ _ _ rfl rfl (news_alloc _ _ _) (one_of_all rfl) (by omega) (by omega) (hbel2.alloc hsz2 _) (by simp; omega) ?_; intro v1 w1 hown1 hb1 hg1 hat1))
                  go_roundw
                  case rel => exact ⟨k + kk, n + 1, m, acc ++ [wd], by omega, by omega, by omega, by go_num, by rw [sc_append, ← sc_wd]; exact hown1, hb1, HV⟩
                  case measure => simp [intOf]; omega
                · have hb4' : Dk.isBl s[k + kk] = false := by simpa using hb4
                  have HV : Hid (U = none) := by
                    show _ = _
                    rw [HR2.out, if_neg hb4]
                  clear HR2 hb4
                  go_wp2_with (first | (go_at_call 11; refine (isBlank_any _ _).mono ?_; rintro e w' ⟨rfl, rfl⟩) | (go_at_call 12; refine (unquote_some _ _ hxs HU2).mono ?_; rintro e w2 ⟨rfl, hb2⟩))
                  go_ret2
                  exact ⟨by rw [HV.out]; rfl, below_of_below hbel hb2 hsz⟩
              · have hd : decide ((k : Int) + (kk : Int) < (s.size : Int)) = false := by simp; omega
                have HV : Hid (U = Dk.wordsF m ((bl s).drop (k + kk)) (acc ++ [wd])) := by
                  show _ = _
                  rw [HR.out, if_neg h1, if_neg h2, if_pos h3, hu]
                  simp only []
                  rw [hdd, List.drop_of_length_le (by rw [bl_length]; omega)]
                clear hu hbf h1 h2 h3 HR hdd
                go_wp2_with (first | (go_at_call 11; refine (isBlank_any _ _).mono ?_; rintro e w' ⟨rfl, rfl⟩) | (go_at_call 12; refine (unquote_some _ _ hxs HU2).mono ?_; rintro e w2 ⟨rfl, hb2⟩; have hown2 := own_below hown hb2; have hbel2 := below_of_below hbel hb2 hsz; have hsz2 := hbel2.size) | (at_builtin; refine wpList_app rfl _ _ _ rfl strSlice _ _ _ _ rfl (hown2.alloc _) _ _ _ _ rfl rfl (news_alloc _ _ _) (one_of_all rfl) (by omega) (by omega) (hbel2.alloc hsz2 _) (by simp; omega) ?_; intro v1 w1 hown1 hb1 hg1 hat1))
                go_roundw
                case rel => exact ⟨k + kk, n + 1, m, acc ++ [wd], by omega, by omega, by omega, by go_num, by rw [sc_append, ← sc_wd]; exact hown1, hb1, HV⟩
                case measure => simp [intOf]; omega
          · have t3 : (((s[k]).toNat : Int) == 34) = false := by simp; omega
            have HV : Hid (U = Dk.wordsF m (((bl s).drop k).dropWhile nbl) (acc ++ [((bl s).drop k).takeWhile nbl])) := by
              show _ = _
              rw [HR.out, if_neg h1, if_neg h2, if_neg h3, ← bl_drop_cons s k hkn]
            obtain ⟨E, hE⟩ : ∃ E, E = k + (((bl s).drop k).takeWhile nbl).length := ⟨_, rfl⟩
            have hEl : E ≤ s.size := by
              have := List.IsPrefix.length_le (List.takeWhile_prefix (p := nbl) (l := (bl s).drop k))
              rw [List.length_drop, bl_length] at this
              omega
            have hEk : k + 1 ≤ E := by
              rw [bl_drop_cons s k hkn, List.takeWhile_cons, if_pos (by simp [nbl, h1']), List.length_cons] at hE
              omega
            have HW : Hid (U = Dk.wordsF m ((bl s).drop E) (acc ++ [bl (s.extract k E)])) := by
              show _ = _
              rw [HV.out, dw_drop, List.drop_drop, ← hE, bl_extract, show E - k = (((bl s).drop k).takeWhile nbl).length by omega, ← tw_take]
            have HE := Lib.hid hE
            clear hE HV HR h1 h2 h3
            obtain ⟨wo, hwo⟩ : ∃ wo, wr = wo := ⟨_, rfl⟩
            subst hwo
            go_wp2_with (go_at_call 11; refine (isBlank_any _ _).mono ?_; rintro e w' ⟨rfl, rfl⟩)
            go_loop [9] (fun x => ∃ j : Nat, k ≤ j ∧ j ≤ s.size ∧ x = .int .i64 j ∧ Hid (E = j + (((bl s).drop j).takeWhile nbl).length)) (fun x => s.size - (intOf x).toNat)
            case atStart => exact ⟨k, by omega, by omega, rfl, HE⟩
            case round =>
              obtain ⟨j, hj1, hj2, rfl, hjE⟩ := hrel
              clear HE
              by_cases hjs : j < s.size
              · have hji1 : (0 : Int) ≤ (j : Int) := by omega
                have hji2 : (j : Int) < (s.size : Int) := by omega
                by_cases hjb : Dk.isBl s[j] = true
                · have hjE2 : E = j := by
                    have := hjE.out
                    rw [bl_drop_cons s j hjs, List.takeWhile_cons, if_neg (by simp [nbl, hjb])] at this
                    simpa using this
                  subst hjE2
                  clear hjE
                  go_wp2_with (first | (go_at_call 11; refine (isBlank_any _ _).mono ?_; rintro e w' ⟨rfl, rfl⟩) | (at_builtin; refine wpList_app rfl _ _ _ rfl strSlice _ _ _ _ rfl (hown.alloc _) _ _ _ _ rfl rfl (news_alloc _ _ _) (one_of_all rfl) (by omega) (by omega) (hbel.alloc hsz _) (by simp; omega) ?_; intro v1 w1 hown1 hb1 hg1 hat1))
                  go_roundw
                  case rel => exact ⟨E, n + 1, m, acc ++ [bl (s.extract k E)], by omega, by omega, by omega, rfl, by rw [sc_append, ← sc_bl]; exact hown1, hb1, HW⟩
                  case measure => simp [intOf]; omega
                · have hjb' : Dk.isBl s[j] = false := by simpa using hjb
                  have hjE2 : Hid (E = j + 1 + (((bl s).drop (j + 1)).takeWhile nbl).length) := by
                    show _ = _
                    have := hjE.out
                    rw [bl_drop_cons s j hjs, List.takeWhile_cons, if_pos (by simp [nbl, hjb']), List.length_cons] at this
                    omega
                  clear hjE hjb
                  go_wp2_with (go_at_call 11; refine (isBlank_any _ _).mono ?_; rintro e w' ⟨rfl, rfl⟩)
                  go_round
                  case rel => exact ⟨j + 1, by omega, by omega, by go_num, hjE2⟩
                  case measure => simp [intOf]; omega
              · have hjE2 : E = j := by
                  have := hjE.out
                  rw [List.drop_of_length_le (by rw [bl_length]; omega)] at this
                  simpa using this
                subst hjE2
                clear hjE
                have hd : decide ((E : Int) < (s.size : Int)) = false := by simp; omega
                go_wp2_with (first | (go_at_call 11; refine (isBlank_any _ _).mono ?_; rintro e w' ⟨rfl, rfl⟩) | (at_builtin; refine wpList_app rfl _ _ _ rfl strSlice _ _ _ _ rfl (hown.alloc _) _ _ _ _ rfl rfl (news_alloc _ _ _) (one_of_all rfl) (by omega) (by omega) (hbel.alloc hsz _) (by simp; omega) ?_; intro v1 w1 hown1 hb1 hg1 hat1))
                go_roundw
                case rel => exact ⟨E, n + 1, m, acc ++ [bl (s.extract k E)], by omega, by omega, by omega, rfl, by rw [sc_append, ← sc_bl]; exact hown1, hb1, HW⟩
                case measure => simp [intOf]; omega
    · have HV : Hid (U = some acc) := by
        show _ = _
        rw [hrec.out, List.drop_of_length_le (by rw [bl_length]; omega)]
        cases m <;> rfl
      have hl : acc.length = n := by have := hown.1; rw [sc_length] at this; omega
      have HL := Lib.hid hl
      clear hl
      go_wp2_with fail
      go_ret2
      exact ⟨by rw [HV.out]; exact ⟨_, rfl, by rw [HL.out]; exact hown⟩, hbel⟩
end Go.Proofs.YtkbigejknkamiaaDoor
