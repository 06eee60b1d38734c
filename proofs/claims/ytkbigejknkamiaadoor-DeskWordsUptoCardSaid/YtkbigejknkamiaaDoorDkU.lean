/- desk.unquote, walked: it answers what Dk.unq tells. -/
import Derived.Test.YtkbigejknkamiaaDoorDkA
import Derived.Deep.RegionLaw
import Derived.Deep.RegionWith
namespace Go.Proofs.YtkbigejknkamiaaDoor
open Go.RowKit

/-- what unquote answers. -/
def unqV : Option (List UInt8 × Nat) → Value
  | some (w, k) => .tuple #[.string (bs w), .int .i64 (k : Int), .bool true]
  | none => .tuple #[.string ⟨#[]⟩, .int .i64 0, .bool false]
theorem byteSliceU : ElemT Tryd.prog 48 5 (.int .u8 0) 1 := ⟨Tryd.underlying48, by kernel_rfl, rfl⟩

theorem hexOr (a b : Nat) (ha : a < 16) (hb : b < 16) : [Value.int .u8 (bits BinOp.or IntKind.u8 (IntKind.u8.wrap ((a : Int) * 16)) (b : Int))] = bc [UInt8.ofNat (a * 16 + b)] := by
  have h : ∀ x y : Fin 16, bits BinOp.or IntKind.u8 (IntKind.u8.wrap ((x.val : Int) * 16)) (y.val : Int) = ((UInt8.ofNat (x.val * 16 + y.val)).toNat : Int) := by decide +kernel
  have := h ⟨a, ha⟩ ⟨b, hb⟩
  simp only [bc, List.map_cons, List.map_nil]
  rw [this]
set_option maxRecDepth 100000 in
set_option maxHeartbeats 4000000 in
theorem unquote_any (s : ByteArray) (w : World) (hs : s.size ≤ 1000000000000) :
    Calls Tryd.prog 12 #[.string s] w fun e w' => e = .returned (unqV (Dk.unq ((bl s).drop 1) [] 1)) ∧ Below w.heap.size w w' := by
  obtain ⟨U, hU⟩ : ∃ U, U = Dk.unq ((bl s).drop 1) [] 1 := ⟨_, rfl⟩
  have HU := Lib.hid hU
  rw [← hU]
  clear hU
  go_enter Tryd.func12, Tryd.ntmps12
  go_wp2_with fail
  go_loopw [5, 6] (fun v i wr => ∃ (k n : Nat) (acc : List UInt8), 1 ≤ k ∧ k ≤ s.size + 1 ∧ acc.length ≤ k ∧ i = .int .i64 k ∧ wr.ownsRow w.heap.size 5 1 v n (bc acc) ∧ Below w.heap.size w wr ∧ Hid (U = Dk.unq ((bl s).drop k) acc k)) (fun _ i _ => s.size + 1 - (intOf i).toNat)
  case atStart => exact ⟨1, 0, [], by omega, by omega, by simp, rfl, World.ownsRow_nil _ _ _ _, Below.refl _ _, HU⟩
  case round =>
    obtain ⟨k, n, acc, hk1, hk2, hal, rfl, hown, hbel, hrec⟩ := hrel
    have hsz := hbel.size
    have hn : n ≤ k := by have := hown.1; rw [bc_length] at this; omega
    clear HU
    by_cases hkn : k < s.size
    · have hc : (s[k]).toNat < 256 := (s[k]).toNat_lt
      have hi1 : (0 : Int) ≤ (k : Int) := by omega
      have hi2 : (k : Int) < (s.size : Int) := by omega
      have HC := Lib.hid (Dk.unq_cons s[k] ((bl s).drop (k + 1)) acc k)
      have HDr := Lib.hid (bl_drop_cons s k hkn)
      by_cases h1 : (s[k]).toNat = 34
      · have HV : Hid (U = some (acc, k + 1)) := by
          show _ = _
          rw [hrec.out, HDr.out, HC.out, if_pos h1]
        have t1 : (((s[k]).toNat : Int) == 34) = true := by simp [h1]
        have hcv := run_str_own Tryd.underlying48 Tryd.underlying5 hown 9 Tryd.underlying9
        clear h1
        go_wp2_with fail
        go_ret3
        exact ⟨by rw [HV.out]; rfl, hbel⟩
      · have t1 : (((s[k]).toNat : Int) == 34) = false := by simp; omega
        by_cases h2 : (s[k]).toNat = 10
        · have HV : Hid (U = none) := by
            show _ = _
            rw [hrec.out, HDr.out, HC.out, if_neg h1, if_pos h2]
          have t2 : (((s[k]).toNat : Int) == 10) = true := by simp [h2]
          clear h1 h2
          go_wp2_with fail
          go_ret3
          exact ⟨by rw [HV.out]; rfl, hbel⟩
        · have t2 : (((s[k]).toNat : Int) == 10) = false := by simp; omega
          by_cases h3 : (s[k]).toNat = 92
          · have t3 : (((s[k]).toNat : Int) == 92) = true := by simp [h3]
            by_cases hk3 : k + 1 < s.size
            · have HDr1 := Lib.hid (bl_drop_cons s (k + 1) hk3)
              have hj1 : (0 : Int) ≤ ((k : Int) + 1) := by omega
              have hj2 : ((k : Int) + 1) < (s.size : Int) := by omega
              have hj3 : (((k : Int) + 1) == (s.size : Int)) = false := by simp; omega
              have hc1 : (s[k + 1]).toNat < 256 := (s[k + 1]).toNat_lt
              by_cases h4 : (s[k + 1]).toNat = 34 ∨ (s[k + 1]).toNat = 92
              · have HV : Hid (U = Dk.unq ((bl s).drop (k + 2)) (acc ++ [s[k + 1]]) (k + 2)) := by
                  show _ = _
                  rw [hrec.out, HDr.out, HC.out, if_neg h1, if_neg h2, if_pos h3, HDr1.out]
                  simp only []
                  rw [if_pos h4]
                have hq : (((s[k + 1]).toNat : Int) == 34) = true ∨ ((((s[k + 1]).toNat : Int) == 34) = false ∧ (((s[k + 1]).toNat : Int) == 92) = true) := by
                  rcases h4 with h | h
                  · left; simp [h]
                  · right; simp [h]
                clear h1 h2 h3 h4
                rcases hq with t4 | ⟨t4, t5⟩
                all_goals
                  go_wp2_with ((at_builtin; refine wpList_app rfl _ _ _ rfl byteSliceU _ _ _ _ rfl (hown.alloc _) _ _ _ _ rfl rfl (news_alloc _ _ _) (one_of_all rfl) (by omega) (by omega) (hbel.alloc hsz _) (by simp; omega) ?_; intro v1 w1 hown1 hb1 hg1 hat1))
                  go_roundw
                  case rel => exact ⟨k + 2, n + 1, acc ++ [s[k + 1]], by omega, by omega, by simp; omega, by go_num, by rw [bc_append]; exact hown1, hb1, HV⟩
                  case measure => simp [intOf]; omega
              · have t4 : (((s[k + 1]).toNat : Int) == 34) = false := by simp; omega
                have t5 : (((s[k + 1]).toNat : Int) == 92) = false := by simp; omega
                by_cases h5 : (s[k + 1]).toNat = 110
                · have HV : Hid (U = Dk.unq ((bl s).drop (k + 2)) (acc ++ [10]) (k + 2)) := by
                    show _ = _
                    rw [hrec.out, HDr.out, HC.out, if_neg h1, if_neg h2, if_pos h3, HDr1.out]
                    simp only []
                    rw [if_neg h4, if_pos h5]
                  have t6 : (((s[k + 1]).toNat : Int) == 110) = true := by simp [h5]
                  clear h1 h2 h3 h4 h5
                  go_wp2_with ((at_builtin; refine wpList_app rfl _ _ _ rfl byteSliceU _ _ _ _ rfl (hown.alloc _) _ _ _ _ rfl rfl (news_alloc _ _ _) (one_of_all rfl) (by omega) (by omega) (hbel.alloc hsz _) (by simp; omega) ?_; intro v1 w1 hown1 hb1 hg1 hat1))
                  go_roundw
                  case rel => exact ⟨k + 2, n + 1, acc ++ [10], by omega, by omega, by simp; omega, by go_num, by rw [bc_append]; exact hown1, hb1, HV⟩
                  case measure => simp [intOf]; omega
                · have t6 : (((s[k + 1]).toNat : Int) == 110) = false := by simp; omega
                  by_cases h6 : (s[k + 1]).toNat = 120
                  · have t7 : (((s[k + 1]).toNat : Int) == 120) = true := by simp [h6]
                    by_cases hk5 : k + 3 < s.size
                    · have HDr2 := Lib.hid (bl_drop_cons s (k + 2) (by omega))
                      have HDr3 := Lib.hid (bl_drop_cons s (k + 3) hk5)
                      have hl1 : ((k : Int) + 1 + 2) < (s.size : Int) := by omega
                      have d1 : decide ((s.size : Int) ≤ (k : Int) + 1 + 2) = false := by simp; omega
                      have p1 : k + 1 + 1 < s.size := by omega
                      have p2 : k + 1 + 2 < s.size := by omega
                      have hl2 : (0 : Int) ≤ ((k : Int) + 1 + 1) := by omega
                      have hl3 : ((k : Int) + 1 + 1) < (s.size : Int) := by omega
                      have hl4 : (0 : Int) ≤ ((k : Int) + 1 + 2) := by omega
                      have hx1 : Dk.hexv s[k + 1 + 1] ≤ 16 := by unfold Dk.hexv; repeat' split
                                                                 all_goals omega
                      have hx2 : Dk.hexv s[k + 1 + 2] ≤ 16 := by unfold Dk.hexv; repeat' split
                                                                 all_goals omega
                      have HX : Hid (U = if Dk.hexv s[k + 1 + 1] < 16 ∧ Dk.hexv s[k + 1 + 2] < 16 then Dk.unq ((bl s).drop (k + 4)) (acc ++ [UInt8.ofNat (Dk.hexv s[k + 1 + 1] * 16 + Dk.hexv s[k + 1 + 2])]) (k + 4) else none) := by
                        show _ = _
                        rw [hrec.out, HDr.out, HC.out, if_neg h1, if_neg h2, if_pos h3, HDr1.out]
                        simp only []
                        rw [if_neg h4, if_neg h5, if_pos h6]
                        rw [show (bl s).drop (k + 1 + 1) = s[k + 1 + 1] :: s[k + 1 + 2] :: (bl s).drop (k + 4) from by rw [HDr2.out, HDr3.out]]
                      clear h1 h2 h3 h4 h5 h6
                      rcases (show (15 : Int) < (Dk.hexv s[k + 1 + 1] : Int) ∨ ((Dk.hexv s[k + 1 + 1] : Int) ≤ 15 ∧ (15 : Int) < (Dk.hexv s[k + 1 + 2] : Int)) ∨ ((Dk.hexv s[k + 1 + 1] : Int) ≤ 15 ∧ (Dk.hexv s[k + 1 + 2] : Int) ≤ 15) by omega) with h7 | ⟨h7, h8⟩ | ⟨h7, h8⟩
                      · have d2 : decide ((15 : Int) < (Dk.hexv s[k + 1 + 1] : Int)) = true := by simpa using h7
                        go_wp2_with (go_at_call 17; refine (deskHex_any _ _).mono ?_; rintro e w' ⟨rfl, rfl⟩)
                        go_ret3
                        exact ⟨by rw [HX.out, if_neg (by omega)]; rfl, hbel⟩
                      · have d2 : decide ((15 : Int) < (Dk.hexv s[k + 1 + 1] : Int)) = false := by simpa using h7
                        have d3 : decide ((15 : Int) < (Dk.hexv s[k + 1 + 2] : Int)) = true := by simpa using h8
                        go_wp2_with (go_at_call 17; refine (deskHex_any _ _).mono ?_; rintro e w' ⟨rfl, rfl⟩)
                        go_ret3
                        exact ⟨by rw [HX.out, if_neg (by omega)]; rfl, hbel⟩
                      · have d2 : decide ((15 : Int) < (Dk.hexv s[k + 1 + 1] : Int)) = false := by simpa using h7
                        have d3 : decide ((15 : Int) < (Dk.hexv s[k + 1 + 2] : Int)) = false := by simpa using h8
                        go_wp2_with (go_at_call 17; refine (deskHex_any _ _).mono ?_; rintro e w' ⟨rfl, rfl⟩)
                        have q1 : IntKind.i64.wrap ((k : Int) + 1 + 1) = (k : Int) + 1 + 1 := IntWalk.i64_in _ (by omega)
                        have q2 : IntKind.i64.wrap ((k : Int) + 1 + 2) = (k : Int) + 1 + 2 := IntWalk.i64_in _ (by omega)
                        have q3 : ((k : Int) + 1 + 1).toNat = k + 1 + 1 := by omega
                        have q4 : ((k : Int) + 1 + 2).toNat = k + 1 + 2 := by omega
                        go_region_law (first | (go_simp; go_at_call 17; refine (deskHex_any _ _).mono ?_; rintro e w' ⟨rfl, rfl⟩) | (refine step_app rfl _ _ _ rfl byteSliceU _ _ _ _ rfl (hown.alloc _) _ _ _ _ rfl rfl (news_alloc _ _ _) (one_of_all rfl) (by omega) (by omega) (hbel.alloc hsz _).drew (by simp; omega) ?_; intro v1 w1 hown1 hb1 hg1 hat1))
                        all_goals
                          have hN : [Value.int .u8 (bits BinOp.or IntKind.u8 (IntKind.u8.wrap ((Dk.hexv (s[k + 1 + 1]'p1) : Int) * 16)) (Dk.hexv (s[k + 1 + 2]'p2) : Int))] = bc [UInt8.ofNat (Dk.hexv (s[k + 1 + 1]'p1) * 16 + Dk.hexv (s[k + 1 + 2]'p2))] := hexOr _ _ (by omega) (by omega)
                          have hown2 : w1.ownsRow w.heap.size 5 1 v1 (n + 1) (bc (acc ++ [UInt8.ofNat (Dk.hexv (s[k + 1 + 1]'p1) * 16 + Dk.hexv (s[k + 1 + 2]'p2))])) := by rw [bc_append, ← hN]; exact hown1
                          clear hown1 hN hat1 hg1
                          go_wp2_with fail
                          go_roundw
                          case rel => exact ⟨k + 4, n + 1, acc ++ [UInt8.ofNat (Dk.hexv (s[k + 1 + 1]'p1) * 16 + Dk.hexv (s[k + 1 + 2]'p2))], by omega, by omega, by simp; omega, by go_num, hown2, hb1, by show _ = _; rw [HX.out, if_pos ⟨by omega, by omega⟩]⟩
                          case measure => simp [intOf]; omega
                    · have hl1 : (s.size : Int) ≤ ((k : Int) + 1 + 2) := by omega
                      have HV : Hid (U = none) := by
                        show _ = _
                        rw [hrec.out, HDr.out, HC.out, if_neg h1, if_neg h2, if_pos h3, HDr1.out]
                        simp only []
                        rw [if_neg h4, if_neg h5, if_pos h6]
                        have hle : ((bl s).drop (k + 1 + 1)).length ≤ 1 := by rw [List.length_drop, bl_length]; omega
                        cases hx : (bl s).drop (k + 1 + 1) with
                        | nil => rfl
                        | cons a r =>
                          rw [hx] at hle
                          cases r with
                          | nil => rfl
                          | cons b r => simp at hle
                      clear h1 h2 h3 h4 h5 h6
                      go_wp2_with fail
                      go_ret3
                      exact ⟨by rw [HV.out]; rfl, hbel⟩
                  · have t7 : (((s[k + 1]).toNat : Int) == 120) = false := by simp; omega
                    have HV : Hid (U = none) := by
                      show _ = _
                      rw [hrec.out, HDr.out, HC.out, if_neg h1, if_neg h2, if_pos h3, HDr1.out]
                      simp only []
                      rw [if_neg h4, if_neg h5, if_neg h6]
                    clear h1 h2 h3 h4 h5 h6
                    go_wp2_with fail
                    go_ret3
                    exact ⟨by rw [HV.out]; rfl, hbel⟩
            · have hj3 : (((k : Int) + 1) == (s.size : Int)) = true := by simp; omega
              have HV : Hid (U = none) := by
                show _ = _
                rw [hrec.out, HDr.out, HC.out, if_neg h1, if_neg h2, if_pos h3, List.drop_of_length_le (by rw [bl_length]; omega)]
              clear h1 h2 h3
              go_wp2_with fail
              go_ret3
              exact ⟨by rw [HV.out]; rfl, hbel⟩
          · have t3 : (((s[k]).toNat : Int) == 92) = false := by simp; omega
            have HV : Hid (U = Dk.unq ((bl s).drop (k + 1)) (acc ++ [s[k]]) (k + 1)) := by
              show _ = _
              rw [hrec.out, HDr.out, HC.out, if_neg h1, if_neg h2, if_neg h3]
            clear h1 h2 h3
            go_wp2_with ((at_builtin; refine wpList_app rfl _ _ _ rfl byteSliceU _ _ _ _ rfl (hown.alloc _) _ _ _ _ rfl rfl (news_alloc _ _ _) (one_of_all rfl) (by omega) (by omega) (hbel.alloc hsz _) (by simp; omega) ?_; intro v1 w1 hown1 hb1 hg1 hat1))
            go_roundw
            case rel => exact ⟨k + 1, n + 1, acc ++ [s[k]], by omega, by omega, by simp; omega, by go_num, by rw [bc_append]; exact hown1, hb1, HV⟩
            case measure => simp [intOf]; omega
    · have HV : Hid (U = none) := by
        show _ = _
        rw [hrec.out, List.drop_of_length_le (by rw [bl_length]; omega)]
        simp [Dk.unq]
      go_wp2_with fail
      go_ret3
      exact ⟨by rw [HV.out]; rfl, hbel⟩

theorem unquote_some (s : ByteArray) (w : World) (hs : s.size ≤ 1000000000000) {wd : List UInt8} {k : Nat} (h : Hid (Dk.unq ((bl s).drop 1) [] 1 = some (wd, k))) :
    Calls Tryd.prog 12 #[.string s] w fun e w' => e = .returned (.tuple #[.string (bs wd), .int .i64 (k : Int), .bool true]) ∧ Below w.heap.size w w' := by
  have := unquote_any s w hs
  rw [h.out] at this
  exact this
theorem unquote_none (s : ByteArray) (w : World) (hs : s.size ≤ 1000000000000) (h : Hid (Dk.unq ((bl s).drop 1) [] 1 = none)) :
    Calls Tryd.prog 12 #[.string s] w fun e w' => e = .returned (.tuple #[.string ⟨#[]⟩, .int .i64 0, .bool false]) ∧ Below w.heap.size w w' := by
  have := unquote_any s w hs
  rw [h.out] at this
  exact this
end Go.Proofs.YtkbigejknkamiaaDoor
