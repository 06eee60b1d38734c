/- strataref01.Split, walked: it answers what Us.split tells. -/
import Derived.Test.YtfhfahlocpmdkaaDoorUsC
namespace Go.Proofs.YtfhfahlocpmdkaaDoor
open Go.RowKit

/-- the slash that is looked for, from place k on. -/
def spR (p : List UInt8) (f k : Nat) : Option (List UInt8 × List UInt8) :=
  match Us.slash ((p.drop k).take (f + 100 - k)) k with
  | none => none
  | some j => if 1 ≤ j ∧ j ≤ 155 then some (p.take j, p.drop (j + 1)) else none
theorem split_spR {p : List UInt8} {f : Nat} (h : p.length = f + 101) : Us.split p = spR p f f := by
  rw [Us.split, if_neg (by omega), spR, show p.length - 101 = f by omega, show f + 100 - f = 100 by omega]
  cases Us.slash (List.take 100 (List.drop f p)) f <;> rfl
theorem spR_step {p : List UInt8} {f k : Nat} (hk : k < p.length) (h : k < f + 100) :
    spR p f k = if (p[k]).toNat = 47 then (if 1 ≤ k ∧ k ≤ 155 then some (p.take k, p.drop (k + 1)) else none) else spR p f (k + 1) := by
  rw [spR, spR, List.drop_eq_getElem_cons hk, show f + 100 - k = (f + 100 - (k + 1)) + 1 by omega, List.take_succ_cons, Us.slash]
  by_cases h47 : (p[k]).toNat = 47
  · rw [if_pos h47, if_pos h47]
  · rw [if_neg h47, if_neg h47]
theorem spR_end {p : List UInt8} {f k : Nat} (h : f + 100 ≤ k) : spR p f k = none := by
  rw [spR, show f + 100 - k = 0 by omega, List.take_zero, Us.slash]
def splitR : Option (List UInt8 × List UInt8) → Value
  | none => .tuple #[.string ⟨#[]⟩, .string ⟨#[]⟩, .int .i64 9]
  | some (a, b) => .tuple #[.string (bs a), .string (bs b), .int .i64 0]
set_option maxRecDepth 100000 in
set_option maxHeartbeats 2000000 in
theorem refSplit_any (p : ByteArray) (w : World) (hp : p.size ≤ 1000000000000) : Calls Tryd.prog 35 #[.string p] w fun e w' => e = .returned (splitR (Us.split (bl p))) ∧ Below w.heap.size w w' := by
  obtain ⟨U, hU⟩ : ∃ U, U = Us.split (bl p) := ⟨_, rfl⟩
  rw [← hU]
  by_cases h100 : p.size ≤ 100
  · have HV : Hid (U = some ([], bl p)) := by show _ = _; rw [hU, Us.split, if_pos (by rw [bl_length]; exact h100)]
    have d1 : decide ((p.size : Int) ≤ 100) = true := by simp; omega
    clear hU
    go_enter Tryd.func35, Tryd.ntmps35
    go_wp2_with fail
    go_ret3
    exact ⟨by rw [HV.out]; rfl, Below.refl _ _⟩
  · have d1 : decide ((p.size : Int) ≤ 100) = false := by simp; omega
    obtain ⟨f, hf⟩ : ∃ f, p.size = f + 101 := ⟨p.size - 101, by omega⟩
    have HU : Hid (U = spR (bl p) f f) := by show _ = _; rw [hU, split_spR (by rw [bl_length]; exact hf)]
    have HF := Lib.hid hf
    have hf1 : f + 101 ≤ p.size := by omega
    have hf2 : p.size ≤ f + 101 := by omega
    clear hU hf
    go_enter Tryd.func35, Tryd.ntmps35
    go_wp2_with fail
    go_loop [5] (fun i => ∃ k : Nat, k ≤ p.size ∧ i = .int .i64 (k : Int) ∧ ((k ≤ f ∧ Hid (U = spR (bl p) f f)) ∨ (f ≤ k ∧ Hid (U = spR (bl p) f k)))) (fun i => p.size - (intOf i).toNat)
    case atStart => exact ⟨0, by omega, rfl, .inl ⟨by omega, HU⟩⟩
    case round =>
      obtain ⟨k, hk, rfl, hrec⟩ := hrel
      by_cases hkp : k < p.size
      · have hb : (p[k]).toNat < 256 := (p[k]).toNat_lt
        have i1 : (0 : Int) ≤ (k : Int) := by omega
        have i2 : (k : Int) < (p.size : Int) := by omega
        have hkb : k < (bl p).length := by rw [bl_length]; exact hkp
        rcases (show k < f ∨ (f ≤ k ∧ k < f + 100) ∨ (f + 100 ≤ k ∧ k ≤ f + 100) by omega) with c | ⟨c, c2⟩ | ⟨c, c2⟩
        · have HN : Hid (U = spR (bl p) f f) := by
            rcases hrec with ⟨_, h⟩ | ⟨h1, _⟩
            · exact h
            · exact absurd h1 (by omega)
          have d2 : decide ((1 : Int) ≤ (p.size : Int) - (k : Int) - 1) = true := by simp; omega
          have d3 : decide ((p.size : Int) - (k : Int) - 1 ≤ 100) = false := by simp; omega
          have hrel2 : k + 1 ≤ f := by omega
          clear hrec
          by_cases ht : (((p[k]).toNat : Int) = 47)
          · have t1 : (((p[k]).toNat : Int) == 47) = true := by simp [ht]
            go_wp2_with fail
            go_round
            case rel => exact ⟨k + 1, by omega, by go_num, .inl ⟨hrel2, HN⟩⟩
            case measure => simp [intOf]; omega
          · have t1 : (((p[k]).toNat : Int) == 47) = false := by simp [ht]
            go_wp2_with fail
            go_round
            case rel => exact ⟨k + 1, by omega, by go_num, .inl ⟨hrel2, HN⟩⟩
            case measure => simp [intOf]; omega
        · have HK : Hid (U = spR (bl p) f k) := by
            rcases hrec with ⟨h1, h⟩ | ⟨_, h⟩
            · obtain rfl : k = f := by omega
              exact h
            · exact h
          have hst : spR (bl p) f k = if (p[k]).toNat = 47 then (if 1 ≤ k ∧ k ≤ 155 then some ((bl p).take k, (bl p).drop (k + 1)) else none) else spR (bl p) f (k + 1) := spR_step (f := f) hkb c2
          have d2 : decide ((1 : Int) ≤ (p.size : Int) - (k : Int) - 1) = true := by simp; omega
          have d3 : decide ((p.size : Int) - (k : Int) - 1 ≤ 100) = true := by simp; omega
          by_cases h47 : (p[k]).toNat = 47
          · have t1 : (((p[k]).toNat : Int) == 47) = true := by simp [h47]
            have t2 : ((p[k]).toNat : Int) = 47 := by omega
            have HV : Hid (U = if 1 ≤ k ∧ k ≤ 155 then some ((bl p).take k, (bl p).drop (k + 1)) else none) := by
              show _ = _; rw [HK.out, hst, if_pos h47]
            clear hrec hst h47
            rcases (show k < 1 ∨ (1 ≤ k ∧ 155 < k) ∨ (1 ≤ k ∧ k ≤ 155) by omega) with e1 | ⟨e1, e2⟩ | ⟨e1, e2⟩
            · have HN : Hid (U = none) := by show _ = _; rw [HV.out, if_neg (by omega)]
              have d4 : decide ((k : Int) < 1) = true := by simp; omega
              go_wp2_with fail
              go_ret3
              exact ⟨by rw [HN.out]; rfl, Below.refl _ _⟩
            · have HN : Hid (U = none) := by show _ = _; rw [HV.out, if_neg (by omega)]
              have d4 : decide ((k : Int) < 1) = false := by simp; omega
              have d5 : decide ((155 : Int) < (k : Int)) = true := by simp; omega
              go_wp2_with fail
              go_ret3
              exact ⟨by rw [HN.out]; rfl, Below.refl _ _⟩
            · have HN : Hid (U = some ((bl p).take k, (bl p).drop (k + 1))) := by show _ = _; rw [HV.out, if_pos ⟨e1, e2⟩]
              have d4 : decide ((k : Int) < 1) = false := by simp; omega
              have d5 : decide ((155 : Int) < (k : Int)) = false := by simp; omega
              have hs1 : ∀ wx, (Instr.slice 9 (.string p) none (some (.int .i64 (k : Int))) none).run Tryd.prog wx = .ok (.string (bs ((bl p).take k))) wx := by
                intro wx
                rw [run_slice_string_h (ht := Tryd.underlying9) (h0 := by omega) (h2 := by omega)]
                rw [show ((k : Int)).toNat = k by omega, ← bs_bl (p.extract 0 k), bl_extract, List.drop_zero, Nat.sub_zero]
              have hs2 : ∀ wx, (Instr.slice 9 (.string p) (some (.int .i64 ((k : Int) + 1))) none none).run Tryd.prog wx = .ok (.string (bs ((bl p).drop (k + 1)))) wx := by
                intro wx
                rw [run_slice_string_l (ht := Tryd.underlying9) (h0 := by omega) (h1 := by omega)]
                rw [show ((k : Int) + 1).toNat = k + 1 by omega, ← bs_bl (p.extract (k + 1) p.size), bl_from]
              go_wp2_with fail
              go_quiet (fail)
              go_wp2_with fail
              go_ret3
              exact ⟨by rw [HN.out]; rfl, below_drewN (Below.refl _ _) _⟩
          · have t1 : (((p[k]).toNat : Int) == 47) = false := by simp; omega
            have t2 : ¬ ((p[k]).toNat : Int) = 47 := by omega
            have HN : Hid (U = spR (bl p) f (k + 1)) := by show _ = _; rw [HK.out, hst, if_neg h47]
            clear hrec hst h47
            go_wp2_with fail
            go_round
            case rel => exact ⟨k + 1, by omega, by go_num, .inr ⟨by omega, HN⟩⟩
            case measure => simp [intOf]; omega
        · have HK : Hid (U = spR (bl p) f k) := by
            rcases hrec with ⟨h1, _⟩ | ⟨_, h⟩
            · exact absurd h1 (by omega)
            · exact h
          have HN : Hid (U = spR (bl p) f (k + 1)) := by show _ = _; rw [HK.out, spR_end (by omega), spR_end (by omega)]
          have d2 : decide ((1 : Int) ≤ (p.size : Int) - (k : Int) - 1) = false := by simp; omega
          clear hrec
          by_cases ht : (((p[k]).toNat : Int) = 47)
          · have t1 : (((p[k]).toNat : Int) == 47) = true := by simp [ht]
            go_wp2_with fail
            go_round
            case rel => exact ⟨k + 1, by omega, by go_num, .inr ⟨by omega, HN⟩⟩
            case measure => simp [intOf]; omega
          · have t1 : (((p[k]).toNat : Int) == 47) = false := by simp [ht]
            go_wp2_with fail
            go_round
            case rel => exact ⟨k + 1, by omega, by go_num, .inr ⟨by omega, HN⟩⟩
            case measure => simp [intOf]; omega
      · have HN : Hid (U = none) := by
          show _ = _
          rcases hrec with ⟨h1, _⟩ | ⟨_, h⟩
          · exact absurd h1 (by omega)
          · rw [h.out, spR_end (by omega)]
        have i2 : decide ((k : Int) < (p.size : Int)) = false := by simp; omega
        clear hrec
        go_wp2_with fail
        go_ret3
        exact ⟨by rw [HN.out]; rfl, Below.refl _ _⟩
end Go.Proofs.YtfhfahlocpmdkaaDoor
