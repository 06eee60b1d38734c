/- stratalaw05.times, walked; rows of headers. -/
import Derived.Test.YtfhfahlocpmdkaaDoorUsK
namespace Go.Proofs.YtfhfahlocpmdkaaDoor
open Go.RowKit

def reps (l : List UInt8) : Nat → List UInt8
  | 0 => []
  | n + 1 => reps l n ++ l
theorem reps_length (l : List UInt8) : ∀ n, (reps l n).length = n * l.length
  | 0 => by simp [reps]
  | n + 1 => by rw [reps, List.length_append, reps_length l n, Nat.add_mul, Nat.one_mul]
theorem times_any (s : ByteArray) (n : Nat) (w : World) (hn : n ≤ 1000) (hs : s.size ≤ 1000) : Calls Tryd.prog 51 #[.string s, .int .i64 (n : Int)] w fun e w' => e = .returned (.string (bs (reps (bl s) n))) ∧ w = w' := by
  go_enter Tryd.func51, Tryd.ntmps51
  go_wp2_with fail
  go_loopw [5, 6] (fun v i wr => ∃ (k : Nat) (o : ByteArray), k ≤ n ∧ o.size ≤ k * 1000 ∧ Hid (o = bs (reps (bl s) k)) ∧ v = .string o ∧ i = .int .i64 (k : Int) ∧ w = wr) (fun _ i _ => n - (intOf i).toNat)
  case atStart => exact ⟨0, ⟨#[]⟩, by omega, by decide, rfl, rfl, rfl, by first | rfl | trivial⟩
  case round =>
    obtain ⟨k, o, hk, hz, HO, rfl, rfl, rfl⟩ := hrel
    by_cases hkn : k < n
    · have i0 : decide ((k : Int) < (n : Int)) = true := by simp; omega
      have HA : Hid (o ++ s = bs (reps (bl s) (k + 1))) := by show _ = _; rw [HO.out, reps, ← bs_append, bs_bl]
      have hz2 : (o ++ s).size ≤ (k + 1) * 1000 := by rw [ByteArray.size_append]; omega
      go_wp2_with fail
      go_roundw
      case rel => exact ⟨k + 1, _, by omega, hz2, HA, rfl, by go_num, by first | rfl | trivial⟩
      case measure => simp [intOf]; omega
    · have i0 : decide ((k : Int) < (n : Int)) = false := by simp; omega
      obtain rfl : k = n := by omega
      go_wp2_with fail
      go_ret
      exact ⟨by first | exact HO.out | (rw [HO.out]; rfl), by first | rfl | trivial⟩
theorem times_sz (s : ByteArray) (n : Nat) (w : World) (hn : n ≤ 1000) (hs : s.size ≤ 1000) : Calls Tryd.prog 51 #[.string s, .int .i64 (n : Int)] w fun e w' => ∃ o : ByteArray, e = .returned (.string o) ∧ o.size = n * s.size ∧ w = w' :=
  (times_any s n w hn hs).mono fun _ _ h => ⟨_, h.1, by rw [bs_size, reps_length, bl_length], h.2⟩
theorem times_o (s : ByteArray) (n : Nat) (ni : Int) (hi : ni = (n : Int)) (w : World) (hn : n ≤ 1000) (hs : s.size ≤ 1000) {o : ByteArray} (h : Hid (o = bs (reps (bl s) n))) : Calls Tryd.prog 51 #[.string s, .int .i64 ni] w fun e w' => e = .returned (.string o) ∧ w' = w := by
  subst hi
  rw [h.out]
  exact (times_any s n w hn hs).mono fun _ _ h => ⟨h.1, h.2.symm⟩
theorem times_z (s : ByteArray) (n : Nat) (ni : Int) (hi : ni = (n : Int)) (w : World) (hn : n ≤ 1000) (hs : s.size ≤ 1000) : Calls Tryd.prog 51 #[.string s, .int .i64 ni] w fun e w' => ∃ l : List UInt8, e = .returned (.string (bs l)) ∧ (bs l).size = n * s.size ∧ w = w' := by
  subst hi
  exact (times_any s n w hn hs).mono fun _ _ h => ⟨_, h.1, by rw [bs_size, reps_length, bl_length], h.2⟩
/-! rows of headers -/
theorem hd_mode {w : World} {g : Nat} {h : Us.Hd} (hb : Blk w g 23 (hdC h)) (v : Int) : Blk (w.setCell ⟨g, 1, none⟩ (.int .i64 v)) g 23 (hdC { h with mode := v }) := by
  have e := hb.set_ 1 (.int .i64 v)
  simp only [hdC, List.setIfInBounds_toArray, List.set_cons_zero, List.set_cons_succ] at e ⊢
  exact e
theorem hd_path {w : World} {g : Nat} {h : Us.Hd} (hb : Blk w g 23 (hdC h)) (v : List UInt8) : Blk (w.setCell ⟨g, 0, none⟩ (.string (bs v))) g 23 (hdC { h with path := v }) := by
  have e := hb.set_ 0 (.string (bs v))
  simp only [hdC, List.setIfInBounds_toArray, List.set_cons_zero] at e ⊢
  exact e
theorem hd_link {w : World} {g : Nat} {h : Us.Hd} (hb : Blk w g 23 (hdC h)) (v : List UInt8) : Blk (w.setCell ⟨g, 7, none⟩ (.string (bs v))) g 23 (hdC { h with link := v }) := by
  have e := hb.set_ 7 (.string (bs v))
  simp only [hdC, List.setIfInBounds_toArray, List.set_cons_zero, List.set_cons_succ] at e ⊢
  exact e
theorem hd_user {w : World} {g : Nat} {h : Us.Hd} (hb : Blk w g 23 (hdC h)) (v : List UInt8) : Blk (w.setCell ⟨g, 8, none⟩ (.string (bs v))) g 23 (hdC { h with user := v }) := by
  have e := hb.set_ 8 (.string (bs v))
  simp only [hdC, List.setIfInBounds_toArray, List.set_cons_zero, List.set_cons_succ] at e ⊢
  exact e
theorem hd_time {w : World} {g : Nat} {h : Us.Hd} (hb : Blk w g 23 (hdC h)) (v : Int) : Blk (w.setCell ⟨g, 5, none⟩ (.int .i64 v)) g 23 (hdC { h with time := v }) := by
  have e := hb.set_ 5 (.int .i64 v)
  simp only [hdC, List.setIfInBounds_toArray, List.set_cons_zero, List.set_cons_succ] at e ⊢
  exact e

def hdsC (L : List Us.Hd) : Array Value := ((L.map fun h => (hdC h).toList).flatten).toArray
theorem flat_at : ∀ (L : List (List Value)), (∀ l ∈ L, l.length = 12) → ∀ (j : Nat) (hj : j < L.length) (c : Nat), c < 12 → L.flatten[j * 12 + c]? = (L[j])[c]?
  | [], _, j, hj, _, _ => by simp at hj
  | l :: L, hL, 0, hj, c, hc => by
    have := hL l (List.mem_cons_self ..)
    rw [List.flatten_cons, List.getElem?_append_left (by omega)]
    simp
  | l :: L, hL, j + 1, hj, c, hc => by
    have hl := hL l (List.mem_cons_self ..)
    rw [List.flatten_cons, List.getElem?_append_right (by omega), show (j + 1) * 12 + c - l.length = j * 12 + c by omega]
    exact flat_at L (fun x hx => hL x (List.mem_cons_of_mem _ hx)) j (by simpa using hj) c hc
structure HAt (w : World) (g o : Nat) (h : Us.Hd) : Prop where
  c0 : w.cell? ⟨g, o, none⟩ = some (.string (bs h.path))
  c1 : w.cell? ⟨g, o + 1, none⟩ = some (.int .i64 h.mode)
  c2 : w.cell? ⟨g, o + 2, none⟩ = some (.int .i64 h.uid)
  c3 : w.cell? ⟨g, o + 3, none⟩ = some (.int .i64 h.gid)
  c4 : w.cell? ⟨g, o + 4, none⟩ = some (.int .i64 h.size)
  c5 : w.cell? ⟨g, o + 5, none⟩ = some (.int .i64 h.time)
  c6 : w.cell? ⟨g, o + 6, none⟩ = some (.int .u8 (h.type.toNat : Int))
  c7 : w.cell? ⟨g, o + 7, none⟩ = some (.string (bs h.link))
  c8 : w.cell? ⟨g, o + 8, none⟩ = some (.string (bs h.user))
  c9 : w.cell? ⟨g, o + 9, none⟩ = some (.string (bs h.group))
  c10 : w.cell? ⟨g, o + 10, none⟩ = some (.int .i64 h.major)
  c11 : w.cell? ⟨g, o + 11, none⟩ = some (.int .i64 h.minor)
theorem hds_at {w : World} {g : Nat} {L : List Us.Hd} (hb : Blk w g 23 (hdsC L)) {j : Nat} (hj : j < L.length) : HAt w g (j * 12) L[j] := by
  have key : ∀ c, c < 12 → w.cell? ⟨g, j * 12 + c, none⟩ = (hdC L[j])[c]? := by
    intro c hc
    rw [hb.cell (j * 12 + c), hdsC, List.getElem?_toArray, flat_at _ (by simp only [List.mem_map]; rintro _ ⟨h, _, rfl⟩; rfl) j (by simpa using hj) c hc, List.getElem_map, Array.getElem?_toList]
  exact ⟨key 0 (by omega), key 1 (by omega), key 2 (by omega), key 3 (by omega), key 4 (by omega), key 5 (by omega), key 6 (by omega), key 7 (by omega), key 8 (by omega), key 9 (by omega), key 10 (by omega), key 11 (by omega)⟩
end Go.Proofs.YtfhfahlocpmdkaaDoor
