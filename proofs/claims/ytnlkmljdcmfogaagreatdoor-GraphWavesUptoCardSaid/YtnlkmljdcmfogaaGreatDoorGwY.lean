/- Have these waves memory of their own? -/
import Derived.Test.YtnlkmljdcmfogaaGreatDoorGwP0
namespace Go.Proofs.YtnlkmljdcmfogaaGreatDoor
open Go Go.RowKit
theorem WvP.low {w : World} {b b' : Nat} {vs : List Value} {ls : List (List Int)} (h : WvP w b vs ls) (hb : b' ≤ b) : WvP w b' vs ls := h.lo hb
theorem WvP.own_at {w : World} {base : Nat} {vs : List Value} {ls : List (List Int)} (h : WvP w base vs ls) {V : Value} (hV : V ∈ vs) {b : Nat} (hb : V.ownBlock = some b) : base ≤ b ∧ b < w.heap.size := h.lt hV hb
theorem WvP.app {w : World} {base : Nat} {vs us : List Value} {ls ks : List (List Int)} (h : WvP w base vs ls) (k : WvP w base us ks) (hd : ∀ V ∈ vs, ∀ U ∈ us, ∀ b, V.ownBlock = some b → U.ownBlock = some b → False) : WvP w base (vs ++ us) (ls ++ ks) := by
  have hl := h.1
  refine ⟨by rw [List.length_append, List.length_append, h.1, k.1], fun j V l hV hl2 => ?_, fun i j V U b hV hU h1 h2 => ?_⟩
  · rcases Nat.lt_or_ge j vs.length with hj | hj
    · rw [List.getElem?_append_left hj] at hV
      rw [List.getElem?_append_left (by omega)] at hl2
      exact h.2.1 j V l hV hl2
    · rw [List.getElem?_append_right hj] at hV
      rw [List.getElem?_append_right (by omega), ← hl] at hl2
      exact k.2.1 _ V l hV hl2
  · rcases Nat.lt_or_ge i vs.length with hi | hi
    · rw [List.getElem?_append_left hi] at hV
      rcases Nat.lt_or_ge j vs.length with hj | hj
      · rw [List.getElem?_append_left hj] at hU
        exact h.2.2 i j V U b hV hU h1 h2
      · rw [List.getElem?_append_right hj] at hU
        exact absurd (hd V (List.mem_of_getElem? hV) U (List.mem_of_getElem? hU) b h1 h2) id
    · rw [List.getElem?_append_right hi] at hV
      rcases Nat.lt_or_ge j vs.length with hj | hj
      · rw [List.getElem?_append_left hj] at hU
        exact absurd (hd U (List.mem_of_getElem? hU) V (List.mem_of_getElem? hV) b h2 h1) id
      · rw [List.getElem?_append_right hj] at hU
        have := k.2.2 _ _ V U b hV hU h1 h2
        omega
open Classical in
theorem apartW_any (vs : List Value) (W : List (List Int)) (base bls c : Nat) (cls : Array Value) (w : World) (hw : WvP w base vs W) (hls : w.heap[bls]? = some (.cells cls 29 (0, 0))) (hcl : ∀ (j : Nat) (u : Value), vs[j]? = some u → cls[j]? = some u) (hm : vs.length ≤ 100000) (hc : vs.length ≤ c) (hl : ∀ l ∈ W, l.length ≤ 1000000) (hb : base ≤ w.heap.size) :
    Calls Tryz.prog 22 #[.slice (some ⟨bls, 0, none⟩) vs.length c] w fun e w' => e = .returned (.bool true) ∧ Fx (fun b => ∃ V ∈ vs, V.ownBlock = some b) w w' := by
  have hv : ∀ j, j < vs.length → vs[j]? = some (vs.getD j undef) := fun j h => by simp [h]
  have hWl : ∀ j, j < vs.length → W[j]? = some (W.getD j []) := fun j h => by have := hw.1; simp [show j < W.length by omega]
  refine (apartI_any base vs.length c bls 0 cls (fun j => vs.getD j undef) (fun j => (W.getD j []).length) (fun j => icC (W.getD j [])) (fun b => if h : ∃ j, j < vs.length ∧ (vs.getD j undef).ownBlock = some b then h.choose else 0) w (fun j hj => ⟨hw.2.1 j _ _ (hv j hj) (hWl j hj), fun b hb2 => ?_⟩) hls (fun j hj => by rw [Nat.zero_add]; exact hcl j _ (hv j hj)) hm hc (fun j hj => hl _ (List.mem_of_getElem? (hWl j hj))) hb).mono ?_
  · have hx : ∃ j, j < vs.length ∧ (vs.getD j undef).ownBlock = some b := ⟨j, hj, hb2⟩
    show (if h : ∃ j, j < vs.length ∧ (vs.getD j undef).ownBlock = some b then h.choose else 0) = j
    rw [dif_pos hx]
    exact hw.2.2 _ _ _ _ b (hv _ hx.choose_spec.1) (hv j hj) hx.choose_spec.2 hb2
  · rintro e w' ⟨rfl, h⟩
    exact ⟨rfl, h.os, h.tape, h.output, h.size, fun b hb2 hn => h.block b hb2 fun j hj he => hn ⟨_, List.mem_of_getElem? (hv j hj), he⟩⟩
set_option maxRecDepth 100000 in
set_option maxHeartbeats 1000000 in
theorem apartI_nil (w : World) : Calls Tryz.prog 22 #[.slice none 0 0] w fun e w' => e = .returned (.bool true) ∧ w' = w := by
  go_enter Tryz.func22, Tryz.ntmps22
  go_wp2_with fail
  go_loopw [3] (fun t3 wr => t3 = .int .i64 0 ∧ wr = w) (fun _ _ => 0)
  case atStart => exact ⟨by first | rfl | trivial, by first | rfl | trivial⟩
  case round =>
    obtain ⟨rfl, rfl⟩ := hrel
    go_wp2_with fail
    go_loopw [5, 6] (fun t5 t6 wx => t5 = .slice none 0 0 ∧ t6 = .int .i64 0 ∧ wx = wr) (fun _ _ _ => 0)
    case atStart => exact ⟨by first | rfl | trivial, by first | rfl | trivial, by first | rfl | trivial⟩
    case round =>
      obtain ⟨rfl, rfl, rfl⟩ := hrel
      go_wp2_with fail
      go_loopw [9] (fun t9 wy => t9 = .int .i64 0 ∧ wy = wr) (fun _ _ => 0)
      case atStart => exact ⟨by first | rfl | trivial, by first | rfl | trivial⟩
      case round =>
        obtain ⟨rfl, rfl⟩ := hrel
        go_wp2_with fail
        go_ret
        exact ⟨rfl, rfl⟩
end Go.Proofs.YtnlkmljdcmfogaaGreatDoor
