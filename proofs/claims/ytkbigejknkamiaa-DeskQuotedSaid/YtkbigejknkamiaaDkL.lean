/- DeskQuoted, walked: whatever the words, true. -/
import Derived.Test.YtkbigejknkamiaaDkV
import Derived.Test.YtkbigejknkamiaaDkW
import Derived.Test.YtkbigejknkamiaaDkS
namespace Go.Proofs.Ytkbigejknkamiaa
open Go.RowKit

theorem words_some (s : ByteArray) (w : World) (hs : s.size ≤ 1000000000000) {l : List (List UInt8)} (h : Hid (Dk.words (bl s) = some l)) :
    Calls Try.prog 4 #[.string s] w fun e w' => ∃ A c, e = .returned (.tuple #[.slice A l.length c, .nilIface]) ∧ Reads w' w'.heap.size A l.length (sc l) ∧ Below w.heap.size w w' := by
  have := words_any s w hs
  rw [h.out] at this
  refine this.mono fun e w' ⟨⟨v, he, hown⟩, hb⟩ => ?_
  obtain ⟨A, c, rfl⟩ := own_form hown
  exact ⟨A, c, he, Reads.of_own hown, hb⟩
theorem reads_lit (w : World) (cs : List Value) (e : TypeId) : Reads (w.alloc (.cells cs.toArray e)) (w.heap.size + 1) (some ⟨w.heap.size, 0, none⟩) cs.length cs :=
  ⟨rfl, fun _ => ⟨w.heap.size, 0, rfl, by omega, fun j u hu => by have := news_alloc w cs e j u hu; rwa [Addr.add_lit] at this⟩⟩
/-- what the line holds behind so many words. -/
def lineOf (p : Nat) (ws : List (List UInt8)) (j : Nat) : List UInt8 := (ws.take j).flatMap (Dk.piece p)
theorem piece_length (p : Nat) (x : List UInt8) : (Dk.piece p x).length ≤ p + 3 + 4 * x.length := by
  have := quos_length x
  simp only [Dk.piece, Dk.quote, List.length_cons, List.length_append, List.length_replicate, List.length_nil]
  omega
theorem wsum_cons (x : List UInt8) (l : List (List UInt8)) : wsum (x :: l) = 1 + min x.length 4194304 + wsum l := by simp [wsum]
theorem pieces_length (p : Nat) (ws : List (List UInt8)) (h : wsum ws < 4194304) (hp : p ≤ 2) : (ws.flatMap (Dk.piece p)).length ≤ 5 * wsum ws := by
  induction ws with
  | nil => simp
  | cons x l ih =>
    rw [wsum_cons] at h ⊢
    rw [List.flatMap_cons, List.length_append]
    have h1 := piece_length p x
    have h2 := ih (by omega)
    omega
theorem wsum_take_le (ws : List (List UInt8)) (j : Nat) : wsum (ws.take j) ≤ wsum ws := by
  induction ws generalizing j with
  | nil => simp
  | cons x l ih =>
    cases j with
    | zero => simp [wsum]
    | succ j => rw [List.take_succ_cons, wsum_cons, wsum_cons]; have := ih j; omega
theorem wsum_len (ws : List (List UInt8)) : ws.length ≤ wsum ws := by
  induction ws with
  | nil => simp
  | cons x l ih => rw [wsum_cons, List.length_cons]; omega
theorem wsum_mem (ws : List (List UInt8)) (h : wsum ws < 4194304) : ∀ x ∈ ws, x.length < 4194304 := by
  induction ws with
  | nil => intro x hx; cases hx
  | cons y l ih =>
    rw [wsum_cons] at h
    intro x hx
    rcases List.mem_cons.1 hx with rfl | hx
    · omega
    · exact ih (by omega) x hx
theorem lineOf_length (p : Nat) (ws : List (List UInt8)) (h : wsum ws < 4194304) (hp : p ≤ 2) (j : Nat) : (lineOf p ws j).length ≤ 30000000 := by
  have h1 := wsum_take_le ws j
  have h2 := pieces_length p (ws.take j) (by omega) hp
  unfold lineOf
  omega
theorem lineOf_succ (p : Nat) (ws : List (List UInt8)) (j : Nat) (h : j < ws.length) : lineOf p ws (j + 1) = lineOf p ws j ++ 32 :: (List.replicate p 9) ++ Dk.quote ws[j] := by
  unfold lineOf
  rw [List.take_succ_eq_append_getElem h, List.flatMap_append]
  simp [Dk.piece]
theorem ret_true (b : Bool) (h : b = true) : Ending.returned (.bool b) = .returned (.bool true) := by rw [h]

set_option maxRecDepth 100000 in
set_option maxHeartbeats 4000000 in
theorem law_walk (A0 : Option Addr) (n c0 : Nat) (ws : List (List UInt8)) (bk : Int) (w : World) (hr : Reads w w.heap.size A0 n (sc ws)) (hn : n ≤ 9223372036854775807) (hsl : ∀ x ∈ ws, x.length ≤ 9223372036854775807)
    (hk1 : -9223372036854775808 ≤ bk) (hk2 : bk ≤ 9223372036854775807) :
    Calls Try.prog 3 #[.slice A0 n c0, .int .i64 bk] w fun e w' => e = .returned (.bool true) ∧ Below w.heap.size w w' := by
  have hlen : ws.length ≤ n ∧ n ≤ ws.length := by have := hr.1; rw [sc_length] at this; omega
  have HW1 : Hid (Dk.words (bl ⟨#[97, 32, 34, 34, 9, 98, 35, 99]⟩) = some [[97], [], [98, 35, 99]]) := Dk.words_one
  have HSL := Lib.hid hsl
  clear hsl
  go_enter Try.func3, Try.ntmps3
  go_wp2_with fail
  refine (words_some _ _ (by decide) HW1).mono ?_
  rintro e w1 ⟨A1, c1, rfl, hr1, hb1⟩
  go_wp2_with fail
  have hs1 := hb1.size
  have hrA := (hr1.below ((Below.refl _ _).alloc (Nat.le_refl _) (.cells (sc [[97], [], [98, 35, 99]]).toArray 9))).more (Nat.le_succ _)
  have hrB := reads_lit w1 (sc [[97], [], [98, 35, 99]]) 9
  refine (sameTexts_any _ _ _ _ _ _ _ _ _ _ hrA hrB (by decide)).mono ?_
  rintro e w2 ⟨rfl, q, rfl⟩
  clear hrA hrB
  have hb2 := below_drewN (hb1.alloc hs1 (.cells (sc [[97], [], [98, 35, 99]]).toArray 9)) q
  obtain ⟨w2, hw2⟩ : ∃ w2, w2 = (w1.alloc (.cells (sc [[97], [], [98, 35, 99]]).toArray 9)).drewN q := ⟨_, rfl⟩
  have hbt : ((([[97], [], [98, 35, 99]] : List (List UInt8)) == [[97], [], [98, 35, 99]])) = true := by decide
  rw [← hw2] at hb2
  rw [hbt]
  change (_ : Act → World → Prop) _ ((w1.alloc (.cells (sc [[97], [], [98, 35, 99]]).toArray 9)).drewN q)
  rw [← hw2]
  clear hw2 hbt
  go_wp2_with fail
  refine (wide_any _ ws _ _ _ _ (hr.below hb2) hn HSL.out).mono ?_
  rintro e w3 ⟨⟨b, rfl, hwide⟩, rfl⟩
  have HWI := Lib.hid hwide
  clear hwide hb1 hr1 hs1
  have hs2 := hb2.size
  cases b with
  | true =>
    go_wp2_with fail
    go_ret
    exact ⟨rfl, hb2⟩
  | false =>
    have hws : wsum ws < 4194304 := HWI.out rfl
    have hwl := wsum_len ws
    have hpr := pick_range bk 3 (by omega)
    obtain ⟨p, hp⟩ : ∃ p : Nat, pick bk 3 = (p : Int) := ⟨(pick bk 3).toNat, by omega⟩
    have hp2 : p ≤ 2 := by omega
    have HP := Lib.hid hp
    clear hp hpr
    go_wp2_with fail
    go_loopw [7, 8] (fun x i wr => ∃ j : Nat, j ≤ n ∧ i = .int .i64 j ∧ x = .string (bs (lineOf p ws j)) ∧ Below w.heap.size w wr) (fun _ i _ => n - (intOf i).toNat)
    case atStart => exact ⟨0, by omega, rfl, rfl, hb2⟩
    case round =>
      obtain ⟨j, hj, rfl, rfl, hbel⟩ := hrel
      have hsz := hbel.size
      have hll := lineOf_length p ws hws hp2 j
      have hbsz : (bs (lineOf p ws j)).size ≤ 30000000 := by rw [bs_size]; exact hll
      by_cases hjn : j < n
      · obtain ⟨b, off, u, rfl, hbB, hu, hcell⟩ := (hr.below hbel).at_ hjn
        rw [sc_get ws j (by omega)] at hu
        obtain rfl := Option.some.inj hu
        clear hu
        have hi1 : (0 : Int) ≤ (j : Int) := by omega
        have hi2 : (j : Int) < (n : Int) := by omega
        have hwj := wsum_mem ws hws ws[j] (List.getElem_mem _)
        have hqs : (bs ws[j]).size ≤ 1000000000000 := by rw [bs_size]; omega
        have hql : (Dk.quote ws[j]).length ≤ 30000000 := by
          have := quos_length ws[j]
          simp only [Dk.quote, List.length_cons, List.length_append, List.length_nil]
          omega
        have HLS := Lib.hid (lineOf_succ p ws j (by omega))
        obtain ⟨X, hX⟩ : ∃ X, X = lineOf p ws j := ⟨_, rfl⟩
        rw [← hX] at hbsz hll
        rw [← hX]
        have HX := Lib.hid hX
        clear hX
        obtain ⟨wo, hwo⟩ : ∃ wo, wr = wo := ⟨_, rfl⟩
        subst hwo
        go_wp2_with fail
        go_loop [7, 9] (fun x i => ∃ q : Nat, q ≤ p ∧ i = .int .i64 q ∧ x = .string (bs (X ++ 32 :: List.replicate q 9))) (fun _ i => p - (intOf i).toNat)
        case atStart => exact ⟨0, by omega, rfl, by rw [← bs_append]; rfl⟩
        case round =>
          obtain ⟨q, hq, rfl, rfl⟩ := hrel
          have hb9 : (bs (X ++ 32 :: List.replicate q 9)).size ≤ 40000000 := by rw [bs_size]; simp; omega
          by_cases hqp : q < p
          · go_wp2_with (go_at_call 7; refine (pick_any bk 3 (by omega) (by omega) hk1 hk2 _).mono ?_; rw [HP.out]; rintro e w' ⟨rfl, rfl⟩)
            go_round
            case rel => exact ⟨q + 1, by omega, by go_num, by rw [List.replicate_succ', ← List.cons_append, ← List.append_assoc, ← bs_append]; rfl⟩
            case measure => simp [intOf]; omega
          · obtain rfl : q = p := by omega
            go_wp2_with (first | (go_at_call 7; refine (pick_any bk 3 (by omega) (by omega) hk1 hk2 _).mono ?_; rw [HP.out]; rintro e w' ⟨rfl, rfl⟩) | (go_at_call 8; refine (quote_any _ _ hqs).mono ?_; rintro e w4 ⟨rfl, hb4⟩; have hb5 := below_of_below hbel hb4 hsz; have hq2 : (bs (Dk.quote (bl (bs ws[j])))).size ≤ 30000000 := (by rw [bs_size, bl_bs]; exact hql)))
            go_roundw
            case rel => exact ⟨j + 1, by omega, by go_num, by rw [HLS.out, ← HX.out, bl_bs, bs_append], hb5⟩
            case measure => simp [intOf]; omega
      · obtain rfl : j = n := by omega
        have hlo : lineOf p ws j = ws.flatMap (Dk.piece p) := by unfold lineOf; rw [List.take_of_length_le (by omega)]
        have HW2 : Hid (Dk.words (bl (bs (lineOf p ws j))) = some ws) := by
          show _ = _
          rw [bl_bs, hlo, Dk.words_pieces]
        clear hlo
        go_wp2_with fail
        refine (words_some _ _ (by omega) HW2).mono ?_
        rintro e w4 ⟨A4, c4, rfl, hr4, hb4⟩
        have hb5 := below_of_below hbel hb4 hsz
        go_wp2_with fail
        refine (sameTexts_any _ _ ws ws _ _ _ _ w4.heap.size _ hr4 ((hr.below hb5).more hb5.size) (by omega)).mono ?_
        rintro e w5 ⟨rfl, q, rfl⟩
        have hbt : (ws == ws) = true := by simp
        rw [hbt]
        clear hbt
        go_wp2_with fail
        go_ret
        exact ⟨rfl, below_drewN hb5 q⟩
end Go.Proofs.Ytkbigejknkamiaa
