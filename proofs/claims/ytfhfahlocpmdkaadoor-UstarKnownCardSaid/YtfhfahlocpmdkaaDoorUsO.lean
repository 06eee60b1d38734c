/- strataref05.Decode, walked: it answers what Us.dec tells. -/
import Derived.Test.YtfhfahlocpmdkaaDoorUsI
import Derived.Test.YtfhfahlocpmdkaaDoorUsR
import Derived.Test.YtfhfahlocpmdkaaDoorUsT
import Derived.Test.YtfhfahlocpmdkaaDoorUsN
import Derived.Deep.RegionHeld3
import Derived.Deep.DrawnRows
import Derived.Deep.DeepCutAuto
namespace Go.Proofs.YtfhfahlocpmdkaaDoor
open Go.RowKit
attribute [local go_sem ↓] Go.wp_at_zero Go.wp_at_succ

/-- the text of a field. -/
def xt (s : ByteArray) (a b : Nat) : List UInt8 := Us.text (Us.cut (bl s) a b)
theorem xt_size (s : ByteArray) (a b : Nat) : (bs (xt s a b)).size ≤ b - a := by
  rw [xt, bs_size]
  have h1 := (List.takeWhile_sublist (fun c : UInt8 => c.toNat != 0) (l := Us.cut (bl s) a b)).length_le
  have h2 : (Us.cut (bl s) a b).length ≤ b - a := by rw [Us.cut, List.length_take]; omega
  exact Nat.le_trans h1 h2
theorem refText_x (s : ByteArray) (a b : Nat) (w : World) (hs : s.size ≤ 1000000000) : Calls Tryd.prog 47 #[.string (s.extract a b)] w fun e w' => e = .returned (.string (bs (xt s a b))) ∧ w = w' := by
  have := refText_any (s.extract a b) w (by rw [ByteArray.size_extract]; omega)
  rwa [bl_extract] at this
theorem refNumber_hid (s : ByteArray) (a b : Nat) (w : World) (hab : b ≤ a + 12) {U : Option Nat} (h : Hid (Us.value (Us.cut (bl s) a b) = U)) : Calls Tryd.prog 46 #[.string (s.extract a b)] w fun e w' => e = .returned (numR U) ∧ w = w' := by
  have := refNumber_any (s.extract a b) w (by rw [ByteArray.size_extract]; omega)
  rw [bl_extract] at this
  rwa [← h.out]
theorem refSum_hid (s : ByteArray) (w : World) (hs : s.size ≤ 1000000000) {i : Int} (h : Hid (i = (Us.sumFrom 0 (bl s) : Nat))) : Calls Tryd.prog 39 #[.string s] w fun e w' => e = .returned (.int .i64 i) ∧ w = w' := by
  have := refSum_any s w (by omega)
  rwa [← h.out] at this
theorem int64SliceR : ElemT Tryd.prog 75 2 (.int .i64 0) 8 := ⟨Tryd.underlying75, by kernel_rfl, rfl⟩
def ic (l : List Nat) : List Value := l.map fun (x : Nat) => Value.int .i64 (x : Int)
theorem ic_append (a b : List Nat) : ic (a ++ b) = ic a ++ ic b := by simp [ic]
def fromL : List Int := [100, 108, 116, 124, 136, 148, 329, 337]
def toL : List Int := [108, 116, 124, 136, 148, 156, 337, 345]
theorem froms_at {k : Nat} (hk : k < 8) : ∃ a b : Nat, fromL[k]? = some (a : Int) ∧ toL[k]? = some (b : Int) ∧ Us.froms.drop k = (a, b) :: Us.froms.drop (k + 1) ∧ a ≤ b ∧ b ≤ 512 ∧ b ≤ a + 12 := by
  rcases (show k = 0 ∨ k = 1 ∨ k = 2 ∨ k = 3 ∨ k = 4 ∨ k = 5 ∨ k = 6 ∨ k = 7 by omega) with rfl | rfl | rfl | rfl | rfl | rfl | rfl | rfl
  · exact ⟨100, 108, rfl, rfl, rfl, by decide, by decide, by decide⟩
  · exact ⟨108, 116, rfl, rfl, rfl, by decide, by decide, by decide⟩
  · exact ⟨116, 124, rfl, rfl, rfl, by decide, by decide, by decide⟩
  · exact ⟨124, 136, rfl, rfl, rfl, by decide, by decide, by decide⟩
  · exact ⟨136, 148, rfl, rfl, rfl, by decide, by decide, by decide⟩
  · exact ⟨148, 156, rfl, rfl, rfl, by decide, by decide, by decide⟩
  · exact ⟨329, 337, rfl, rfl, rfl, by decide, by decide, by decide⟩
  · exact ⟨337, 345, rfl, rfl, rfl, by decide, by decide, by decide⟩
/-- the result's block, and the two tables. -/
structure RS (w0 w : World) (g : Nat) : Prop where
  res : Blk w g 23 (hdC Us.hd0)
  hF : ∀ (k : Nat) (i : Int), fromL[k]? = some i → w.cell? ⟨g + 1, k, none⟩ = some (.int .i64 i)
  hT : ∀ (k : Nat) (i : Int), toL[k]? = some i → w.cell? ⟨g + 1 + 1, k, none⟩ = some (.int .i64 i)
  below : Below g w0 w
  size : g + 3 ≤ w.heap.size
theorem RS.keep {w0 w w' : World} {g : Nat} (h : RS w0 w g) (hb : Below (g + 3) w w') : RS w0 w' g :=
  ⟨h.res.below hb (by omega), fun k i hi => (hb.cell (p := ⟨g + 1, k, none⟩) (by show g + 1 < g + 3; omega)).trans (h.hF k i hi), fun k i hi => (hb.cell (p := ⟨g + 1 + 1, k, none⟩) (by show g + 1 + 1 < g + 3; omega)).trans (h.hT k i hi), h.below.trans (hb.mono (by omega)), by have := hb.size; have := h.size; omega⟩
theorem tab_at {w : World} {g : Nat} {l : List Int} {e : TypeId} (h : Blk w g e (l.map (Value.int .i64)).toArray) : ∀ (k : Nat) (i : Int), l[k]? = some i → w.cell? ⟨g, k, none⟩ = some (.int .i64 i) := by
  intro k i hi
  rw [h.cell]
  simp [hi]
theorem RS.start (w : World) : RS w (((w.alloc (.cells (hdC Us.hd0) 23)).alloc (.cells (fromL.map (Value.int .i64)).toArray 3)).alloc (.cells (toL.map (Value.int .i64)).toArray 3)) w.heap.size := by
  have b1 := Blk.new w 23 (hdC Us.hd0)
  have b2 := Blk.new (w.alloc (.cells (hdC Us.hd0) 23)) 3 (fromL.map (Value.int .i64)).toArray
  have b3 := Blk.new ((w.alloc (.cells (hdC Us.hd0) 23)).alloc (.cells (fromL.map (Value.int .i64)).toArray 3)) 3 (toL.map (Value.int .i64)).toArray
  have z1 : (w.alloc (.cells (hdC Us.hd0) 23)).heap.size = w.heap.size + 1 := by simp
  have z2 : ((w.alloc (.cells (hdC Us.hd0) 23)).alloc (.cells (fromL.map (Value.int .i64)).toArray 3)).heap.size = w.heap.size + 1 + 1 := by simp
  rw [z1] at b2
  rw [z2] at b3
  exact ⟨(b1.alloc _).alloc _, tab_at (b2.alloc _), tab_at b3, (((Below.refl _ _).alloc (Nat.le_refl _) _).alloc (by omega) _).alloc (by omega) _, by simp⟩
/-- a cut of a text, its bounds written out. -/
theorem slice_lit (s : ByteArray) (a b : Nat) (ai bi : Int) (ha : ai = (a : Int)) (hb : bi = (b : Int)) (hab : a ≤ b) (hbs : b ≤ s.size) : ∀ wx, (Instr.slice 9 (.string s) (some (.int .i64 ai)) (some (.int .i64 bi)) none).run Tryd.prog wx = .ok (.string (s.extract a b)) wx := by
  subst ha hb
  intro wx
  rw [run_slice_string _ _ _ _ _ _ _ Tryd.underlying9 (by omega) (by omega) (by omega)]
  simp
theorem toList_bl (s : ByteArray) : s.toList = bl s := by rw [ByteArray.toList_eq]; rfl
theorem xt_isEmpty (s : ByteArray) (a b : Nat) : (bs (xt s a b)).toList.isEmpty = decide (xt s a b = []) := by
  rw [toList_bl, bl_bs]
  cases xt s a b <;> rfl
theorem own_cell {w : World} {base g n : Nat} {e : TypeId} {c : Nat} {xs : List Value} (h : w.ownsRow base e 1 (.slice (some ⟨g, 0, none⟩) n c) n xs) (j : Nat) (u : Value) (hu : xs[j]? = some u) : w.cell? ⟨g, j, none⟩ = some u := by
  have := h.cells (g := g) rfl j u hu
  rwa [Addr.add_lit, Nat.zero_add] at this
theorem own_some {w : World} {base n : Nat} {e : TypeId} {v : Value} {xs : List Value} (h : w.ownsRow base e 1 v n xs) (hn : 0 < n) : ∃ g c, v = .slice (some ⟨g, 0, none⟩) n c ∧ n ≤ c ∧ base ≤ g := by
  rcases h.2 with ⟨rfl, h0⟩ | ⟨g, cap, cur, rfl, hb, hg, hn2, hc, hs, htk⟩
  · have := h.1
    subst h0
    simp at this
    omega
  · exact ⟨g, cap, rfl, by omega, by omega⟩
theorem hd_ok (s : ByteArray) (pl : List UInt8) (x0 x1 x2 x3 x4 x5 x6 x7 : Nat) (hP : pl = Us.pathOf (bl s)) (h : 156 < s.size) :
    (⟨pl, x0, x1, x2, x3, x4, s[156], xt s 157 257, xt s 265 297, xt s 297 329, x6, x7⟩ : Us.Hd) = Us.hdOf (bl s) [x0, x1, x2, x3, x4, x5, x6, x7] := by
  have e : (bl s).getD 156 0 = s[156] := by
    rw [List.getD_eq_getElem?_getD, List.getElem?_eq_getElem (by rw [bl_length]; exact h)]; rfl
  rw [Us.hdOf, hP, e]
  rfl
theorem path_one (s : ByteArray) (h : xt s 345 500 = []) : xt s 0 100 = Us.pathOf (bl s) := by
  unfold xt at h ⊢
  rw [Us.pathOf, if_pos h]
theorem path_two (s : ByteArray) (h : ¬ xt s 345 500 = []) : bs (xt s 345 500) ++ ⟨#[47]⟩ ++ bs (xt s 0 100) = bs (Us.pathOf (bl s)) := by
  unfold xt at h ⊢
  rw [Us.pathOf, if_neg h]
  have z : (⟨#[47]⟩ : ByteArray) = bs [47] := rfl
  rw [z, bs_append, bs_append, List.append_assoc]
  rfl
/-- what is left of the fields, behind k of them. -/
def vrest (s : List UInt8) (k : Nat) (acc : List Nat) : Option (List Nat) := (Us.values s (Us.froms.drop k)).map fun l => acc ++ l
theorem vrest_none {s : List UInt8} {k a b : Nat} {acc : List Nat} (h : Us.froms.drop k = (a, b) :: Us.froms.drop (k + 1)) (hv : Us.value (Us.cut s a b) = none) : vrest s k acc = none := by
  rw [vrest, h, Us.values, hv]; rfl
theorem vrest_some {s : List UInt8} {k a b v : Nat} {acc : List Nat} (h : Us.froms.drop k = (a, b) :: Us.froms.drop (k + 1)) (hv : Us.value (Us.cut s a b) = some v) : vrest s k acc = vrest s (k + 1) (acc ++ [v]) := by
  rw [vrest, vrest, h, Us.values, hv]
  cases Us.values s (Us.froms.drop (k + 1)) <;> simp
theorem vrest_end {s : List UInt8} {acc : List Nat} : vrest s 8 acc = some acc := by
  rw [vrest]; simp [Us.froms, Us.values]
/-- what is answered, the numbers known. -/
def decOf (s : List UInt8) : Option (List Nat) → Nat × Us.Hd
  | none => (6, Us.hd0)
  | some x => if x.getD 5 0 = Us.sumFrom 0 s then (0, Us.hdOf s x) else (7, Us.hd0)
theorem dec_of {s : List UInt8} (h1 : ¬ s.length < 512) (h2 : ¬ 512 < s.length) (h3 : Us.cut s 257 265 = Us.magic) : Us.dec s = decOf s (vrest s 0 []) := by
  rw [Us.dec, if_neg h1, if_neg h2, if_pos h3, vrest, List.drop_zero]
  cases Us.values s Us.froms <;> rfl

set_option maxRecDepth 100000 in
set_option maxHeartbeats 4000000 in
theorem refDecode_any (s : ByteArray) (w : World) (hs : s.size ≤ 1000000000) :
    Calls Tryd.prog 17 #[.string s] w fun e w' => e = .returned (.tuple #[.agg (hdC (Us.dec (bl s)).2), .int .i64 ((Us.dec (bl s)).1 : Nat)]) ∧ Below w.heap.size w w' := by
  obtain ⟨R, hR⟩ : ∃ R, R = Us.dec (bl s) := ⟨_, rfl⟩
  rw [← hR]
  have HR := Lib.hid hR
  clear hR
  by_cases h1 : s.size < 512
  · have HN : Hid (R = (2, Us.hd0)) := by show _ = _; rw [HR.out, Us.dec, if_pos (by rw [bl_length]; exact h1)]
    have d1 : decide ((s.size : Int) < 512) = true := by simp; omega
    clear HR
    go_enter Tryd.func17, Tryd.ntmps17
    go_wp2_with fail
    refine bodyPost_ret (v := .tuple #[.agg (hdC Us.hd0), .int .i64 2]) (by simp [results, Tryd.results17, go_sem, hdC, Us.hd0]; rfl) rfl ?_
    exact ⟨by rw [HN.out]; rfl, ((Below.refl _ _).alloc (Nat.le_refl _) _)⟩
  · have d1 : decide ((s.size : Int) < 512) = false := by simp; omega
    by_cases h2 : 512 < s.size
    · have HN : Hid (R = (3, Us.hd0)) := by show _ = _; rw [HR.out, Us.dec, if_neg (by rw [bl_length]; exact h1), if_pos (by rw [bl_length]; exact h2)]
      have d2 : decide ((512 : Int) < (s.size : Int)) = true := by simp; omega
      clear HR
      go_enter Tryd.func17, Tryd.ntmps17
      go_wp2_with fail
      refine bodyPost_ret (v := .tuple #[.agg (hdC Us.hd0), .int .i64 3]) (by simp [results, Tryd.results17, go_sem, hdC, Us.hd0]; rfl) rfl ?_
      exact ⟨by rw [HN.out]; rfl, ((Below.refl _ _).alloc (Nat.le_refl _) _)⟩
    · have d2 : decide ((512 : Int) < (s.size : Int)) = false := by simp; omega
      have i1 : (512 : Int) ≤ (s.size : Int) := by omega
      have n1 : 512 ≤ s.size := by omega
      have hcut : bl (s.extract 257 265) = Us.cut (bl s) 257 265 := by rw [bl_extract]; rfl
      have sl1 := slice_lit s 257 265 257 265 rfl rfl (by omega) (by omega)
      have htl : (s.extract 257 265).toList = Us.cut (bl s) 257 265 := by rw [← hcut]; exact toList_bl _
      cases hm : (s.extract 257 265).toList == [117, 115, 116, 97, 114, 0, 48, 48] with
      | false =>
        have HN : Hid (R = (4, Us.hd0)) := by show _ = _; rw [HR.out, Us.dec, if_neg (by rw [bl_length]; exact h1), if_neg (by rw [bl_length]; exact h2), if_neg (fun hc => by rw [htl, hc] at hm; exact absurd hm (by decide))]
        clear HR hcut htl
        go_enter Tryd.func17, Tryd.ntmps17
        go_wp2_with fail
        refine bodyPost_ret (v := .tuple #[.agg (hdC Us.hd0), .int .i64 4]) (by simp [results, Tryd.results17, go_sem, hdC, Us.hd0]; rfl) rfl ?_
        exact ⟨by rw [HN.out]; rfl, ((Below.refl _ _).alloc (Nat.le_refl _) _)⟩
      | true =>
        have hm2 : Us.cut (bl s) 257 265 = Us.magic := by rw [← htl]; exact eq_of_beq hm
        have HD : Hid (R = decOf (bl s) (vrest (bl s) 0 [])) := by show _ = _; rw [HR.out, dec_of (by rw [bl_length]; exact h1) (by rw [bl_length]; exact h2) hm2]
        clear hm2 hcut HR htl
        have HST := Lib.hid (RS.start w)
        go_enter Tryd.func17, Tryd.ntmps17
        go_wp2_with fail
        go_loopw [6, 7] (fun v i wr => ∃ (k n : Nat) (acc : List Nat), k ≤ 8 ∧ n = k ∧ acc.length = k ∧ i = .int .i64 (k : Int) ∧ wr.ownsRow (w.heap.size + 3) 2 1 v n (ic acc) ∧ RS w wr w.heap.size ∧ Hid (R = decOf (bl s) (vrest (bl s) k acc))) (fun _ i _ => 8 - (intOf i).toNat)
        case atStart => exact ⟨0, 0, [], by omega, rfl, rfl, rfl, World.ownsRow_nil _ _ _ _, HST.out, HD⟩
        case round =>
          obtain ⟨k, n, acc, hk, hnk, hlen, rfl, hown, hst, hrec⟩ := hrel
          clear HST HD
          have hsz := hst.size
          by_cases hk8 : k < 8
          · obtain ⟨a, b, e1, e2, e3, l1, l2, l3⟩ := froms_at hk8
            have cF := hst.hF k _ e1
            have cT := hst.hT k _ e2
            have k0 : (0 : Int) ≤ (k : Int) := by omega
            have k1 : (k : Int) < 8 := by omega
            have slk := slice_lit s a b (a : Int) (b : Int) rfl rfl (by omega) (by omega)
            cases hv : Us.value (Us.cut (bl s) a b) with
            | none =>
              have HN : Hid (R = (6, Us.hd0)) := by show _ = _; rw [hrec.out, vrest_none e3 hv]; rfl
              have HV := Lib.hid hv
              have hrb := hst.res
              clear hrec hv e1 e2 e3 hlen
              go_wp2_with fail
              go_region_held3 (fun w' => w'.cell? ⟨w.heap.size + 1, k, none⟩ = some (.int .i64 (a : Int)) ∧ w'.cell? ⟨w.heap.size + 1 + 1, k, none⟩ = some (.int .i64 (b : Int))) (exact ⟨cF, cT⟩) ((go_at_call 46; refine (refNumber_hid s a b _ l3 HV).mono ?_; unfold numR; rintro e w1 ⟨rfl, rfl⟩))
              go_wp2_with (refine wpList_store_hd rfl _ _ rfl w.heap.size Us.hd0 rfl rfl Us.hd0 hrb ?_; intro w5 hB5 hb5 hz5)
              refine bodyPost_ret (v := .tuple #[.agg (hdC Us.hd0), .int .i64 6]) (results_hd rfl rfl rfl hB5) rfl ?_
              exact ⟨by rw [HN.out]; rfl, hst.below.drew.trans hb5⟩
            | some x =>
              have HN : Hid (R = decOf (bl s) (vrest (bl s) (k + 1) (acc ++ [x]))) := by show _ = _; rw [hrec.out, vrest_some e3 hv]
              have HV := Lib.hid hv
              have HL := Lib.hid hlen
              have hdr : Below (w.heap.size + 3) wr wr.drew := (Below.refl _ _).drew
              clear hrec hv e1 e2 e3 hlen
              go_wp2_with fail
              go_region_held3 (fun w' => w'.cell? ⟨w.heap.size + 1, k, none⟩ = some (.int .i64 (a : Int)) ∧ w'.cell? ⟨w.heap.size + 1 + 1, k, none⟩ = some (.int .i64 (b : Int))) (exact ⟨cF, cT⟩) ((go_at_call 46; refine (refNumber_hid s a b _ l3 HV).mono ?_; unfold numR; rintro e w1 ⟨rfl, rfl⟩))
              go_wp2_with ((at_builtin; refine wpList_app rfl _ _ _ rfl int64SliceR _ _ _ _ rfl ((hown.drew).alloc _) _ _ _ _ rfl rfl (news_alloc _ _ _) (one_of_all rfl) (by omega) (by omega) (hdr.alloc hsz _) (by simp; omega) ?_; intro v1 w1 hown1 hb1 hg1 hat1))
              go_roundw
              case rel => exact ⟨k + 1, n + 1, acc ++ [x], by omega, by omega, by rw [List.length_append, HL.out]; rfl, by go_num, by rw [ic_append]; exact hown1, hst.keep hb1, HN⟩
              case measure => simp [intOf]; omega
          · obtain rfl : k = 8 := by omega
            subst hnk
            have HN : Hid (R = decOf (bl s) (some acc)) := by show _ = _; rw [hrec.out, vrest_end]
            obtain ⟨g, c, rfl, hc, hgb⟩ := own_some hown (by omega)
            obtain ⟨x0, x1, x2, x3, x4, x5, x6, x7, rfl⟩ : ∃ x0 x1 x2 x3 x4 x5 x6 x7, acc = [x0, x1, x2, x3, x4, x5, x6, x7] := by
              match acc, hlen with
              | [a, b, c, d, e, f, g, h], _ => exact ⟨_, _, _, _, _, _, _, _, rfl⟩
            have y0 := own_cell hown 0 (.int .i64 (x0 : Int)) rfl
            have y1 := own_cell hown 1 (.int .i64 (x1 : Int)) rfl
            have y2 := own_cell hown 2 (.int .i64 (x2 : Int)) rfl
            have y3 := own_cell hown 3 (.int .i64 (x3 : Int)) rfl
            have y4 := own_cell hown 4 (.int .i64 (x4 : Int)) rfl
            have y5 := own_cell hown 5 (.int .i64 (x5 : Int)) rfl
            have y6 := own_cell hown 6 (.int .i64 (x6 : Int)) rfl
            have y7 := own_cell hown 7 (.int .i64 (x7 : Int)) rfl
            obtain ⟨X5, hX5⟩ : ∃ i : Int, i = (x5 : Int) := ⟨_, rfl⟩
            obtain ⟨SS, hSS⟩ : ∃ i : Int, i = (Us.sumFrom 0 (bl s) : Nat) := ⟨_, rfl⟩
            have HSS := Lib.hid hSS
            have hrb := hst.res
            have c5 : 5 < c := by omega
            have hgne : ¬ g = w.heap.size := by omega
            rw [← hX5] at y5
            cases hxs : X5 == SS with
            | false =>
              have hne : ¬ x5 = Us.sumFrom 0 (bl s) := fun h => by simp [hX5, hSS, h] at hxs
              have HF : Hid (R = (7, Us.hd0)) := by show _ = _; rw [HN.out, decOf]; exact if_neg hne
              have HX := Lib.hid hX5
              clear HN hrec hne hSS hX5 hlen y0 y1 y2 y3 y4 y6 y7
              go_wp2_with fail
              go_region_held3 (fun w' => w'.cell? ⟨g, 5, none⟩ = some (.int .i64 X5)) (exact y5) ((go_at_call 39; refine (refSum_hid s _ (by omega) HSS).mono ?_; rintro e w1 ⟨rfl, rfl⟩))
              go_wp2_with (refine wpList_store_hd rfl _ _ rfl w.heap.size Us.hd0 rfl rfl Us.hd0 hrb ?_; intro w5 hB5 hb5 hz5)
              refine bodyPost_ret (v := .tuple #[.agg (hdC Us.hd0), .int .i64 7]) (results_hd rfl rfl rfl hB5) rfl ?_
              exact ⟨by rw [HF.out]; rfl, hst.below.drew.trans hb5⟩
            | true =>
              have heq : x5 = Us.sumFrom 0 (bl s) := by have := eq_of_beq hxs; omega
              have HF : Hid (R = (0, Us.hdOf (bl s) [x0, x1, x2, x3, x4, x5, x6, x7])) := by show _ = _; rw [HN.out, decOf]; exact if_pos heq
              have HX := Lib.hid hX5
              clear HN hrec heq hSS hX5 hlen
              go_wp2_with fail
              go_region_held3 (fun w' => w'.cell? ⟨g, 5, none⟩ = some (.int .i64 X5)) (exact y5) ((go_at_call 39; refine (refSum_hid s _ (by omega) HSS).mono ?_; rintro e w1 ⟨rfl, rfl⟩))
              have hxn : (X5 != SS) = false := by simp [bne, hxs]
              have hsl0 := slice_lit s 0 100 0 100 rfl rfl (by omega) (by omega)
              have hsl1 := slice_lit s 345 500 345 500 rfl rfl (by omega) (by omega)
              have hsl2 := slice_lit s 157 257 157 257 rfl rfl (by omega) (by omega)
              have hsl3 := slice_lit s 265 297 265 297 rfl rfl (by omega) (by omega)
              have hsl4 := slice_lit s 297 329 297 329 rfl rfl (by omega) (by omega)
              have i156 : (156 : Int) < (s.size : Int) := by omega
              have n156 : 156 < s.size := by omega
              have z0 := xt_size s 0 100
              have z1 := xt_size s 345 500
              have ie := xt_isEmpty s 345 500
              by_cases hpe : xt s 345 500 = []
              · have HP := path_one s hpe
                rw [decide_eq_true hpe] at ie
                have HPH := Lib.hid HP
                clear HP hpe
                go_wp2_with (go_at_call 47; refine (refText_x s _ _ _ hs).mono ?_; rintro e w1 ⟨rfl, rfl⟩)
                refine wp_still_tail 34 (by kernel_rfl) (by kernel_rfl) ?_
                simp only [List.take_succ_cons, List.take_zero, List.drop_succ_cons, List.drop_zero]
                repeat (first | still_step | still_call ((refText_x s _ _ _ hs).mono fun _ _ h => ⟨h.1, h.2.symm⟩))
                refine wpStill_nil ?_
                go_wp2_with (refine wpList_store_hd rfl _ _ rfl w.heap.size ⟨xt s 0 100, x0, x1, x2, x3, x4, s[156], xt s 157 257, xt s 265 297, xt s 297 329, x6, x7⟩ rfl rfl Us.hd0 hrb ?_; intro w5 hB5 hb5 hz5)
                refine bodyPost_ret (v := .tuple #[.agg (hdC ⟨xt s 0 100, x0, x1, x2, x3, x4, s[156], xt s 157 257, xt s 265 297, xt s 297 329, x6, x7⟩), .int .i64 0]) (results_hd rfl rfl rfl hB5) rfl ?_
                refine ⟨?_, hst.below.drew.drew.trans hb5⟩
                rw [HF.out, hd_ok s _ x0 x1 x2 x3 x4 x5 x6 x7 HPH.out n156]
                rfl
              · have HP := path_two s hpe
                rw [decide_eq_false hpe] at ie
                obtain ⟨pl, hpl⟩ : ∃ l, l = Us.pathOf (bl s) := ⟨_, rfl⟩
                rw [← hpl] at HP
                have HPL := Lib.hid hpl
                have HPH := Lib.hid HP
                clear HP hpe hpl
                go_wp2_with (go_at_call 47; refine (refText_x s _ _ _ hs).mono ?_; rintro e w1 ⟨rfl, rfl⟩)
                rw [HPH.out]
                refine wp_still_tail 34 (by kernel_rfl) (by kernel_rfl) ?_
                simp only [List.take_succ_cons, List.take_zero, List.drop_succ_cons, List.drop_zero]
                repeat (first | still_step | still_call ((refText_x s _ _ _ hs).mono fun _ _ h => ⟨h.1, h.2.symm⟩))
                refine wpStill_nil ?_
                go_wp2_with (refine wpList_store_hd rfl _ _ rfl w.heap.size ⟨pl, x0, x1, x2, x3, x4, s[156], xt s 157 257, xt s 265 297, xt s 297 329, x6, x7⟩ rfl rfl Us.hd0 hrb ?_; intro w5 hB5 hb5 hz5)
                refine bodyPost_ret (v := .tuple #[.agg (hdC ⟨pl, x0, x1, x2, x3, x4, s[156], xt s 157 257, xt s 265 297, xt s 297 329, x6, x7⟩), .int .i64 0]) (results_hd rfl rfl rfl hB5) rfl ?_
                refine ⟨?_, hst.below.drew.drew.trans hb5⟩
                rw [HF.out, hd_ok s _ x0 x1 x2 x3 x4 x5 x6 x7 HPL.out n156]
                rfl
end Go.Proofs.YtfhfahlocpmdkaaDoor
