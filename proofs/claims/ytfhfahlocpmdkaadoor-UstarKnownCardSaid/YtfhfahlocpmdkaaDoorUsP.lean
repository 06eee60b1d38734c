/- ustar.Decode, walked: it answers what Us.dec tells. -/
import Derived.Test.YtfhfahlocpmdkaaDoorUsJ
namespace Go.Proofs.YtfhfahlocpmdkaaDoor
open Go.RowKit
attribute [local go_sem ↓] Go.wp_at_zero Go.wp_at_succ

/-- a header of which the texts have been read. -/
def textH (s : ByteArray) (c : UInt8) : Us.Hd := ⟨xt s 0 100, 0, 0, 0, 0, 0, c, xt s 157 257, xt s 265 297, xt s 297 329, 0, 0⟩
theorem slice_h (s : ByteArray) (b : Nat) (bi : Int) (hb : bi = (b : Int)) (hbs : b ≤ s.size) : ∀ wx, (Instr.slice 9 (.string s) none (some (.int .i64 bi)) none).run Tryd.prog wx = .ok (.string (s.extract 0 b)) wx := by
  subst hb
  intro wx
  rw [run_slice_string_h (ht := Tryd.underlying9) (h0 := by omega) (h2 := by omega)]
  simp
theorem put_whole (s : List UInt8) (h : s.length = 512) : Us.put (Us.zs 512) 0 s = s := by
  rw [Us.put, h, List.take_zero, List.nil_append, List.drop_of_length_le (by rw [Us.zs_length]; omega), List.append_nil]
theorem fill_ok (s : ByteArray) (pl : List UInt8) (x0 x1 x2 x3 x4 x5 x6 x7 : Nat) (hP : pl = Us.pathOf (bl s)) (h : 156 < s.size) :
    { fillH (textH s s[156]) [x0, x1, x2, x3, x4, x5, x6, x7] with path := pl } = Us.hdOf (bl s) [x0, x1, x2, x3, x4, x5, x6, x7] := hd_ok s pl x0 x1 x2 x3 x4 x5 x6 x7 hP h
theorem set_path {W : World} {g : Nat} {F : Us.Hd} (h : Blk W g 23 (hdC F)) (E : ByteArray) : Blk (W.setCell ⟨g, 0, none⟩ (.string E)) g 23 (hdC { F with path := bl E }) := by
  have e := h.set_ 0 (.string E)
  simp only [hdC, List.setIfInBounds_toArray, List.set_cons_zero, bs_bl] at e ⊢
  exact e
/-- what stands in memory when the texts have been read. -/
structure TS (w wx : World) (g5 : Nat) (s : ByteArray) (c : UInt8) : Prop where
  res : Blk wx w.heap.size 23 (hdC Us.hd0)
  byt : Blk wx (w.heap.size + 1) 67 (bc (bl s)).toArray
  hd : Blk wx g5 23 (hdC (textH s c))
  below : Below w.heap.size w wx
  o1 : w.heap.size + 1 < g5
  o2 : g5 < wx.heap.size
theorem TS.mk' {w w6 : World} {s : ByteArray} (c : UInt8) (h1 : Blk w6 w.heap.size 23 (hdC Us.hd0)) (h2 : Blk w6 (w.heap.size + 1) 67 (bc (bl s)).toArray) (h3 : Below w.heap.size w w6) : TS w (w6.alloc (.cells (hdC (textH s c)) 23)) w6.heap.size s c :=
  ⟨h1.alloc _, h2.alloc _, Blk.new _ _ _, h3.alloc (Nat.le_of_lt h1.lt) _, h2.lt, by simp⟩
theorem TS.drew {w wx : World} {g5 : Nat} {s : ByteArray} {c : UInt8} (h : TS w wx g5 s c) : TS w wx.drew g5 s c :=
  ⟨by have := h.res; exact this, by have := h.byt; exact this, by have := h.hd; exact this, h.below.drew, h.o1, h.o2⟩
theorem DS.start {w wx : World} {g5 : Nat} {s : ByteArray} {c : UInt8} (h : TS w wx g5 s c) : DS w ((wx.alloc (.cells #[.int .i64 0] 2)).alloc (.cells (rowsOf g5 wx.heap.size).toArray 79)) w.heap.size (w.heap.size + 1) g5 wx.heap.size (wx.heap.size + 1) (textH s c) (bl s) [] := by
  have z : (wx.alloc (.cells #[.int .i64 0] 2)).heap.size = wx.heap.size + 1 := by simp
  have b := Blk.new (wx.alloc (.cells #[.int .i64 0] 2)) 79 (rowsOf g5 wx.heap.size).toArray
  rw [z] at b
  have e : fillH (textH s c) [] = textH s c := fillH_nil _ ⟨rfl, rfl, rfl, rfl, rfl, rfl, rfl⟩
  exact ⟨(h.res.alloc _).alloc _, (h.byt.alloc _).alloc _, by rw [e]; exact (h.hd.alloc _).alloc _, (Blk.new wx _ _).alloc _, fun j v hj => (b.cell j).trans (by simpa using hj), (h.below.alloc (Nat.le_of_lt h.res.lt) _).alloc (by have := h.res.lt; omega) _, by omega, h.o1, h.o2, by omega, by simp⟩
set_option maxRecDepth 100000 in
set_option maxHeartbeats 4000000 in
theorem decode_any (s : ByteArray) (w : World) (hs : s.size ≤ 1000000000) :
    Calls Tryd.prog 18 #[.string s] w fun e w' => e = .returned (.tuple #[.agg (hdC (Us.dec (bl s)).2), errN (Us.dec (bl s)).1]) ∧ Below w.heap.size w w' := by
  obtain ⟨R, hR⟩ : ∃ R, R = Us.dec (bl s) := ⟨_, rfl⟩
  rw [← hR]
  have HR := Lib.hid hR
  clear hR
  by_cases h1 : s.size < 512
  · have HN : Hid (R = (2, Us.hd0)) := by show _ = _; rw [HR.out, Us.dec, if_pos (by rw [bl_length]; exact h1)]
    have d1 : decide ((s.size : Int) < 512) = true := by simp; omega
    clear HR
    go_enter Tryd.func18, Tryd.ntmps18
    go_wp2_with fail
    refine bodyPost_ret (v := .tuple #[.agg (hdC Us.hd0), eno 2]) (by simp [results, Tryd.results18, go_sem, hdC, Us.hd0]; rfl) rfl ?_
    exact ⟨by rw [HN.out]; rfl, ((Below.refl _ _).alloc (Nat.le_refl _) _)⟩
  · have d1 : decide ((s.size : Int) < 512) = false := by simp; omega
    by_cases h2 : 512 < s.size
    · have HN : Hid (R = (3, Us.hd0)) := by show _ = _; rw [HR.out, Us.dec, if_neg (by rw [bl_length]; exact h1), if_pos (by rw [bl_length]; exact h2)]
      have d2 : decide ((512 : Int) < (s.size : Int)) = true := by simp; omega
      clear HR
      go_enter Tryd.func18, Tryd.ntmps18
      go_wp2_with fail
      refine bodyPost_ret (v := .tuple #[.agg (hdC Us.hd0), eno 3]) (by simp [results, Tryd.results18, go_sem, hdC, Us.hd0]; rfl) rfl ?_
      exact ⟨by rw [HN.out]; rfl, ((Below.refl _ _).alloc (Nat.le_refl _) _)⟩
    · have d2 : decide ((512 : Int) < (s.size : Int)) = false := by simp; omega
      have i1 : (512 : Int) ≤ (s.size : Int) := by omega
      have n1 : 512 ≤ s.size := by omega
      have n2 : s.size ≤ 512 := by omega
      have hcut : bl (s.extract 257 265) = Us.cut (bl s) 257 265 := by rw [bl_extract]; rfl
      have sl1 := slice_lit s 257 265 257 265 rfl rfl (by omega) (by omega)
      have htl : (s.extract 257 265).toList = Us.cut (bl s) 257 265 := by rw [← hcut]; exact toList_bl _
      cases hm : (s.extract 257 265).toList == [117, 115, 116, 97, 114, 0, 48, 48] with
      | false =>
        have HN : Hid (R = (4, Us.hd0)) := by show _ = _; rw [HR.out, Us.dec, if_neg (by rw [bl_length]; exact h1), if_neg (by rw [bl_length]; exact h2), if_neg (fun hc => by rw [htl, hc] at hm; exact absurd hm (by decide))]
        clear HR hcut htl
        go_enter Tryd.func18, Tryd.ntmps18
        go_wp2_with fail
        refine bodyPost_ret (v := .tuple #[.agg (hdC Us.hd0), eno 4]) (by simp [results, Tryd.results18, go_sem, hdC, Us.hd0]; rfl) rfl ?_
        exact ⟨by rw [HN.out]; rfl, ((Below.refl _ _).alloc (Nat.le_refl _) _)⟩
      | true =>
        have hm2 : Us.cut (bl s) 257 265 = Us.magic := by rw [← htl]; exact eq_of_beq hm
        have HD : Hid (R = decOf (bl s) (vrest (bl s) 0 [])) := by show _ = _; rw [HR.out, dec_of (by rw [bl_length]; exact h1) (by rw [bl_length]; exact h2) hm2]
        clear hm2 hcut HR htl h1 h2
        have hL : (bl s).length = 512 := by rw [bl_length]; omega
        have hres : Hid (Blk (w.alloc (.cells (hdC Us.hd0) 23)) w.heap.size 23 (hdC Us.hd0)) := Blk.new _ _ _
        have hbel : Hid (Below w.heap.size w (w.alloc (.cells (hdC Us.hd0) 23))) := (Below.refl _ _).alloc (Nat.le_refl _) _
        have HL := Lib.hid hL
        have hsl0 := slice_h s 100 100 rfl (by omega)
        have hsl1 := slice_lit s 345 500 345 500 rfl rfl (by omega) (by omega)
        have hsl2 := slice_lit s 157 257 157 257 rfl rfl (by omega) (by omega)
        have hsl3 := slice_lit s 265 297 265 297 rfl rfl (by omega) (by omega)
        have hsl4 := slice_lit s 297 329 297 329 rfl rfl (by omega) (by omega)
        have i156 : (156 : Int) < (s.size : Int) := by omega
        have n156 : 156 < s.size := by omega
        clear hL
        go_enter Tryd.func18, Tryd.ntmps18
        go_wp2_with (first | (refine wpList_alloc_bytes rfl 67 512 rfl zero_block (w.heap.size + 1) (by simp) ?_; intro w4 w5 e4 h5; have hR4 : Blk w4 w.heap.size 23 (hdC Us.hd0) := (by rw [e4.out]; exact hres.out); have hB4 : Below w.heap.size w w4 := (by rw [e4.out]; exact hbel.out)) | (refine wpList_copy_str rfl _ _ _ _ rfl 5 Tryd.underlying42 one_u8 _ _ _ _ rfl _ rfl _ _ h5 (by omega) (by rw [Us.zs_length]; omega) ?_; intro w6 k6 z6))
        rw [put_whole _ HL.out] at k6
        have hR6 := hR4.below k6.below (Nat.lt_succ_self _)
        have hB6 := hB4.trans (k6.below.mono (Nat.le_succ _))
        have hTS := TS.mk' s[156] hR6 k6.blk hB6
        clear hres hbel h5 hR4 hB4 k6 z6 e4 hR6 hB6
        have HTS := Lib.hid hTS
        clear hTS
        simp only [Act.put, List.setIfInBounds_toArray, List.set_cons_zero, List.set_cons_succ]
        go_cut [5] (fun s5 wx => ∃ g5 : Nat, s5 = .pointer (some ⟨g5, 0, none⟩) ∧ TS w wx g5 s s[156])
        case first =>
          go_region_held3 (fun _ => True) (trivial) ((go_at_call 48; refine (text_x s _ _ _).mono ?_; rintro e w1 ⟨rfl, rfl⟩))
          all_goals (go_wp2_with fail; go_meet; first | exact ⟨_, rfl, HTS.out⟩ | exact ⟨_, rfl, HTS.out.drew⟩)
        case rest =>
          clear HTS
          obtain ⟨g5, rfl, hts⟩ := hcut
          have hds := DS.start hts
          have HDS := Lib.hid hds
          clear hds hts
          go_wp2_with fail
          go_loopw [67] (fun i wr => ∃ (k : Nat) (acc : List Nat), k ≤ 8 ∧ acc.length = k ∧ i = .int .i64 (k : Int) ∧ DS w wr w.heap.size (w.heap.size + 1) g5 wc.heap.size (wc.heap.size + 1) (textH s s[156]) (bl s) acc ∧ Hid (R = decOf (bl s) (vrest (bl s) k acc))) (fun i _ => 8 - (intOf i).toNat)
          case atStart => exact ⟨0, [], by omega, rfl, rfl, HDS.out, HD⟩
          case round =>
            obtain ⟨k, acc, hk, hlen, rfl, hds, hrec⟩ := hrel
            clear HDS HD
            by_cases hk8 : k < 8
            · obtain ⟨a, b, p, x, e1, e2, l1, l2, l3, c0, c1, c2, c3, f3, hp⟩ := hds.row hk8
              have k0 : (0 : Int) ≤ (k : Int) := by omega
              have k1 : (k : Int) < 8 := by omega
              have slk := slice_lit s a b (a : Int) (b : Int) rfl rfl (by omega) (by omega)
              cases hv : Us.value (Us.cut (bl s) a b) with
              | none =>
                have HN : Hid (R = (6, Us.hd0)) := by show _ = _; rw [hrec.out, vrest_none e2 hv]; rfl
                have HV := Lib.hid hv
                have HDK := Lib.hid hds
                clear hrec hv e1 e2 hlen hds f3 c3
                go_wp2_with (first | (go_at_call 49; refine (value_x s a b _ l3 HV).mono ?_; rintro e w2 ⟨⟨y, rfl, hy⟩, hb2⟩; have hbb : Below wr.heap.size wr w2 := (((Below.refl wr.heap.size wr).alloc (Nat.le_refl _) _).trans (hb2.mono (by simp))); have hrb := (HDK.out.keep hbb).res; have hbl := (HDK.out.keep hbb).below) | (refine wpList_store_hd rfl _ _ rfl w.heap.size Us.hd0 rfl rfl Us.hd0 hrb ?_; intro w5 hB5 hb5 hz5))
                refine bodyPost_ret (v := .tuple #[.agg (hdC Us.hd0), eno 6]) (results_hd rfl rfl rfl hB5) rfl ?_
                exact ⟨by rw [HN.out]; rfl, hbl.trans hb5⟩
              | some v =>
                have HN : Hid (R = decOf (bl s) (vrest (bl s) (k + 1) (acc ++ [v]))) := by show _ = _; rw [hrec.out, vrest_some e2 hv]
                have HV := Lib.hid hv
                have HDK := Lib.hid hds
                have HL2 := Lib.hid hlen
                have E1 := Lib.hid e1
                clear hrec hv e1 e2 hlen hds
                go_wp2_with (go_at_call 49; refine (value_x s a b _ l3 HV).mono ?_; rintro e w2 ⟨⟨y, rfl, hy⟩, hb2⟩; obtain rfl : y = (v : Int) := hy v rfl; have hbb : Below wr.heap.size wr w2 := (((Below.refl wr.heap.size wr).alloc (Nat.le_refl _) _).trans (hb2.mono (by simp))); have cf : w2.cell? ⟨wr.heap.size, 2, none⟩ = some (.pointer (some p)) := (hb2.cell (p := ⟨wr.heap.size, 2, none⟩) (by simp)).trans (by simp); have cp := (hbb.cell hp).trans c3; have fp := (hbb.frozen hp).trans f3; clear hy)
                go_roundw
                case rel => exact ⟨k + 1, acc ++ [v], by omega, by rw [List.length_append, HL2.out]; rfl, by go_num, (HDK.out.keep hbb).step hk8 HL2.out E1.out v, HN⟩
                case measure => simp [intOf]; omega
            · obtain rfl : k = 8 := by omega
              have HN : Hid (R = decOf (bl s) (some acc)) := by show _ = _; rw [hrec.out, vrest_end]
              obtain ⟨x0, x1, x2, x3, x4, x5, x6, x7, rfl⟩ : ∃ x0 x1 x2 x3 x4 x5 x6 x7, acc = [x0, x1, x2, x3, x4, x5, x6, x7] := by
                match acc, hlen with
                | [a, b, c, d, e, f, g, h], _ => exact ⟨_, _, _, _, _, _, _, _, rfl⟩
              have y5 : wr.cell? ⟨wc.heap.size, 0, none⟩ = some (.int .i64 (x5 : Int)) := hds.sum.cell 0
              obtain ⟨X5, hX5⟩ : ∃ i : Int, i = (x5 : Int) := ⟨_, rfl⟩
              obtain ⟨SS, hSS⟩ : ∃ i : Int, i = (Us.sumFrom 0 (bl s) : Nat) := ⟨_, rfl⟩
              have HSS := Lib.hid hSS
              rw [← hX5] at y5
              have HBY := Lib.hid hds.drew.byt
              have HDK := Lib.hid hds
              clear hds
              cases hxs : X5 == SS with
              | false =>
                have hne : ¬ x5 = Us.sumFrom 0 (bl s) := fun h => by simp [hX5, hSS, h] at hxs
                have HF : Hid (R = (7, Us.hd0)) := by show _ = _; rw [HN.out, decOf]; exact if_neg hne
                have hxn : (X5 != SS) = true := by simp [bne, hxs]
                clear HN hrec hne hSS hX5 hlen
                go_wp2_with fail
                go_region_held3 (fun w' => w'.cell? ⟨wc.heap.size, 0, none⟩ = some (.int .i64 X5)) (exact y5) ((go_at_call 44; refine (blockSum_q _ 67 (bl s) _ HL.out HBY.out HSS).mono ?_; rintro e w1 ⟨rfl, q, rfl⟩))
                go_wp2_with (refine wpList_store_hd rfl _ _ rfl w.heap.size Us.hd0 rfl rfl Us.hd0 (HDK.out.drewN (1 + q)).res ?_; intro w5 hB5 hb5 hz5)
                refine bodyPost_ret (v := .tuple #[.agg (hdC Us.hd0), eno 7]) (results_hd rfl rfl rfl hB5) rfl ?_
                exact ⟨by rw [HF.out]; rfl, (HDK.out.drewN (1 + q)).below.trans hb5⟩
              | true =>
                have heq : x5 = Us.sumFrom 0 (bl s) := by have := eq_of_beq hxs; omega
                have HF : Hid (R = (0, Us.hdOf (bl s) [x0, x1, x2, x3, x4, x5, x6, x7])) := by show _ = _; rw [HN.out, decOf]; exact if_pos heq
                have hxn : (X5 != SS) = false := by simp [bne, hxs]
                clear HN hrec heq hSS hX5 hlen
                have z0 := xt_size s 0 100
                have z1 := xt_size s 345 500
                have ie := xt_isEmpty s 345 500
                by_cases hpe : xt s 345 500 = []
                · have HPH := Lib.hid (path_one s hpe)
                  rw [decide_eq_true hpe] at ie
                  clear hpe
                  go_wp2_with fail
                  go_region_held3 (fun w' => w'.cell? ⟨wc.heap.size, 0, none⟩ = some (.int .i64 X5)) (exact y5) ((go_at_call 44; refine (blockSum_q _ 67 (bl s) _ HL.out HBY.out HSS).mono ?_; rintro e w1 ⟨rfl, q, rfl⟩))
                  have hd5 := HDK.out.drewN (1 + q)
                  have hdB := hd5.hd
                  have hdR := hd5.res
                  have HD5 := Lib.hid hd5
                  clear hd5
                  go_wp2_with (first | (go_at_call 48; refine (text_x s _ _ _).mono ?_; rintro e w1 ⟨rfl, rfl⟩) | (refine wpList_load_row rfl 23 _ rfl g5 rfl _ _ (0, 0) _ hdB Tryd.underlying23 rfl hd_size ?_) | (refine wpList_store_hd rfl _ _ rfl w.heap.size _ rfl rfl Us.hd0 hdR ?_; intro w5 hB5 hb5 hz5))
                  refine bodyPost_ret (v := .tuple #[.agg (hdC (fillH (textH s s[156]) [x0, x1, x2, x3, x4, x5, x6, x7])), .nilIface]) (results_hd rfl rfl rfl hB5) rfl ?_
                  refine ⟨?_, HD5.out.below.trans hb5⟩
                  rw [HF.out, ← fill_ok s _ x0 x1 x2 x3 x4 x5 x6 x7 HPH.out n156]
                  rfl
                · have HP := path_two s hpe
                  rw [decide_eq_false hpe] at ie
                  have HPH := Lib.hid HP
                  clear HP hpe
                  go_wp2_with fail
                  go_region_held3 (fun w' => w'.cell? ⟨wc.heap.size, 0, none⟩ = some (.int .i64 X5)) (exact y5) ((go_at_call 44; refine (blockSum_q _ 67 (bl s) _ HL.out HBY.out HSS).mono ?_; rintro e w1 ⟨rfl, q, rfl⟩))
                  have hd5 := HDK.out.drewN (1 + q)
                  have hc5 : (wr.drewN (1 + q)).cell? ⟨g5, 0, none⟩ = some (.string (bs (xt s 0 100))) := hd5.hd.cell 0
                  have hf5 : (wr.drewN (1 + q)).frozen? ⟨g5, 0, none⟩ = false := hd5.hd.frozen 0
                  have hdB := set_path hd5.hd (bs (xt s 345 500) ++ ⟨#[47]⟩ ++ bs (xt s 0 100))
                  have hdR := hd5.res.far (p := ⟨g5, 0, none⟩) (by show w.heap.size ≠ g5; have := hd5.o1; have := hd5.o2; omega) (.string (bs (xt s 345 500) ++ ⟨#[47]⟩ ++ bs (xt s 0 100)))
                  have hdW := hd5.below.setCell (p := ⟨g5, 0, none⟩) (by show w.heap.size ≤ g5; have := hd5.o1; have := hd5.o2; omega) (.string (bs (xt s 345 500) ++ ⟨#[47]⟩ ++ bs (xt s 0 100)))
                  have hdW2 := below_drewN (HDK.out.below.setCell (p := ⟨g5, 0, none⟩) (by show w.heap.size ≤ g5; have := hd5.o1; have := hd5.o2; omega) (.string (bs (xt s 345 500) ++ ⟨#[47]⟩ ++ bs (xt s 0 100)))) (1 + q)
                  clear hd5
                  go_wp2_with (first | (go_at_call 48; refine (text_x s _ _ _).mono ?_; rintro e w1 ⟨rfl, rfl⟩) | (refine wpList_load_row rfl 23 _ rfl g5 rfl _ _ (0, 0) _ hdB Tryd.underlying23 rfl hd_size ?_) | (refine wpList_store_hd rfl _ _ rfl w.heap.size _ rfl rfl Us.hd0 hdR ?_; intro w5 hB5 hb5 hz5))
                  refine bodyPost_ret (v := .tuple #[.agg (hdC { fillH (textH s s[156]) [x0, x1, x2, x3, x4, x5, x6, x7] with path := bl (bs (xt s 345 500) ++ ⟨#[47]⟩ ++ bs (xt s 0 100)) }), .nilIface]) (results_hd rfl rfl rfl hB5) rfl ?_
                  refine ⟨?_, (by first | exact hdW.trans hb5 | exact hdW2.trans hb5)⟩
                  rw [HF.out, ← fill_ok s _ x0 x1 x2 x3 x4 x5 x6 x7 (congrArg bl HPH.out) n156]
                  rfl
end Go.Proofs.YtfhfahlocpmdkaaDoor
