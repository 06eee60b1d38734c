/- ustar.Encode, walked: it answers what Us.enc tells. -/
import Derived.Test.YtfhfahlocpmdkaaDoorUsD
import Derived.Test.YtfhfahlocpmdkaaDoorErrIs
import Derived.Test.YtfhfahlocpmdkaaDoorUsG
namespace Go.Proofs.YtfhfahlocpmdkaaDoor
open Go.RowKit

/-- an error by its number; 0: none. -/
def errN (n : Nat) : Value := if n = 0 then .nilIface else eno (n : Int)
/-- Block g holds a header's cells. -/
structure HC (w : World) (g : Nat) (h : Us.Hd) : Prop where
  blk : Blk w g 23 (hdC h)
section
variable {w w' : World} {g : Nat} {h : Us.Hd}
theorem HC.below {B : Nat} (H : HC w g h) (hb : Below B w w') (hg : g < B) : HC w' g h := ⟨H.blk.below hb hg⟩
theorem HC.c0 (H : HC w g h) : w.cell? ⟨g, 0, none⟩ = some (.string (bs h.path)) := H.blk.cell 0
theorem HC.c1 (H : HC w g h) : w.cell? ⟨g, 1, none⟩ = some (.int .i64 h.mode) := H.blk.cell 1
theorem HC.c2 (H : HC w g h) : w.cell? ⟨g, 2, none⟩ = some (.int .i64 h.uid) := H.blk.cell 2
theorem HC.c3 (H : HC w g h) : w.cell? ⟨g, 3, none⟩ = some (.int .i64 h.gid) := H.blk.cell 3
theorem HC.c4 (H : HC w g h) : w.cell? ⟨g, 4, none⟩ = some (.int .i64 h.size) := H.blk.cell 4
theorem HC.c5 (H : HC w g h) : w.cell? ⟨g, 5, none⟩ = some (.int .i64 h.time) := H.blk.cell 5
theorem HC.c6 (H : HC w g h) : w.cell? ⟨g, 6, none⟩ = some (.int .u8 (h.type.toNat : Int)) := H.blk.cell 6
theorem HC.c7 (H : HC w g h) : w.cell? ⟨g, 7, none⟩ = some (.string (bs h.link)) := H.blk.cell 7
theorem HC.c8 (H : HC w g h) : w.cell? ⟨g, 8, none⟩ = some (.string (bs h.user)) := H.blk.cell 8
theorem HC.c9 (H : HC w g h) : w.cell? ⟨g, 9, none⟩ = some (.string (bs h.group)) := H.blk.cell 9
theorem HC.c10 (H : HC w g h) : w.cell? ⟨g, 10, none⟩ = some (.int .i64 h.major) := H.blk.cell 10
theorem HC.c11 (H : HC w g h) : w.cell? ⟨g, 11, none⟩ = some (.int .i64 h.minor) := H.blk.cell 11
end
theorem split_hid (p : ByteArray) (w : World) (hp : p.size ≤ 1000000000000) {U : Option (List UInt8 × List UInt8)} (h : Hid (Us.split (bl p) = U)) : Calls Tryd.prog 41 #[.string p] w fun e w' => e = .returned (splitV U) ∧ Below w.heap.size w w' := by
  have := split_any p w hp
  rwa [h.out] at this
theorem wrongText_hid (h : Us.Hd) (w : World) (hs : Short h) {b : Bool} (hb : Hid (Us.badText h = b)) : Calls Tryd.prog 40 #[.agg (hdC h)] w fun e w' => e = .returned (.bool b) ∧ Below w.heap.size w w' := by
  have := wrongText_any h w hs
  rwa [hb.out] at this
theorem ints_new (w : World) (l : List Int) (e : TypeId) : ∀ k (hk : k < l.length), (w.alloc (.cells (l.map (Value.int .i64)).toArray e)).cell? ⟨w.heap.size, k, none⟩ = some (.int .i64 l[k]) := by
  intro k hk
  have := news_alloc w (l.map (Value.int .i64)) e k (.int .i64 l[k]) (by simp [hk])
  rwa [Addr.add_lit, Nat.zero_add] at this
theorem ints_at (w : World) (l : List Int) (e : TypeId) (g : Nat) (hg : w.heap.size = g) : ∀ k (hk : k < l.length), (w.alloc (.cells (l.map (Value.int .i64)).toArray e)).cell? ⟨g, k, none⟩ = some (.int .i64 l[k]) := by
  subst hg
  exact ints_new w l e
theorem within_hid (most : Int) (l : List Int) (g c : Nat) (w : World) (hl : l.length ≤ 100) (hc : ∀ k (hk : k < l.length), w.cell? ⟨g, k, none⟩ = some (.int .i64 l[k])) {b : Bool} (hb : (l.all fun x => Us.in_ x most) = b) :
    Calls Tryd.prog 42 #[.int .i64 most, .slice (some ⟨g, 0, none⟩) l.length c] w fun e w' => e = .returned (.bool b) ∧ w = w' := by
  have := within_any most l g c w hl hc
  rwa [hb] at this
theorem goodNums_eq (h : Us.Hd) : Us.goodNums h = (([h.mode, h.uid, h.gid, h.major, h.minor].all fun x => Us.in_ x 2097151) && ([h.size, h.time].all fun x => Us.in_ x 8589934591)) := by
  simp [Us.goodNums, Bool.and_assoc]
set_option maxRecDepth 100000 in
set_option maxHeartbeats 1000000 in
theorem encode_any (h : Us.Hd) (w : World) (hs : Short h) :
    Calls Tryd.prog 14 #[.agg (hdC h)] w fun e w' => e = .returned (.tuple #[.string (bs (Us.enc h).2), errN (Us.enc h).1]) ∧ Below w.heap.size w w' := by
  obtain ⟨R, hR⟩ : ∃ R, R = Us.enc h := ⟨_, rfl⟩
  rw [← hR]
  have hsz : (w.alloc (.cells (hdC h) 23)).heap.size = w.heap.size + 1 := by simp
  have hC : HC (w.alloc (.cells (hdC h) 23)) w.heap.size h := ⟨Blk.new _ _ _⟩
  have hB : Below w.heap.size w (w.alloc (.cells (hdC h) 23)) := (Below.refl _ _).alloc (Nat.le_refl _) _
  have hB1 : w.heap.size ≤ (w.alloc (.cells (hdC h) 23)).heap.size := by omega
  unfold hdC
  cases hbad : Us.badText h with
  | true =>
    have HN : Hid (R = (6, [])) := by show _ = _; rw [hR, Us.enc, if_pos hbad]
    have HB := Lib.hid hbad
    clear hR hbad
    go_enter Tryd.func14, Tryd.ntmps14
    go_wp2_with fail
    refine (wrongText_hid h _ hs HB).mono ?_
    rintro e w1 ⟨rfl, b1⟩
    go_wp2_with fail
    go_ret2
    exact ⟨by rw [HN.out]; rfl, hB.trans (Below.mono b1 hB1)⟩
  | false =>
    have hE : Us.enc h = match Us.split h.path with
      | none => (9, [])
      | some (pre, name) => if 100 < h.link.length then (17, []) else if Us.goodNums h then (0, Us.bytes h pre name) else (1, []) := by
      rw [Us.enc, if_neg (by simp [hbad])]; rfl
    have HB := Lib.hid hbad
    clear hbad
    cases hsp : Us.split h.path with
    | none =>
      have HN : Hid (R = (9, [])) := by show _ = _; rw [hR, hE, hsp]
      have HS : Hid (Us.split (bl (bs h.path)) = none) := hsp
      clear hR hE hsp
      go_enter Tryd.func14, Tryd.ntmps14
      go_wp2_with fail
      refine (wrongText_hid h _ hs HB).mono ?_
      rintro e w1 ⟨rfl, b1⟩
      have c0 := (hC.below b1 (by simp)).c0
      have z1 := b1.size
      go_wp2_with fail
      refine (split_hid _ _ (by have := hs.path; omega) HS).mono ?_
      unfold splitV
      rintro e w2 ⟨rfl, b2⟩
      go_wp2_with fail
      go_ret2
      exact ⟨by rw [HN.out]; rfl, (hB.trans (Below.mono b1 hB1)).trans (b2.mono (by simp at z1; omega))⟩
    | some q =>
      obtain ⟨pre, name⟩ := q
      have hlk : h.link.length = (bs h.link).size := (bs_size _).symm
      have HE : Hid (R = if 100 < (bs h.link).size then (17, []) else if Us.goodNums h then (0, Us.bytes h pre name) else (1, [])) := by show _ = _; rw [hR, hE, hsp, hlk]
      have HS : Hid (Us.split (bl (bs h.path)) = some (pre, name)) := hsp
      obtain ⟨n1, n2, _⟩ := Us.split_spec hsp
      clear hR hE hsp hlk
      by_cases hlk : 100 < (bs h.link).size
      · have HN : Hid (R = (17, [])) := by show _ = _; rw [HE.out, if_pos hlk]
        have d1 : decide ((100 : Int) < ((bs h.link).size : Int)) = true := by simp; omega
        clear HE hlk
        go_enter Tryd.func14, Tryd.ntmps14
        go_wp2_with fail
        refine (wrongText_hid h _ hs HB).mono ?_
        rintro e w1 ⟨rfl, b1⟩
        have c0 := (hC.below b1 (by simp)).c0
        have z1 := b1.size
        go_wp2_with fail
        refine (split_hid _ _ (by have := hs.path; omega) HS).mono ?_
        unfold splitV
        rintro e w2 ⟨rfl, b2⟩
        have c7 := ((hC.below b1 (by simp)).below b2 (by simp at z1; omega)).c7
        go_wp2_with fail
        go_ret2
        exact ⟨by rw [HN.out]; rfl, (hB.trans (Below.mono b1 hB1)).trans (b2.mono (by simp at z1; omega))⟩
      · have d1 : decide ((100 : Int) < ((bs h.link).size : Int)) = false := by simp; omega
        go_enter Tryd.func14, Tryd.ntmps14
        go_wp2_with fail
        refine (wrongText_hid h _ hs HB).mono ?_
        rintro e w1 ⟨rfl, b1⟩
        have c0 := (hC.below b1 (by simp)).c0
        have z1 := b1.size
        go_wp2_with fail
        refine (split_hid _ _ (by have := hs.path; omega) HS).mono ?_
        unfold splitV
        rintro e w2 ⟨rfl, b2⟩
        have hC2 := ((hC.below b1 (by simp)).below b2 (by simp at z1; omega))
        have z2 := b2.size
        have B2 : Below w.heap.size w w2 := (hB.trans (Below.mono b1 hB1)).trans (b2.mono (by simp at z1; omega))
        have hg2 := hC2.blk.lt
        clear b1 b2 c0
        have c1 := hC2.c1
        have c2 := hC2.c2
        have c3 := hC2.c3
        have c4 := hC2.c4
        have c5 := hC2.c5
        have c7 := hC2.c7
        have c10 := hC2.c10
        have c11 := hC2.c11
        have hgn := goodNums_eq h
        go_wp2_with fail
        cases hg1 : [h.mode, h.uid, h.gid, h.major, h.minor].all fun x => Us.in_ x 2097151 with
        | false =>
          have HN : Hid (R = (1, [])) := by show _ = _; rw [HE.out, if_neg hlk, if_neg (by simp [hgn, hg1])]
          refine (within_hid 2097151 [h.mode, h.uid, h.gid, h.major, h.minor] w2.heap.size 5 _ (by simp) (ints_new _ [h.mode, h.uid, h.gid, h.major, h.minor] _) hg1).mono ?_
          rintro e w3 ⟨rfl, rfl⟩
          clear hgn hg1
          go_wp2_with fail
          go_ret2
          exact ⟨by rw [HN.out]; rfl, B2.alloc (by omega) _⟩
        | true =>
          refine (within_hid 2097151 [h.mode, h.uid, h.gid, h.major, h.minor] w2.heap.size 5 _ (by simp) (ints_new _ [h.mode, h.uid, h.gid, h.major, h.minor] _) hg1).mono ?_
          rintro e w3 ⟨rfl, rfl⟩
          go_wp2_with fail
          cases hg2 : [h.size, h.time].all fun x => Us.in_ x 8589934591 with
          | false =>
            have HN : Hid (R = (1, [])) := by show _ = _; rw [HE.out, if_neg hlk, if_neg (by simp [hgn, hg1, hg2])]
            refine (within_hid 8589934591 [h.size, h.time] (w2.heap.size + 1) 2 _ (by simp) (ints_at _ [h.size, h.time] _ (w2.heap.size + 1) (by simp)) hg2).mono ?_
            rintro e w3 ⟨rfl, rfl⟩
            clear hgn hg1 hg2
            go_wp2_with fail
            go_ret2
            exact ⟨by rw [HN.out]; rfl, (B2.alloc (by omega) _).alloc (by simp; omega) _⟩
          | true =>
            have HG : Hid (Us.goodNums h = true) := by show _ = _; rw [hgn, hg1, hg2]; rfl
            have HN : Hid (R = (0, Us.bytes h pre name)) := by show _ = _; rw [HE.out, if_neg hlk, if_pos HG.out]
            obtain ⟨g, hgg⟩ : ∃ g, w2.heap.size + 1 + 1 = g := ⟨_, rfl⟩
            have HGG := Lib.hid hgg
            clear hgg
            refine (within_hid 8589934591 [h.size, h.time] (w2.heap.size + 1) 2 _ (by simp) (ints_at _ [h.size, h.time] _ (w2.heap.size + 1) (by simp)) hg2).mono ?_
            rintro e w3 ⟨rfl, rfl⟩
            clear hgn hg1 hg2 c1 c2 c3 c4 c5 c7 c10 c11
            -- THE TAIL (genenc.py)
            obtain ⟨⟨p1, q1⟩, ⟨p2, q2⟩, ⟨p3, q3⟩, ⟨p4, q4⟩, ⟨p5, q5⟩, ⟨p10, q10⟩, ⟨p11, q11⟩⟩ := good_bounds HG.out
            have hl5 : (Us.zs 512).length = 512 := Us.zs_length 512
            have hgw : w.heap.size < g := by have := HGG.out; omega
            go_wp2_with (first | (refine wpList_alloc_bytes rfl 67 512 rfl zero_block g (by simpa using HGG.out) ?_; intro w4 w5 e4 h5; have hH : HC w4 w.heap.size h := (by rw [e4.out]; exact (hC2.below ((Below.refl _ _).alloc (Nat.le_refl _) _) hg2).below ((Below.refl _ _).alloc (Nat.le_refl _) _) (by simp; omega)); have B4 : Below w.heap.size w w4 := (by rw [e4.out]; exact (B2.alloc (by omega) _).alloc (by simp; omega) _)) | (refine wpList_copy_str rfl _ _ _ _ rfl 5 Tryd.underlying42 one_u8 _ _ _ _ rfl _ rfl _ _ h5 (by rw [bs_size]; omega) (by rw [bs_size]; omega) ?_; intro w6 k6 _; obtain ⟨L6, h6, hl6, e6⟩ := bytes_named k6 hl5 (by rw [bl_length]; rw [bs_size]; omega); clear k6; have c1 := (hH.below h6.below hgw).c1))
            refine (number_int g 100 7 100 7 rfl rfl h.mode _ L6 w4 w6 hl6 h6 (by omega) p1 q1).mono ?_
            rintro e w7 ⟨rfl, L7, h7, hl7, e7⟩
            clear c1
            have c2 := (hH.below h7.below hgw).c2
            go_wp2_with fail
            refine (number_int g 108 7 108 7 rfl rfl h.uid _ L7 w4 w7 hl7 h7 (by omega) p2 q2).mono ?_
            rintro e w8 ⟨rfl, L8, h8, hl8, e8⟩
            clear c2
            have c3 := (hH.below h8.below hgw).c3
            go_wp2_with fail
            refine (number_int g 116 7 116 7 rfl rfl h.gid _ L8 w4 w8 hl8 h8 (by omega) p3 q3).mono ?_
            rintro e w9 ⟨rfl, L9, h9, hl9, e9⟩
            clear c3
            have c4 := (hH.below h9.below hgw).c4
            go_wp2_with fail
            refine (number_int g 124 11 124 11 rfl rfl h.size _ L9 w4 w9 hl9 h9 (by omega) p4 q4).mono ?_
            rintro e w10 ⟨rfl, L10, h10, hl10, e10⟩
            clear c4
            have c5 := (hH.below h10.below hgw).c5
            go_wp2_with fail
            refine (number_int g 136 11 136 11 rfl rfl h.time _ L10 w4 w10 hl10 h10 (by omega) p5 q5).mono ?_
            rintro e w11 ⟨rfl, L11, h11, hl11, e11⟩
            clear c5
            have c6 := (hH.below h11.below hgw).c6
            have c7 := (hH.below h11.below hgw).c7
            have hcT := h11.cell 156 (by omega)
            have hfT := h11.blk.frozen 156
            have k12 := h11.set_ 156 h.type
            rw [set_put _ _ _ (by omega)] at k12
            obtain ⟨L12, h12, hl12, e12⟩ := bytes_named k12 hl11 (by simp)
            clear k12
            have c7' := (hH.below h12.below hgw).c7
            go_wp2_with fail
            obtain ⟨w12, hw12⟩ : ∃ x, x = w11.setCell ⟨g, 156, none⟩ (.int .u8 (h.type.toNat : Int)) := ⟨_, rfl⟩
            rw [← hw12] at h12 c7' ⊢
            clear hw12 hcT hfT c6 c7 h11
            have z7 : (bs h.link).size ≤ 100 := by omega
            have HU31 := bad_false HB.out
            obtain ⟨u31, g31⟩ := HU31
            go_region_law (refine step_copy_str (w0 := w4) rfl _ _ _ _ rfl 5 Tryd.underlying42 one_u8 _ _ _ _ rfl _ rfl 67 L12 (by first | exact h12 | exact h12.drew) (by omega) (by omega) ?_; intro w13 k13 _; obtain ⟨L13, h13, hl13, e13⟩ := bytes_named k13 hl12 (by rw [bl_length]; omega); clear k13)
            go_wp2_with (refine wpList_copy_str rfl _ _ _ _ rfl 5 Tryd.underlying42 one_u8 _ _ _ _ rfl _ rfl _ _ h13 (by decide) (by rw [hl13]; decide) ?_; intro w14 k14 _; obtain ⟨L14, h14, hl14, e14⟩ := bytes_named k14 hl13 (by decide); clear k14; have c8 := (hH.below h14.below hgw).c8)
            go_region_law (refine step_copy_str (w0 := w4) rfl _ _ _ _ rfl 5 Tryd.underlying42 one_u8 _ _ _ _ rfl _ rfl 67 L14 (by first | exact h14 | exact h14.drew) (by omega) (by omega) ?_; intro w15 k15 _; obtain ⟨L15, h15, hl15, e15⟩ := bytes_named k15 hl14 (by rw [bl_length]; omega); clear k15)
            have c9 := (hH.below h15.below hgw).c9
            go_wp2_with fail
            go_region_law (refine step_copy_str (w0 := w4) rfl _ _ _ _ rfl 5 Tryd.underlying42 one_u8 _ _ _ _ rfl _ rfl 67 L15 (by first | exact h15 | exact h15.drew) (by omega) (by omega) ?_; intro w16 k16 _; obtain ⟨L16, h16, hl16, e16⟩ := bytes_named k16 hl15 (by rw [bl_length]; omega); clear k16)
            have c10 := (hH.below h16.below hgw).c10
            go_wp2_with fail
            refine (number_int g 329 7 329 7 rfl rfl h.major _ L16 w4 w16 hl16 h16 (by omega) p10 q10).mono ?_
            rintro e w17 ⟨rfl, L17, h17, hl17, e17⟩
            clear c10
            have c11 := (hH.below h17.below hgw).c11
            go_wp2_with fail
            refine (number_int g 337 7 337 7 rfl rfl h.minor _ L17 w4 w17 hl17 h17 (by omega) p11 q11).mono ?_
            rintro e w18 ⟨rfl, L18, h18, hl18, e18⟩
            clear c11
            go_wp2_with (refine wpList_copy_str rfl _ _ _ _ rfl 5 Tryd.underlying42 one_u8 _ _ _ _ rfl _ rfl _ _ h18 (by rw [bs_size]; omega) (by rw [bs_size]; omega) ?_; intro w19 k19 _; obtain ⟨L19, h19, hl19, e19⟩ := bytes_named k19 hl18 (by rw [bl_length]; rw [bs_size]; omega); clear k19)
            refine (blockSum_any g _ L19 w4 w19 hl19 h19).mono ?_
            rintro e w20 ⟨rfl, h20⟩
            have hl20 := hl19
            have hsle : (Us.sumFrom 0 L19 : Nat) ≤ 255 * 512 := by rw [← hl19]; exact Us.sumFrom_le L19 0
            obtain ⟨S, hS⟩ : ∃ S, S = Us.sumFrom 0 L19 := ⟨_, rfl⟩
            rw [← hS] at hsle ⊢
            have HS2 := Lib.hid hS
            clear hS
            go_wp2_with fail
            refine (number_int g 148 6 148 6 rfl rfl (S : Int) _ L19 w4 w20 hl19 h20 (by omega) (by omega) (by omega)).mono ?_
            rintro e w21 ⟨rfl, L21, h21, hl21, e21⟩
            go_wp2_with (refine wpList_copy_str rfl _ _ _ _ rfl 5 Tryd.underlying42 one_u8 _ _ _ _ rfl _ rfl _ _ h21 (by decide) (by rw [hl21]; decide) ?_; intro w22 k22 _; obtain ⟨L22, h22, hl22, e22⟩ := bytes_named k22 hl21 (by decide); clear k22; have hcv := run_str_bytes Tryd.underlying42 Tryd.underlying5 h22 512 (by omega) 512 9 Tryd.underlying9)
            go_ret2
            have hL : L19 = Us.laid h pre name := by rw [e19.out, e18.out, e17.out, e16.out, e15.out, e14.out, e13.out, e12.out, e11.out, e10.out, e9.out, e8.out, e7.out, e6.out]; rfl
            have hF : L22 = Us.bytes h pre name := by
              rw [e22.out, e21.out, Int.toNat_natCast, HS2.out, hL, ← Us.bytes_laid h pre name n1 (by rw [← bs_size]; omega) (by rw [← bs_size]; omega) (by rw [← bs_size]; omega) n2]
              rfl
            exact ⟨by rw [HN.out, ← hF]; rfl, B4.trans (h22.below.mono (by omega))⟩
end Go.Proofs.YtfhfahlocpmdkaaDoor
