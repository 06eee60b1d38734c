/- strataref05.Encode, walked: it answers what Us.enc tells. (Printed by wip/genref.py.) -/
import Derived.Test.YtfhfahlocpmdkaaDoorUsH
import Derived.Test.YtfhfahlocpmdkaaDoorRely
import Derived.Deep.RegionHeld3
import Derived.Deep.DeepCutAuto
import Derived.Deep.DrawnRows
namespace Go.Proofs.YtfhfahlocpmdkaaDoor
open Go.RowKit
attribute [local go_sem ↓] Go.wp_at_zero Go.wp_at_succ

theorem nought_hid (l : List UInt8) (w : World) (hs : (bs l).size ≤ 1000000000000) {b : Bool} (h : Us.has0 l = b) : Calls Tryd.prog 34 #[.string (bs l)] w fun e w' => e = .returned (.bool b) ∧ w = w' := by
  have := nought_any (bs l) w hs
  rwa [bl_bs, h] at this
theorem in_hid (x most : Int) (w : World) {b : Bool} (h : Us.in_ x most = b) : Calls Tryd.prog 36 #[.int .i64 x, .int .i64 most] w fun e w' => e = .returned (.bool b) ∧ w = w' := by
  have := in_any x most w
  rwa [h] at this
theorem refSplit_hid (p : ByteArray) (w : World) (hp : p.size ≤ 1000000000000) {U : Option (List UInt8 × List UInt8)} (h : Hid (Us.split (bl p) = U)) : Calls Tryd.prog 35 #[.string p] w fun e w' => e = .returned (splitR U) ∧ Below w.heap.size w w' := by
  have := refSplit_any p w hp
  rwa [h.out] at this
theorem encSum_hid (s : ByteArray) (w : World) (hs : s.size ≤ 1000000000) {i : Int} (h : Hid (i = (Us.sumFrom 0 (bl s) : Nat))) : Calls Tryd.prog 39 #[.string s] w fun e w' => e = .returned (.int .i64 i) ∧ w = w' := by
  have := refSum_any s w (by omega)
  rwa [← h.out] at this
theorem sum_sp (A B : List UInt8) (hA : A.length = 148) : Us.sumFrom 0 (A ++ [32, 32, 32, 32, 32, 32, 32, 32] ++ B) = Us.sumFrom 0 (A ++ Us.zs 8 ++ B) := by
  have z : (Us.zs 8).length = 8 := rfl
  simp only [Us.sumFrom_append, List.length_append, hA, z, List.length_cons, List.length_nil]
  rw [Us.sumFrom_field [32, 32, 32, 32, 32, 32, 32, 32] (Us.zs 8) (0 + 148) rfl (by omega) (by simp)]
theorem ends_o (h : Us.Hd) (pre name : List UInt8) {o7 o8 : ByteArray} {i : Int} (e7 : o7 = bs (Us.ahead h name)) (e8 : o8 = bs (Us.behind h pre)) (hi : i = (Us.sumFrom 0 (bl (o7 ++ ⟨#[32, 32, 32, 32, 32, 32, 32, 32]⟩ ++ o8)) : Nat)) :
    o7 ++ oS 6 i.toNat ++ ⟨#[0, 32]⟩ ++ o8 = bs (Us.bytes h pre name) := by
  have z : (⟨#[0, 32]⟩ : ByteArray) = bs [0, 32] := rfl
  have z2 : (⟨#[32, 32, 32, 32, 32, 32, 32, 32]⟩ : ByteArray) = bs [32, 32, 32, 32, 32, 32, 32, 32] := rfl
  rw [e7, e8, z2, bs_append, bs_append, bl_bs, sum_sp _ _ (Us.ahead_length h name)] at hi
  rw [e7, e8, z, hi, Int.toNat_natCast]
  simp only [oS, bs_append, Us.bytes, List.append_assoc]
/-- what each operation of the region yields. -/
def VV (h : Us.Hd) (pre : List UInt8) (b : Nat) : Nat → Value → World → Prop
  | 0, v, _ => v = .pointer (some ⟨b, 6, none⟩)
  | 1, v, _ => v = .int .u8 (h.type.toNat : Int)
  | 2, v, wx => ∃ g, v = .slice (some ⟨g, 0, none⟩) 1 1 ∧ One wx g h.type
  | 3, v, _ => v = .string (tS h.type)
  | 4, v, _ => v = .pointer (some ⟨b, 7, none⟩)
  | 5, v, _ => v = .string (bs h.link)
  | 6, v, _ => v = .string (fS 100 (bs h.link))
  | 7, v, _ => v = .string (tS h.type ++ fS 100 (bs h.link))
  | 8, v, _ => v = .string (tS h.type ++ fS 100 (bs h.link) ++ ⟨#[117, 115, 116, 97, 114, 0, 48, 48]⟩)
  | 9, v, _ => v = .pointer (some ⟨b, 8, none⟩)
  | 10, v, _ => v = .string (bs h.user)
  | 11, v, _ => v = .string (fS 32 (bs h.user))
  | 12, v, _ => v = .string (tS h.type ++ fS 100 (bs h.link) ++ ⟨#[117, 115, 116, 97, 114, 0, 48, 48]⟩ ++ fS 32 (bs h.user))
  | 13, v, _ => v = .pointer (some ⟨b, 9, none⟩)
  | 14, v, _ => v = .string (bs h.group)
  | 15, v, _ => v = .string (fS 32 (bs h.group))
  | 16, v, _ => v = .string (tS h.type ++ fS 100 (bs h.link) ++ ⟨#[117, 115, 116, 97, 114, 0, 48, 48]⟩ ++ fS 32 (bs h.user) ++ fS 32 (bs h.group))
  | 17, v, _ => v = .pointer (some ⟨b, 10, none⟩)
  | 18, v, _ => v = .int .i64 h.major
  | 19, v, _ => v = .string (oS 7 h.major.toNat)
  | 20, v, _ => v = .string (tS h.type ++ fS 100 (bs h.link) ++ ⟨#[117, 115, 116, 97, 114, 0, 48, 48]⟩ ++ fS 32 (bs h.user) ++ fS 32 (bs h.group) ++ oS 7 h.major.toNat)
  | 21, v, _ => v = .string (tS h.type ++ fS 100 (bs h.link) ++ ⟨#[117, 115, 116, 97, 114, 0, 48, 48]⟩ ++ fS 32 (bs h.user) ++ fS 32 (bs h.group) ++ oS 7 h.major.toNat ++ ⟨#[0]⟩)
  | 22, v, _ => v = .pointer (some ⟨b, 11, none⟩)
  | 23, v, _ => v = .int .i64 h.minor
  | 24, v, _ => v = .string (oS 7 h.minor.toNat)
  | 25, v, _ => v = .string (tS h.type ++ fS 100 (bs h.link) ++ ⟨#[117, 115, 116, 97, 114, 0, 48, 48]⟩ ++ fS 32 (bs h.user) ++ fS 32 (bs h.group) ++ oS 7 h.major.toNat ++ ⟨#[0]⟩ ++ oS 7 h.minor.toNat)
  | 26, v, _ => v = .string (tS h.type ++ fS 100 (bs h.link) ++ ⟨#[117, 115, 116, 97, 114, 0, 48, 48]⟩ ++ fS 32 (bs h.user) ++ fS 32 (bs h.group) ++ oS 7 h.major.toNat ++ ⟨#[0]⟩ ++ oS 7 h.minor.toNat ++ ⟨#[0]⟩)
  | 27, v, _ => v = .string (bs pre)
  | 28, v, _ => v = .string (fS 155 (bs pre))
  | 29, v, _ => v = .string (tS h.type ++ fS 100 (bs h.link) ++ ⟨#[117, 115, 116, 97, 114, 0, 48, 48]⟩ ++ fS 32 (bs h.user) ++ fS 32 (bs h.group) ++ oS 7 h.major.toNat ++ ⟨#[0]⟩ ++ oS 7 h.minor.toNat ++ ⟨#[0]⟩ ++ fS 155 (bs pre))
  | 30, v, _ => v = .string (fS 12 ⟨#[]⟩)
  | 31, v, _ => v = .string (tS h.type ++ fS 100 (bs h.link) ++ ⟨#[117, 115, 116, 97, 114, 0, 48, 48]⟩ ++ fS 32 (bs h.user) ++ fS 32 (bs h.group) ++ oS 7 h.major.toNat ++ ⟨#[0]⟩ ++ oS 7 h.minor.toNat ++ ⟨#[0]⟩ ++ fS 155 (bs pre) ++ fS 12 ⟨#[]⟩)
  | 32, v, _ => v = .string (tS h.type ++ fS 100 (bs h.link) ++ ⟨#[117, 115, 116, 97, 114, 0, 48, 48]⟩ ++ fS 32 (bs h.user) ++ fS 32 (bs h.group) ++ oS 7 h.major.toNat ++ ⟨#[0]⟩ ++ oS 7 h.minor.toNat ++ ⟨#[0]⟩ ++ fS 155 (bs pre) ++ fS 12 ⟨#[]⟩)
  | _, _, _ => True
theorem VV.keep {h : Us.Hd} {pre : List UInt8} {b : Nat} {w w' : World} (hb : Below w.heap.size w w') : ∀ (j : Nat) (u : Value), VV h pre b j u w → VV h pre b j u w' := fun j u hv => by
  by_cases hj : j = 2
  · subst hj
    obtain ⟨g, e, h1⟩ := hv
    exact ⟨g, e, One.keep hb h1⟩
  · unfold VV at hv ⊢
    split at hv <;> first | exact hv | exact absurd rfl hj | trivial
set_option maxRecDepth 100000 in
set_option maxHeartbeats 8000000 in
theorem refEncode_any (h : Us.Hd) (w : World) (hs : Short h) :
    Calls Tryd.prog 13 #[.agg (hdC h)] w fun e w' => e = .returned (.tuple #[.string (bs (Us.enc h).2), .int .i64 ((Us.enc h).1 : Nat)]) ∧ Below w.heap.size w w' := by
  obtain ⟨R, hR⟩ : ∃ R, R = Us.enc h := ⟨_, rfl⟩
  rw [← hR]
  have HR := Lib.hid hR
  clear hR
  obtain ⟨s1, s2, s3, s4⟩ := hs
  have hC : HC (w.alloc (.cells (hdC h) 23)) w.heap.size h := ⟨Blk.new _ _ _⟩
  have hB : Below w.heap.size w (w.alloc (.cells (hdC h) 23)) := (Below.refl _ _).alloc (Nat.le_refl _) _
  unfold hdC
  go_enter Tryd.func13, Tryd.ntmps13
  go_wp2_with fail
  cases b1 : Us.has0 h.path with
  | true =>
    refine (nought_hid h.path _ (by omega) b1).mono ?_
    rintro e w1 ⟨rfl, rfl⟩
    have HN : Hid (R = (6, [])) := by show _ = _; rw [HR.out, Us.enc, if_pos (by simp [Us.badText, b1])]
    clear b1
    go_wp2_with fail
    go_ret2
    exact ⟨by rw [HN.out]; rfl, hB⟩
  | false =>
    refine (nought_hid h.path _ (by omega) b1).mono ?_
    rintro e w1 ⟨rfl, rfl⟩
    go_wp2_with fail
    cases b2 : Us.has0 h.link with
    | true =>
      refine (nought_hid h.link _ (by omega) b2).mono ?_
      rintro e w1 ⟨rfl, rfl⟩
      have HN : Hid (R = (6, [])) := by show _ = _; rw [HR.out, Us.enc, if_pos (by simp [Us.badText, b2])]
      clear b2
      go_wp2_with fail
      go_ret2
      exact ⟨by rw [HN.out]; rfl, hB⟩
    | false =>
      refine (nought_hid h.link _ (by omega) b2).mono ?_
      rintro e w1 ⟨rfl, rfl⟩
      go_wp2_with fail
      cases b3 : Us.has0 h.user with
      | true =>
        refine (nought_hid h.user _ (by omega) b3).mono ?_
        rintro e w1 ⟨rfl, rfl⟩
        have HN : Hid (R = (6, [])) := by show _ = _; rw [HR.out, Us.enc, if_pos (by simp [Us.badText, b3])]
        clear b3
        go_wp2_with fail
        go_ret2
        exact ⟨by rw [HN.out]; rfl, hB⟩
      | false =>
        refine (nought_hid h.user _ (by omega) b3).mono ?_
        rintro e w1 ⟨rfl, rfl⟩
        go_wp2_with fail
        cases b4 : Us.has0 h.group with
        | true =>
          refine (nought_hid h.group _ (by omega) b4).mono ?_
          rintro e w1 ⟨rfl, rfl⟩
          have HN : Hid (R = (6, [])) := by show _ = _; rw [HR.out, Us.enc, if_pos (by simp [Us.badText, b4])]
          clear b4
          go_wp2_with fail
          go_ret2
          exact ⟨by rw [HN.out]; rfl, hB⟩
        | false =>
          refine (nought_hid h.group _ (by omega) b4).mono ?_
          rintro e w1 ⟨rfl, rfl⟩
          by_cases c1 : 31 < (bs h.user).size
          · have dc1 : decide ((31 : Int) < ((bs h.user).size : Int)) = true := by simp; omega
            rw [bs_size] at c1
            have HN : Hid (R = (6, [])) := by show _ = _; rw [HR.out, Us.enc, if_pos (by simp [Us.badText, c1])]
            clear c1
            go_wp2_with fail
            go_ret2
            exact ⟨by rw [HN.out]; rfl, hB⟩
          · have dc1 : decide ((31 : Int) < ((bs h.user).size : Int)) = false := by simp; omega
            by_cases c2 : 31 < (bs h.group).size
            · have dc2 : decide ((31 : Int) < ((bs h.group).size : Int)) = true := by simp; omega
              rw [bs_size] at c2
              have HN : Hid (R = (6, [])) := by show _ = _; rw [HR.out, Us.enc, if_pos (by simp [Us.badText, c2])]
              clear c2
              go_wp2_with fail
              go_ret2
              exact ⟨by rw [HN.out]; rfl, hB⟩
            · have dc2 : decide ((31 : Int) < ((bs h.group).size : Int)) = false := by simp; omega
              have hbad : Us.badText h = false := by rw [bs_size] at c1 c2; simp [Us.badText, b1, b2, b3, b4]; omega
              have HE : Hid (R = match Us.split h.path with
                  | none => (9, [])
                  | some (pre, name) => if 100 < h.link.length then (17, []) else if Us.goodNums h then (0, Us.bytes h pre name) else (1, [])) := by
                show _ = _
                rw [HR.out, Us.enc, if_neg (by simp [hbad])]; rfl
              clear HR b1 b2 b3 b4 hbad
              go_wp2_with fail
              cases hsp : Us.split h.path with
              | none =>
                have HN : Hid (R = (9, [])) := by show _ = _; rw [HE.out, hsp]
                have HS : Hid (Us.split (bl (bs h.path)) = none) := hsp
                clear HE hsp
                refine (refSplit_hid _ _ (by omega) HS).mono ?_
                unfold splitR
                rintro e w1 ⟨rfl, q1⟩
                go_wp2_with fail
                go_ret2
                exact ⟨by rw [HN.out]; rfl, hB.trans (q1.mono (by simp))⟩
              | some q =>
                obtain ⟨pre, name⟩ := q
                have hlk0 : h.link.length = (bs h.link).size := (bs_size _).symm
                have HN0 : Hid (R = if 100 < (bs h.link).size then (17, []) else if Us.goodNums h then (0, Us.bytes h pre name) else (1, [])) := by show _ = _; rw [HE.out, hsp, ← hlk0]
                have HS : Hid (Us.split (bl (bs h.path)) = some (pre, name)) := hsp
                have HP := Lib.hid (Us.split_spec hsp)
                clear HE hsp hlk0
                refine (refSplit_hid _ _ (by omega) HS).mono ?_
                unfold splitR
                rintro e w1 ⟨rfl, q1⟩
                obtain ⟨hH, hB⟩ := carry hC hB q1
                clear hC q1
                have c7 := hH.c7
                by_cases hlk : 100 < (bs h.link).size
                · have d1 : decide ((100 : Int) < ((bs h.link).size : Int)) = true := by simp; omega
                  have HN : Hid (R = (17, [])) := by show _ = _; rw [HN0.out, if_pos hlk]
                  clear HN0 hlk
                  go_wp2_with fail
                  go_ret2
                  exact ⟨by rw [HN.out]; rfl, hB⟩
                · have d1 : decide ((100 : Int) < ((bs h.link).size : Int)) = false := by simp; omega
                  have HG0 : Hid (R = if Us.goodNums h then (0, Us.bytes h pre name) else (1, [])) := by show _ = _; rw [HN0.out, if_neg hlk]
                  have hlk2 : (bs h.link).size ≤ 100 := by omega
                  clear HN0 hlk
                  have c1 := hH.c1
                  have c2 := hH.c2
                  have c3 := hH.c3
                  have c4 := hH.c4
                  have c5 := hH.c5
                  have c10 := hH.c10
                  have c11 := hH.c11
                  go_wp2_with fail
                  cases n0 : Us.in_ h.mode 2097151 with
                  | false =>
                    refine (in_hid h.mode 2097151 _ n0).mono ?_
                    rintro e w2 ⟨rfl, rfl⟩
                    have HN : Hid (R = (1, [])) := by show _ = _; rw [HG0.out, if_neg (by simp [Us.goodNums, n0])]
                    clear n0
                    go_wp2_with fail
                    go_ret2
                    exact ⟨by rw [HN.out]; rfl, hB⟩
                  | true =>
                    refine (in_hid h.mode 2097151 _ n0).mono ?_
                    rintro e w2 ⟨rfl, rfl⟩
                    go_wp2_with fail
                    cases n1 : Us.in_ h.uid 2097151 with
                    | false =>
                      refine (in_hid h.uid 2097151 _ n1).mono ?_
                      rintro e w2 ⟨rfl, rfl⟩
                      have HN : Hid (R = (1, [])) := by show _ = _; rw [HG0.out, if_neg (by simp [Us.goodNums, n1])]
                      clear n0 n1
                      go_wp2_with fail
                      go_ret2
                      exact ⟨by rw [HN.out]; rfl, hB⟩
                    | true =>
                      refine (in_hid h.uid 2097151 _ n1).mono ?_
                      rintro e w2 ⟨rfl, rfl⟩
                      go_wp2_with fail
                      cases n2 : Us.in_ h.gid 2097151 with
                      | false =>
                        refine (in_hid h.gid 2097151 _ n2).mono ?_
                        rintro e w2 ⟨rfl, rfl⟩
                        have HN : Hid (R = (1, [])) := by show _ = _; rw [HG0.out, if_neg (by simp [Us.goodNums, n2])]
                        clear n0 n1 n2
                        go_wp2_with fail
                        go_ret2
                        exact ⟨by rw [HN.out]; rfl, hB⟩
                      | true =>
                        refine (in_hid h.gid 2097151 _ n2).mono ?_
                        rintro e w2 ⟨rfl, rfl⟩
                        go_wp2_with fail
                        cases n3 : Us.in_ h.major 2097151 with
                        | false =>
                          refine (in_hid h.major 2097151 _ n3).mono ?_
                          rintro e w2 ⟨rfl, rfl⟩
                          have HN : Hid (R = (1, [])) := by show _ = _; rw [HG0.out, if_neg (by simp [Us.goodNums, n3])]
                          clear n0 n1 n2 n3
                          go_wp2_with fail
                          go_ret2
                          exact ⟨by rw [HN.out]; rfl, hB⟩
                        | true =>
                          refine (in_hid h.major 2097151 _ n3).mono ?_
                          rintro e w2 ⟨rfl, rfl⟩
                          go_wp2_with fail
                          cases n4 : Us.in_ h.minor 2097151 with
                          | false =>
                            refine (in_hid h.minor 2097151 _ n4).mono ?_
                            rintro e w2 ⟨rfl, rfl⟩
                            have HN : Hid (R = (1, [])) := by show _ = _; rw [HG0.out, if_neg (by simp [Us.goodNums, n4])]
                            clear n0 n1 n2 n3 n4
                            go_wp2_with fail
                            go_ret2
                            exact ⟨by rw [HN.out]; rfl, hB⟩
                          | true =>
                            refine (in_hid h.minor 2097151 _ n4).mono ?_
                            rintro e w2 ⟨rfl, rfl⟩
                            go_wp2_with fail
                            cases n5 : Us.in_ h.size 8589934591 with
                            | false =>
                              refine (in_hid h.size 8589934591 _ n5).mono ?_
                              rintro e w2 ⟨rfl, rfl⟩
                              have HN : Hid (R = (1, [])) := by show _ = _; rw [HG0.out, if_neg (by simp [Us.goodNums, n5])]
                              clear n0 n1 n2 n3 n4 n5
                              go_wp2_with fail
                              go_ret2
                              exact ⟨by rw [HN.out]; rfl, hB⟩
                            | true =>
                              refine (in_hid h.size 8589934591 _ n5).mono ?_
                              rintro e w2 ⟨rfl, rfl⟩
                              go_wp2_with fail
                              cases n6 : Us.in_ h.time 8589934591 with
                              | false =>
                                refine (in_hid h.time 8589934591 _ n6).mono ?_
                                rintro e w2 ⟨rfl, rfl⟩
                                have HN : Hid (R = (1, [])) := by show _ = _; rw [HG0.out, if_neg (by simp [Us.goodNums, n6])]
                                clear n0 n1 n2 n3 n4 n5 n6
                                go_wp2_with fail
                                go_ret2
                                exact ⟨by rw [HN.out]; rfl, hB⟩
                              | true =>
                                refine (in_hid h.time 8589934591 _ n6).mono ?_
                                rintro e w2 ⟨rfl, rfl⟩
                                have hgn : Us.goodNums h = true := by simp [Us.goodNums, n0, n1, n2, n3, n4, n5, n6]
                                have HN : Hid (R = (0, Us.bytes h pre name)) := by show _ = _; rw [HG0.out, if_pos hgn]
                                obtain ⟨⟨p1, q1⟩, ⟨p2, q2⟩, ⟨p3, q3⟩, ⟨p4, q4⟩, ⟨p5, q5⟩, ⟨p10, q10⟩, ⟨p11, q11⟩⟩ := good_bounds hgn
                                clear HG0 hgn n0 n1 n2 n3 n4 n5 n6 c1 c2 c3 c4 c5 c7 c10 c11
                                go_wp2_with fail
                                have hos := oS_size
                                have hfs := fS_size
                                go_upto_region 10 with fail
                                go_cut [7] (fun s7 wx => ∃ o : ByteArray, s7 = .string o ∧ (o.size = 148 ∧ Hid (o = bs (Us.ahead h name))) ∧ HC wx w.heap.size h ∧ Below w.heap.size w wx)
                                case first =>
                                  go_region_held3 (fun w' => w'.cell? ⟨w.heap.size, 1, none⟩ = some (.int .i64 h.mode) ∧ w'.cell? ⟨w.heap.size, 2, none⟩ = some (.int .i64 h.uid) ∧ w'.cell? ⟨w.heap.size, 3, none⟩ = some (.int .i64 h.gid) ∧ w'.cell? ⟨w.heap.size, 4, none⟩ = some (.int .i64 h.size) ∧ w'.cell? ⟨w.heap.size, 5, none⟩ = some (.int .i64 h.time)) (exact ⟨hH.c1, hH.c2, hH.c3, hH.c4, hH.c5⟩) (first | (go_at_call 37; (first | (with_reducible refine (filled_100 _ _).mono ?_) | (with_reducible refine (filled_32 _ _).mono ?_) | (with_reducible refine (filled_155 _ _).mono ?_) | (with_reducible refine (filled_12 _ _).mono ?_)); rintro e w2 ⟨rfl, hb0⟩; obtain ⟨hH, hB⟩ := carry3 hb0 (by have q := hH.blk; exact ⟨q⟩) (by first | exact hB | exact hB.drew)) | (go_at_call 38; (first | (with_reducible refine (octal_7 _ _ (by omega) (by omega)).mono ?_) | (with_reducible refine (octal_11 _ _ (by omega) (by omega)).mono ?_)); rintro e w2 ⟨rfl, hb0⟩; obtain ⟨hH, hB⟩ := carry3 hb0 (by have q := hH.blk; exact ⟨q⟩) (by first | exact hB | exact hB.drew)))
                                  go_wp2_with fail
                                  go_meet
                                  exact ⟨_, rfl, named (ahead_o h name) (ahead_sz h name), hH, hB⟩
                                case rest =>
                                  clear hH hB
                                  obtain ⟨o7, rfl, ⟨z7, E7⟩, hH, hB⟩ := hcut
                                  have hts := tS_size
                                  have cnow := conv_now
                                  have cdrew := conv_drew
                                  go_upto_region 11 with fail
                                  go_cut [8] (fun s8 wx => ∃ o : ByteArray, s8 = .string o ∧ (o.size = 356 ∧ Hid (o = bs (Us.behind h pre))) ∧ Below w.heap.size w wx)
                                  case first =>
                                    refine' wp_region_rely (fun wx => HC wx w.heap.size h ∧ Below w.heap.size w wx) (VV h pre w.heap.size) ?F ?hF (by kernel_rfl) (by kernel_rfl) (by kernel_rfl) ⟨by have q := hH.blk; exact ⟨q⟩, hB.drew⟩ ?hsteps ?hQ
                                    case hF =>
                                      intro xs
                                      refine (frameX_eq _ _ _).trans ?_
                                      simp only [frameL, Act.put, List.setIfInBounds_toArray, List.set_cons_zero, List.set_cons_succ, Nat.reduceAdd, Nat.zero_add]
                                      exact rfl
                                    case hsteps =>
                                      clear hH hB
                                      refine Steps.cons (n := []) (k := 1) rfl (by kernel_rfl) (fun xs wx hS hV K hK => ?_) ?_
                                      · skip
                                        obtain ⟨hH, hB⟩ := hS
                                        clear hV
                                        go_simp
                                        exact hK.out _ _ ⟨hH, hB⟩ rfl (fun _ _ h => h)
                                      refine Steps.cons (n := [0]) (k := 2) rfl (by kernel_rfl) (fun xs wx hS hV K hK => ?_) ?_
                                      · skip
                                        obtain ⟨hH, hB⟩ := hS
                                        obtain ⟨d0, -⟩ := hV
                                        replace d0 : xs 0 = .pointer (some ⟨w.heap.size, 6, none⟩) := d0
                                        rw [d0] at hK ⊢
                                        have c := hH.c6
                                        go_simp
                                        exact hK.out _ _ ⟨hH, hB⟩ rfl (fun _ _ h => h)
                                      refine Steps.cons (n := [1]) (k := 3) rfl (by kernel_rfl) (fun xs wx hS hV K hK => ?_) ?_
                                      · skip
                                        obtain ⟨hH, hB⟩ := hS
                                        obtain ⟨d1, -⟩ := hV
                                        replace d1 : xs 1 = .int .u8 (h.type.toNat : Int) := d1
                                        rw [d1] at hK ⊢
                                        go_simp
                                        obtain ⟨hH1, hB1⟩ := carry_alloc hH hB (.cells #[.int .u8 (h.type.toNat : Int)] 5)
                                        exact hK.out _ _ ⟨hH1, hB1⟩ ⟨_, rfl, One.new (Below.refl _ _)⟩ (VV.keep ((Below.refl _ _).alloc (Nat.le_refl _) _))
                                      refine Steps.cons (n := [2]) (k := 4) rfl (by kernel_rfl) (fun xs wx hS hV K hK => ?_) ?_
                                      · skip
                                        obtain ⟨hH, hB⟩ := hS
                                        obtain ⟨⟨g, d2, hone⟩, -⟩ := hV
                                        rw [d2] at hK ⊢
                                        have hcv := One.conv hone
                                        go_simp
                                        exact hK.out _ _ ⟨hH, hB⟩ rfl (fun _ _ h => h)
                                      refine Steps.cons (n := []) (k := 5) rfl (by kernel_rfl) (fun xs wx hS hV K hK => ?_) ?_
                                      · skip
                                        obtain ⟨hH, hB⟩ := hS
                                        clear hV
                                        go_simp
                                        exact hK.out _ _ ⟨hH, hB⟩ rfl (fun _ _ h => h)
                                      refine Steps.cons (n := [4]) (k := 6) rfl (by kernel_rfl) (fun xs wx hS hV K hK => ?_) ?_
                                      · skip
                                        obtain ⟨hH, hB⟩ := hS
                                        obtain ⟨d4, -⟩ := hV
                                        replace d4 : xs 4 = .pointer (some ⟨w.heap.size, 7, none⟩) := d4
                                        rw [d4] at hK ⊢
                                        have c := hH.c7
                                        go_simp
                                        exact hK.out _ _ ⟨hH, hB⟩ rfl (fun _ _ h => h)
                                      refine Steps.cons (n := [5]) (k := 7) rfl (by kernel_rfl) (fun xs wx hS hV K hK => ?_) ?_
                                      · skip
                                        obtain ⟨hH, hB⟩ := hS
                                        obtain ⟨d5, -⟩ := hV
                                        replace d5 : xs 5 = .string (bs h.link) := d5
                                        rw [d5] at hK ⊢
                                        go_simp; (go_at_call 37; (first | (with_reducible refine (filled_100 _ _).mono ?_) | (with_reducible refine (filled_32 _ _).mono ?_) | (with_reducible refine (filled_155 _ _).mono ?_) | (with_reducible refine (filled_12 _ _).mono ?_)); rintro e w2 ⟨rfl, hb0⟩; obtain ⟨hH1, hB1⟩ := carry3 hb0 hH hB)
                                        exact hK.out _ _ ⟨hH1, hB1⟩ rfl (VV.keep hb0)
                                      refine Steps.cons (n := [3, 6]) (k := 8) rfl (by kernel_rfl) (fun xs wx hS hV K hK => ?_) ?_
                                      · skip
                                        obtain ⟨hH, hB⟩ := hS
                                        obtain ⟨d3, d6, -⟩ := hV
                                        replace d3 : xs 3 = .string (tS h.type) := d3
                                        replace d6 : xs 6 = .string (fS 100 (bs h.link)) := d6
                                        rw [d3, d6] at hK ⊢
                                        go_simp
                                        exact hK.out _ _ ⟨hH, hB⟩ rfl (fun _ _ h => h)
                                      refine Steps.cons (n := [7]) (k := 9) rfl (by kernel_rfl) (fun xs wx hS hV K hK => ?_) ?_
                                      · skip
                                        obtain ⟨hH, hB⟩ := hS
                                        obtain ⟨d7, -⟩ := hV
                                        replace d7 : xs 7 = .string (tS h.type ++ fS 100 (bs h.link)) := d7
                                        rw [d7] at hK ⊢
                                        go_simp
                                        exact hK.out _ _ ⟨hH, hB⟩ rfl (fun _ _ h => h)
                                      refine Steps.cons (n := []) (k := 10) rfl (by kernel_rfl) (fun xs wx hS hV K hK => ?_) ?_
                                      · skip
                                        obtain ⟨hH, hB⟩ := hS
                                        clear hV
                                        go_simp
                                        exact hK.out _ _ ⟨hH, hB⟩ rfl (fun _ _ h => h)
                                      refine Steps.cons (n := [9]) (k := 11) rfl (by kernel_rfl) (fun xs wx hS hV K hK => ?_) ?_
                                      · skip
                                        obtain ⟨hH, hB⟩ := hS
                                        obtain ⟨d9, -⟩ := hV
                                        replace d9 : xs 9 = .pointer (some ⟨w.heap.size, 8, none⟩) := d9
                                        rw [d9] at hK ⊢
                                        have c := hH.c8
                                        go_simp
                                        exact hK.out _ _ ⟨hH, hB⟩ rfl (fun _ _ h => h)
                                      refine Steps.cons (n := [10, 6]) (k := 12) rfl (by kernel_rfl) (fun xs wx hS hV K hK => ?_) ?_
                                      · skip
                                        obtain ⟨hH, hB⟩ := hS
                                        obtain ⟨d10, d6, -⟩ := hV
                                        replace d10 : xs 10 = .string (bs h.user) := d10
                                        replace d6 : xs 6 = .string (fS 100 (bs h.link)) := d6
                                        rw [d10, d6] at hK ⊢
                                        go_simp; (go_at_call 37; (first | (with_reducible refine (filled_100 _ _).mono ?_) | (with_reducible refine (filled_32 _ _).mono ?_) | (with_reducible refine (filled_155 _ _).mono ?_) | (with_reducible refine (filled_12 _ _).mono ?_)); rintro e w2 ⟨rfl, hb0⟩; obtain ⟨hH1, hB1⟩ := carry3 hb0 hH hB)
                                        exact hK.out _ _ ⟨hH1, hB1⟩ rfl (VV.keep hb0)
                                      refine Steps.cons (n := [8, 11]) (k := 13) rfl (by kernel_rfl) (fun xs wx hS hV K hK => ?_) ?_
                                      · skip
                                        obtain ⟨hH, hB⟩ := hS
                                        obtain ⟨d8, d11, -⟩ := hV
                                        replace d8 : xs 8 = .string (tS h.type ++ fS 100 (bs h.link) ++ ⟨#[117, 115, 116, 97, 114, 0, 48, 48]⟩) := d8
                                        replace d11 : xs 11 = .string (fS 32 (bs h.user)) := d11
                                        rw [d8, d11] at hK ⊢
                                        go_simp
                                        exact hK.out _ _ ⟨hH, hB⟩ rfl (fun _ _ h => h)
                                      refine Steps.cons (n := []) (k := 14) rfl (by kernel_rfl) (fun xs wx hS hV K hK => ?_) ?_
                                      · skip
                                        obtain ⟨hH, hB⟩ := hS
                                        clear hV
                                        go_simp
                                        exact hK.out _ _ ⟨hH, hB⟩ rfl (fun _ _ h => h)
                                      refine Steps.cons (n := [13]) (k := 15) rfl (by kernel_rfl) (fun xs wx hS hV K hK => ?_) ?_
                                      · skip
                                        obtain ⟨hH, hB⟩ := hS
                                        obtain ⟨d13, -⟩ := hV
                                        replace d13 : xs 13 = .pointer (some ⟨w.heap.size, 9, none⟩) := d13
                                        rw [d13] at hK ⊢
                                        have c := hH.c9
                                        go_simp
                                        exact hK.out _ _ ⟨hH, hB⟩ rfl (fun _ _ h => h)
                                      refine Steps.cons (n := [14, 11]) (k := 16) rfl (by kernel_rfl) (fun xs wx hS hV K hK => ?_) ?_
                                      · skip
                                        obtain ⟨hH, hB⟩ := hS
                                        obtain ⟨d14, d11, -⟩ := hV
                                        replace d14 : xs 14 = .string (bs h.group) := d14
                                        replace d11 : xs 11 = .string (fS 32 (bs h.user)) := d11
                                        rw [d14, d11] at hK ⊢
                                        go_simp; (go_at_call 37; (first | (with_reducible refine (filled_100 _ _).mono ?_) | (with_reducible refine (filled_32 _ _).mono ?_) | (with_reducible refine (filled_155 _ _).mono ?_) | (with_reducible refine (filled_12 _ _).mono ?_)); rintro e w2 ⟨rfl, hb0⟩; obtain ⟨hH1, hB1⟩ := carry3 hb0 hH hB)
                                        exact hK.out _ _ ⟨hH1, hB1⟩ rfl (VV.keep hb0)
                                      refine Steps.cons (n := [12, 15]) (k := 17) rfl (by kernel_rfl) (fun xs wx hS hV K hK => ?_) ?_
                                      · skip
                                        obtain ⟨hH, hB⟩ := hS
                                        obtain ⟨d12, d15, -⟩ := hV
                                        replace d12 : xs 12 = .string (tS h.type ++ fS 100 (bs h.link) ++ ⟨#[117, 115, 116, 97, 114, 0, 48, 48]⟩ ++ fS 32 (bs h.user)) := d12
                                        replace d15 : xs 15 = .string (fS 32 (bs h.group)) := d15
                                        rw [d12, d15] at hK ⊢
                                        go_simp
                                        exact hK.out _ _ ⟨hH, hB⟩ rfl (fun _ _ h => h)
                                      refine Steps.cons (n := []) (k := 18) rfl (by kernel_rfl) (fun xs wx hS hV K hK => ?_) ?_
                                      · skip
                                        obtain ⟨hH, hB⟩ := hS
                                        clear hV
                                        go_simp
                                        exact hK.out _ _ ⟨hH, hB⟩ rfl (fun _ _ h => h)
                                      refine Steps.cons (n := [17]) (k := 19) rfl (by kernel_rfl) (fun xs wx hS hV K hK => ?_) ?_
                                      · skip
                                        obtain ⟨hH, hB⟩ := hS
                                        obtain ⟨d17, -⟩ := hV
                                        replace d17 : xs 17 = .pointer (some ⟨w.heap.size, 10, none⟩) := d17
                                        rw [d17] at hK ⊢
                                        have c := hH.c10
                                        go_simp
                                        exact hK.out _ _ ⟨hH, hB⟩ rfl (fun _ _ h => h)
                                      refine Steps.cons (n := [18, 15]) (k := 20) rfl (by kernel_rfl) (fun xs wx hS hV K hK => ?_) ?_
                                      · skip
                                        obtain ⟨hH, hB⟩ := hS
                                        obtain ⟨d18, d15, -⟩ := hV
                                        replace d18 : xs 18 = .int .i64 h.major := d18
                                        replace d15 : xs 15 = .string (fS 32 (bs h.group)) := d15
                                        rw [d18, d15] at hK ⊢
                                        go_simp; (go_at_call 38; (first | (with_reducible refine (octal_7 _ _ (by omega) (by omega)).mono ?_) | (with_reducible refine (octal_11 _ _ (by omega) (by omega)).mono ?_)); rintro e w2 ⟨rfl, hb0⟩; obtain ⟨hH1, hB1⟩ := carry3 hb0 hH hB)
                                        exact hK.out _ _ ⟨hH1, hB1⟩ rfl (VV.keep hb0)
                                      refine Steps.cons (n := [16, 19]) (k := 21) rfl (by kernel_rfl) (fun xs wx hS hV K hK => ?_) ?_
                                      · skip
                                        obtain ⟨hH, hB⟩ := hS
                                        obtain ⟨d16, d19, -⟩ := hV
                                        replace d16 : xs 16 = .string (tS h.type ++ fS 100 (bs h.link) ++ ⟨#[117, 115, 116, 97, 114, 0, 48, 48]⟩ ++ fS 32 (bs h.user) ++ fS 32 (bs h.group)) := d16
                                        replace d19 : xs 19 = .string (oS 7 h.major.toNat) := d19
                                        rw [d16, d19] at hK ⊢
                                        go_simp
                                        exact hK.out _ _ ⟨hH, hB⟩ rfl (fun _ _ h => h)
                                      refine Steps.cons (n := [20]) (k := 22) rfl (by kernel_rfl) (fun xs wx hS hV K hK => ?_) ?_
                                      · skip
                                        obtain ⟨hH, hB⟩ := hS
                                        obtain ⟨d20, -⟩ := hV
                                        replace d20 : xs 20 = .string (tS h.type ++ fS 100 (bs h.link) ++ ⟨#[117, 115, 116, 97, 114, 0, 48, 48]⟩ ++ fS 32 (bs h.user) ++ fS 32 (bs h.group) ++ oS 7 h.major.toNat) := d20
                                        rw [d20] at hK ⊢
                                        go_simp
                                        exact hK.out _ _ ⟨hH, hB⟩ rfl (fun _ _ h => h)
                                      refine Steps.cons (n := []) (k := 23) rfl (by kernel_rfl) (fun xs wx hS hV K hK => ?_) ?_
                                      · skip
                                        obtain ⟨hH, hB⟩ := hS
                                        clear hV
                                        go_simp
                                        exact hK.out _ _ ⟨hH, hB⟩ rfl (fun _ _ h => h)
                                      refine Steps.cons (n := [22]) (k := 24) rfl (by kernel_rfl) (fun xs wx hS hV K hK => ?_) ?_
                                      · skip
                                        obtain ⟨hH, hB⟩ := hS
                                        obtain ⟨d22, -⟩ := hV
                                        replace d22 : xs 22 = .pointer (some ⟨w.heap.size, 11, none⟩) := d22
                                        rw [d22] at hK ⊢
                                        have c := hH.c11
                                        go_simp
                                        exact hK.out _ _ ⟨hH, hB⟩ rfl (fun _ _ h => h)
                                      refine Steps.cons (n := [23, 19]) (k := 25) rfl (by kernel_rfl) (fun xs wx hS hV K hK => ?_) ?_
                                      · skip
                                        obtain ⟨hH, hB⟩ := hS
                                        obtain ⟨d23, d19, -⟩ := hV
                                        replace d23 : xs 23 = .int .i64 h.minor := d23
                                        replace d19 : xs 19 = .string (oS 7 h.major.toNat) := d19
                                        rw [d23, d19] at hK ⊢
                                        go_simp; (go_at_call 38; (first | (with_reducible refine (octal_7 _ _ (by omega) (by omega)).mono ?_) | (with_reducible refine (octal_11 _ _ (by omega) (by omega)).mono ?_)); rintro e w2 ⟨rfl, hb0⟩; obtain ⟨hH1, hB1⟩ := carry3 hb0 hH hB)
                                        exact hK.out _ _ ⟨hH1, hB1⟩ rfl (VV.keep hb0)
                                      refine Steps.cons (n := [21, 24]) (k := 26) rfl (by kernel_rfl) (fun xs wx hS hV K hK => ?_) ?_
                                      · skip
                                        obtain ⟨hH, hB⟩ := hS
                                        obtain ⟨d21, d24, -⟩ := hV
                                        replace d21 : xs 21 = .string (tS h.type ++ fS 100 (bs h.link) ++ ⟨#[117, 115, 116, 97, 114, 0, 48, 48]⟩ ++ fS 32 (bs h.user) ++ fS 32 (bs h.group) ++ oS 7 h.major.toNat ++ ⟨#[0]⟩) := d21
                                        replace d24 : xs 24 = .string (oS 7 h.minor.toNat) := d24
                                        rw [d21, d24] at hK ⊢
                                        go_simp
                                        exact hK.out _ _ ⟨hH, hB⟩ rfl (fun _ _ h => h)
                                      refine Steps.cons (n := [25]) (k := 27) rfl (by kernel_rfl) (fun xs wx hS hV K hK => ?_) ?_
                                      · skip
                                        obtain ⟨hH, hB⟩ := hS
                                        obtain ⟨d25, -⟩ := hV
                                        replace d25 : xs 25 = .string (tS h.type ++ fS 100 (bs h.link) ++ ⟨#[117, 115, 116, 97, 114, 0, 48, 48]⟩ ++ fS 32 (bs h.user) ++ fS 32 (bs h.group) ++ oS 7 h.major.toNat ++ ⟨#[0]⟩ ++ oS 7 h.minor.toNat) := d25
                                        rw [d25] at hK ⊢
                                        go_simp
                                        exact hK.out _ _ ⟨hH, hB⟩ rfl (fun _ _ h => h)
                                      refine Steps.cons (n := []) (k := 28) rfl (by kernel_rfl) (fun xs wx hS hV K hK => ?_) ?_
                                      · skip
                                        obtain ⟨hH, hB⟩ := hS
                                        clear hV
                                        go_simp
                                        exact hK.out _ _ ⟨hH, hB⟩ rfl (fun _ _ h => h)
                                      refine Steps.cons (n := [27, 24]) (k := 29) rfl (by kernel_rfl) (fun xs wx hS hV K hK => ?_) ?_
                                      · skip
                                        obtain ⟨hH, hB⟩ := hS
                                        obtain ⟨d27, d24, -⟩ := hV
                                        replace d27 : xs 27 = .string (bs pre) := d27
                                        replace d24 : xs 24 = .string (oS 7 h.minor.toNat) := d24
                                        rw [d27, d24] at hK ⊢
                                        go_simp; (go_at_call 37; (first | (with_reducible refine (filled_100 _ _).mono ?_) | (with_reducible refine (filled_32 _ _).mono ?_) | (with_reducible refine (filled_155 _ _).mono ?_) | (with_reducible refine (filled_12 _ _).mono ?_)); rintro e w2 ⟨rfl, hb0⟩; obtain ⟨hH1, hB1⟩ := carry3 hb0 hH hB)
                                        exact hK.out _ _ ⟨hH1, hB1⟩ rfl (VV.keep hb0)
                                      refine Steps.cons (n := [26, 28]) (k := 30) rfl (by kernel_rfl) (fun xs wx hS hV K hK => ?_) ?_
                                      · skip
                                        obtain ⟨hH, hB⟩ := hS
                                        obtain ⟨d26, d28, -⟩ := hV
                                        replace d26 : xs 26 = .string (tS h.type ++ fS 100 (bs h.link) ++ ⟨#[117, 115, 116, 97, 114, 0, 48, 48]⟩ ++ fS 32 (bs h.user) ++ fS 32 (bs h.group) ++ oS 7 h.major.toNat ++ ⟨#[0]⟩ ++ oS 7 h.minor.toNat ++ ⟨#[0]⟩) := d26
                                        replace d28 : xs 28 = .string (fS 155 (bs pre)) := d28
                                        rw [d26, d28] at hK ⊢
                                        go_simp
                                        exact hK.out _ _ ⟨hH, hB⟩ rfl (fun _ _ h => h)
                                      refine Steps.cons (n := [28]) (k := 31) rfl (by kernel_rfl) (fun xs wx hS hV K hK => ?_) ?_
                                      · skip
                                        obtain ⟨hH, hB⟩ := hS
                                        obtain ⟨d28, -⟩ := hV
                                        replace d28 : xs 28 = .string (fS 155 (bs pre)) := d28
                                        rw [d28] at hK ⊢
                                        go_simp; (go_at_call 37; (first | (with_reducible refine (filled_100 _ _).mono ?_) | (with_reducible refine (filled_32 _ _).mono ?_) | (with_reducible refine (filled_155 _ _).mono ?_) | (with_reducible refine (filled_12 _ _).mono ?_)); rintro e w2 ⟨rfl, hb0⟩; obtain ⟨hH1, hB1⟩ := carry3 hb0 hH hB)
                                        exact hK.out _ _ ⟨hH1, hB1⟩ rfl (VV.keep hb0)
                                      refine Steps.cons (n := [29, 30]) (k := 32) rfl (by kernel_rfl) (fun xs wx hS hV K hK => ?_) ?_
                                      · skip
                                        obtain ⟨hH, hB⟩ := hS
                                        obtain ⟨d29, d30, -⟩ := hV
                                        replace d29 : xs 29 = .string (tS h.type ++ fS 100 (bs h.link) ++ ⟨#[117, 115, 116, 97, 114, 0, 48, 48]⟩ ++ fS 32 (bs h.user) ++ fS 32 (bs h.group) ++ oS 7 h.major.toNat ++ ⟨#[0]⟩ ++ oS 7 h.minor.toNat ++ ⟨#[0]⟩ ++ fS 155 (bs pre)) := d29
                                        replace d30 : xs 30 = .string (fS 12 ⟨#[]⟩) := d30
                                        rw [d29, d30] at hK ⊢
                                        go_simp
                                        exact hK.out _ _ ⟨hH, hB⟩ rfl (fun _ _ h => h)
                                      refine Steps.cons (n := [31]) (k := 33) rfl (by kernel_rfl) (fun xs wx hS hV K hK => ?_) ?_
                                      · skip
                                        obtain ⟨hH, hB⟩ := hS
                                        obtain ⟨d31, -⟩ := hV
                                        replace d31 : xs 31 = .string (tS h.type ++ fS 100 (bs h.link) ++ ⟨#[117, 115, 116, 97, 114, 0, 48, 48]⟩ ++ fS 32 (bs h.user) ++ fS 32 (bs h.group) ++ oS 7 h.major.toNat ++ ⟨#[0]⟩ ++ oS 7 h.minor.toNat ++ ⟨#[0]⟩ ++ fS 155 (bs pre) ++ fS 12 ⟨#[]⟩) := d31
                                        rw [d31] at hK ⊢
                                        go_simp
                                        exact hK.out _ _ ⟨hH, hB⟩ rfl (fun _ _ h => h)
                                      exact Steps.nil
                                    case hQ =>
                                      intro xs wx hS hV
                                      obtain ⟨hH, hB⟩ := hS
                                      have d32 : xs 32 = .string (tS h.type ++ fS 100 (bs h.link) ++ ⟨#[117, 115, 116, 97, 114, 0, 48, 48]⟩ ++ fS 32 (bs h.user) ++ fS 32 (bs h.group) ++ oS 7 h.major.toNat ++ ⟨#[0]⟩ ++ oS 7 h.minor.toNat ++ ⟨#[0]⟩ ++ fS 155 (bs pre) ++ fS 12 ⟨#[]⟩) := hV 32 (Nat.le_refl 33)
                                      rw [d32]
                                      go_wp2_with fail
                                      go_meet
                                      exact ⟨_, rfl, named (behind_o h pre) (behind_sz h pre), hB⟩
                                  case rest =>
                                    clear hH hB
                                    obtain ⟨o8, rfl, ⟨z8, E8⟩, hB⟩ := hcut
                                    obtain ⟨i, hi⟩ : ∃ i : Int, Hid (i = (Us.sumFrom 0 (bl (o7 ++ ⟨#[32, 32, 32, 32, 32, 32, 32, 32]⟩ ++ o8)) : Nat)) := ⟨_, rfl⟩
                                    have ez : (o7 ++ ⟨#[32, 32, 32, 32, 32, 32, 32, 32]⟩ ++ o8).size = 512 := by simp only [ByteArray.size_append, z7, z8]; rfl
                                    have i0 : 0 ≤ i := by rw [hi.out]; omega
                                    have i1 : i ≤ 8589934591 := by have := Us.sumFrom_le (bl (o7 ++ ⟨#[32, 32, 32, 32, 32, 32, 32, 32]⟩ ++ o8)) 0; rw [bl_length, ez] at this; rw [hi.out]; omega
                                    have HO := Lib.hid (ends_o h pre name E7.out E8.out hi.out)
                                    go_wp2_with fail
                                    refine (encSum_hid _ _ (by omega) hi).mono ?_
                                    rintro e w2 ⟨rfl, rfl⟩
                                    clear hi ez E7 E8
                                    go_wp2_with fail
                                    refine (octal_6 _ _ i0 i1).mono ?_
                                    rintro e w2 ⟨rfl, hb0⟩
                                    have hB := hB.trans (hb0.mono hB.size)
                                    clear hb0
                                    have ho6 := oS_size 6 i.toNat
                                    go_wp2_with fail
                                    go_ret2
                                    exact ⟨by rw [HN.out, ← HO.out]; rfl, hB⟩
end Go.Proofs.YtfhfahlocpmdkaaDoor
