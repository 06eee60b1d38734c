/- stratalaw14.LexJoined: the law. -/
import Derived.Test.YtpgnfianffjpnaaGreatDoorLyS
import Derived.Test.YtpgnfianffjpnaaGreatDoorLnR
import Derived.Test.YtpgnfianffjpnaaGreatDoorLwA
import Derived.Test.YtpgnfianffjpnaaGreatDoorPick
namespace Go.Proofs.YtpgnfianffjpnaaGreatDoor
open Go Go.RowKit
theorem works_call (w : World) (h : Env w) : Calls Tryz.prog 15 #[] w fun e w' => e = .returned (.bool true) ∧ Below w.heap.size w w' := works_any w h.tabs h.err h.max
theorem bs_app (a b : List UInt8) : bs a ++ bs b = bs (a ++ b) := by
  apply ByteArray.ext
  simp [bs]
set_option maxRecDepth 100000 in
set_option maxHeartbeats 2000000 in
theorem lawJoined (s : List UInt8) (at_ : Int) (w : World) (hs : s.length ≤ 1100000) (ha1 : -9223372036854775808 ≤ at_) (ha2 : at_ ≤ 9223372036854775807) (hT : Tabs w) (hv : ErrVar w) (hm : Maxl w) :
    Calls Tryz.prog 6 #[.string (bs s), .int .i64 at_] w fun e w' => e = .returned (.bool true) ∧ Below w.heap.size w w' := by
  have HE := Lib.hid (Env.mk hT hv hm)
  clear hT hv hm
  go_enter Tryz.func6, Tryz.ntmps6
  go_wp2_with fail
  refine (single_any s (by omega) _).mono ?_
  rintro e w1 ⟨⟨b, rfl, hb⟩, rfl⟩
  cases b with
  | false =>
    clear hb
    go_wp2_with fail
    refine (works_call _ HE.out).mono ?_
    rintro e w1 ⟨rfl, p1⟩
    go_wp2_with fail
    go_ret
    exact ⟨rfl, p1⟩
  | true =>
    have S := hb rfl
    clear hb
    rcases Lx.single_lines S with ⟨_, z, hz⟩ | ⟨_, ms, hms⟩
    · have HZ := Lib.hid hz
      clear hz S
      go_wp2_with fail
      refine (lines_call s (by omega) _ HE.out HZ).mono ?_
      rintro e w1 ⟨hA, p1⟩
      have hr := lns_err hA
      subst hr
      have HE1 := Lib.hid (HE.out.new p1)
      have HP := Lib.hid p1
      clear hA p1
      go_wp2_with fail
      refine (works_call _ HE1.out).mono ?_
      rintro e w2 ⟨rfl, p2⟩
      go_wp2_with fail
      go_ret
      exact ⟨rfl, below_of_below HP.out p2 HP.out.size⟩
    · have HMS := Lib.hid hms
      have hne := S.ne
      have hlen := S.len
      have HS := Lib.hid S
      clear hms S
      have hz := bs_size s
      have hsz1 : (1 : Int) ≤ ((bs s).size : Int) := by
        have : s.length ≠ 0 := fun h => hne (List.eq_nil_of_length_eq_zero h)
        omega
      have hsz2 : ((bs s).size : Int) ≤ 1000000000 := by omega
      obtain ⟨pk, hpk⟩ : ∃ p, pick at_ ((bs s).size : Int) = p := ⟨_, rfl⟩
      obtain ⟨hp1, hp2⟩ := pick_range at_ ((bs s).size : Int) hsz1
      rw [hpk] at hp1 hp2
      obtain ⟨k, rfl⟩ : ∃ k : Nat, pk = (k : Int) := ⟨pk.toNat, by omega⟩
      have hk : k < (bs s).size := by omega
      obtain ⟨c, hc⟩ : ∃ c, (bs s)[k]'hk = c := ⟨_, rfl⟩
      have hcs : s[k]? = some c := by rw [← hc]; exact bs_at s k hk
      have hby : c.toNat < 256 := UInt8.toNat_lt _
      obtain ⟨b1, hb1⟩ : ∃ b, Hid (Lx.blank c = b) := ⟨_, Lib.hid rfl⟩
      obtain ⟨b2, e2⟩ : ∃ b, ((c.toNat : Int) == 35) = b := ⟨_, rfl⟩
      have hb2 : b2 = decide (c = 35) := by rw [← e2]; exact u8_eq c 35
      obtain ⟨b3, hb3⟩ : ∃ b, Hid (Lx.begins c = b) := ⟨_, Lib.hid rfl⟩
      have hk1 : (k : Int) < ((bs s).size : Int) := by omega
      have hk0 : (0 : Int) ≤ (k : Int) := by omega
      have hks : k < s.length := by omega
      have hsl1 := slice_to s k (k : Int) rfl (by omega)
      have hsl2 := slice_from s k (k : Int) rfl (by omega)
      have HJ : Hid (b1 = false → b2 = false → b3 = true → ∃ ms2, Lx.linesL (s.take k ++ ([92, 10] ++ s.drop k)) = .inr (92, [⟨1, s, ms2, []⟩])) := Lib.hid fun h1 h2 h3 =>
        Lx.joined_lines HS.out HMS.out hks hcs (by rw [hb1.out]; exact h1) (by rw [hb2] at h2; simpa using h2) (by rw [hb3.out]; exact h3)
      have hks2 : s.length ≤ 60000 := hlen
      have HPK := Lib.hid hpk
      have HC := Lib.hid hc
      have hsb : (bs s).size ≤ 2000000 := by omega
      clear hcs hb2 hp1 hp2 hpk hc HS hne hz
      go_wp2_with fail
      refine (lines_call s (by omega) _ HE.out HMS).mono ?_
      rintro e w1 ⟨hA, p1⟩
      obtain ⟨A, cc, hr, hL⟩ := lns_ok hA
      subst hr
      obtain ⟨b, o, vm, Ad, cd, rfl, d0, d1, d2, d3⟩ := hL.one
      have HE1 := Lib.hid (HE.out.new p1)
      have HP := Lib.hid p1
      clear hA p1 hL
      go_wp2_with fail
      refine (pick_any at_ ((bs s).size : Int) hsz2 hsz1 ha1 ha2 _).mono ?_
      rintro e w2 ⟨rfl, rfl⟩
      rw [HPK.out]
      clear d0 d1 d2 d3
      have hc := HC.out
      cases b1 with
      | true =>
        go_wp2_with fail
        refine (blank13_any _ _ hb1).mono ?_
        rintro e w2 ⟨rfl, rfl⟩
        go_wp2_with fail
        refine (works_call _ HE1.out).mono ?_
        rintro e w2 ⟨rfl, p2⟩
        go_wp2_with fail
        go_ret
        exact ⟨rfl, below_of_below HP.out p2 HP.out.size⟩
      | false =>
        cases b2 with
        | true =>
          go_wp2_with fail
          refine (blank13_any _ _ hb1).mono ?_
          rintro e w2 ⟨rfl, rfl⟩
          go_wp2_with fail
          refine (works_call _ HE1.out).mono ?_
          rintro e w2 ⟨rfl, p2⟩
          go_wp2_with fail
          go_ret
          exact ⟨rfl, below_of_below HP.out p2 HP.out.size⟩
        | false =>
          cases b3 with
          | false =>
            go_wp2_with fail
            refine (blank13_any _ _ hb1).mono ?_
            rintro e w2 ⟨rfl, rfl⟩
            go_wp2_with fail
            refine (begins_any s k hk hsb hc _ hb3).mono ?_
            rintro e w2 ⟨rfl, rfl⟩
            go_wp2_with fail
            refine (works_call _ HE1.out).mono ?_
            rintro e w2 ⟨rfl, p2⟩
            go_wp2_with fail
            go_ret
            exact ⟨rfl, below_of_below HP.out p2 HP.out.size⟩
          | true =>
            obtain ⟨ms2, hms2⟩ := HJ.out rfl rfl rfl
            obtain ⟨X, hX⟩ : ∃ X, s.take k = X := ⟨_, rfl⟩
            obtain ⟨Y, hY⟩ : ∃ Y, s.drop k = Y := ⟨_, rfl⟩
            have hlx : X.length ≤ 60000 := by rw [← hX, List.length_take]; omega
            have hly : Y.length ≤ 60000 := by rw [← hY, List.length_drop]; omega
            rw [hX, hY] at hms2
            rw [hX] at hsl1
            rw [hY] at hsl2
            have zx := bs_size X
            have zy := bs_size Y
            have z2 : (⟨#[92, 10]⟩ : ByteArray).size = 2 := rfl
            have ad1 : ∀ w, (Op.stringOp .add (bs X) ⟨#[92, 10]⟩).run Tryz.prog w = .ok (.string (bs X ++ ⟨#[92, 10]⟩)) w := fun w => run_string_add_sum w _ _ (by rw [z2]; omega)
            have ad2 : ∀ w, (Op.stringOp .add (bs X ++ ⟨#[92, 10]⟩) (bs Y)).run Tryz.prog w = .ok (.string (bs X ++ ⟨#[92, 10]⟩ ++ bs Y)) w := fun w => run_string_add_sum w _ _ (by rw [ByteArray.size_append, z2]; omega)
            have eT : bs X ++ ⟨#[92, 10]⟩ ++ bs Y = bs (X ++ ([92, 10] ++ Y)) := by
              rw [show (⟨#[92, 10]⟩ : ByteArray) = bs [92, 10] from rfl, bs_app, bs_app, List.append_assoc]
            have HET := Lib.hid eT
            have HM2 := Lib.hid hms2
            have hlT : (X ++ ([92, 10] ++ Y)).length ≤ 2000000 := by simp only [List.length_append, List.length_cons, List.length_nil]; omega
            have HLT := Lib.hid hlT
            clear hX hY eT hms2 zx zy z2 hlT HJ
            go_wp2_with fail
            refine (blank13_any _ _ hb1).mono ?_
            rintro e w2 ⟨rfl, rfl⟩
            go_wp2_with fail
            refine (begins_any s k hk hsb hc _ hb3).mono ?_
            rintro e w2 ⟨rfl, rfl⟩
            go_upto_region 11 with fail
            go_region_held3 (fun _ => True) (exact trivial) ((go_at_call 9; rw [HET.out]; refine (lines_call _ HLT.out _ (HE1.out.new (Below.refl _ _).drew) HM2).mono ?_; rintro e w2 ⟨hA, p2'⟩; have p2 : Below w1.heap.size w1 w2 := (Below.refl _ _).drew.trans p2'; obtain ⟨A2, cc2, hr, hL⟩ := lns_ok hA; subst hr; obtain ⟨b', o', vm2, Ad2, cd2, rfl, d0, d1, d2, d3⟩ := hL.one))
            have HE2 := Lib.hid (HE1.out.new p2)
            have HP2 := Lib.hid (below_of_below HP.out p2 HP.out.size)
            clear hA p2 p2' hL
            go_wp2_with fail
            refine (works_call _ HE2.out).mono ?_
            rintro e w3 ⟨rfl, p3⟩
            go_wp2_with fail
            go_ret
            exact ⟨rfl, below_of_below HP2.out p3 HP2.out.size⟩
end Go.Proofs.YtpgnfianffjpnaaGreatDoor
