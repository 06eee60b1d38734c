/- (*glob.List).Out, strataref02.Meets, Out, walked. -/
import Derived.Test.YtdjfakampjbgeaaGreatDoorGoE
import Derived.BigQuiet
namespace Go.Proofs.YtdjfakampjbgeaaGreatDoor
open Go Go.RowKit

theorem own_cap {w : World} {base n k m c : Nat} {e : TypeId} {A : Option Addr} {cs : List Value} (h : w.ownsRow base e k (.slice A m c) n cs) : m ≤ c := by
  rcases h.2 with ⟨e1, rfl⟩ | ⟨g, cap, cur, e1, _, _, hn, _⟩
  · injection e1 with _ e2 e3; omega
  · injection e1 with _ e2 e3; omega
theorem RC.take {w : World} {S : Nat → Prop} {A : Option Addr} {n c : Nat} {l : List (List UInt8)} (h : RC w S (.slice A n c) n (sc l)) (k : Nat) : RC w S (.slice A k c) k (sc (l.take k)) := by
  obtain ⟨A', c', e, hc⟩ := h
  injection e with e1 _ e3
  subst e1 e3
  refine ⟨_, _, rfl, fun j u hu => hc j u ?_⟩
  simp only [sc, List.getElem?_map, List.getElem?_take] at hu ⊢
  split at hu
  · exact hu
  · simp at hu
theorem takesAll_n (ps : List Gl.Pc) (l : List (List UInt8)) (n : Nat) (hn : n ≤ l.length) (b : Bool) (H : Hid (Gl.takesAll ps (l.take n) = b)) (vp : Value) (A : Option Addr) (c : Nat) (w : World) {S S2 : Nat → Prop} (hp : RP w S vp ps) (hq : RC w S2 (.slice A n c) n (sc (l.take n))) (hl : ps.length ≤ 2000000) (hs : l.length ≤ 2000001) (hf : PcB ps) (hg : ∀ x ∈ l, x.length ≤ 2000000) :
    Calls Tryz.prog 54 #[vp, .slice A n c] w fun e w' => e = .returned (.bool b) ∧ Below w.heap.size w w' := by
  have hz : (l.take n).length = n := by rw [List.length_take]; omega
  have hq2 : RC w S2 (.slice A n c) (l.take n).length (sc (l.take n)) := by rw [hz]; exact hq
  exact takesAll_at ps (l.take n) b H vp (.slice A n c) w hp hq2 hl (by omega) hf (fun x hx => hg x (List.mem_of_mem_take hx))
theorem RP.drew' {w : World} {S : Nat → Prop} {v : Value} {ps : List Gl.Pc} (h : RP w S v ps) : RP w.drew S v ps := h.keep (fun _ hs _ => ⟨rfl, hs⟩)
theorem RC.drew' {w : World} {S : Nat → Prop} {v : Value} {n : Nat} {cs : List Value} (h : RC w S v n cs) : RC w.drew S v n cs := h.keep (fun _ hs _ => ⟨rfl, hs⟩)
theorem RlOk.bounds {r : Gl.Rl} {n : Nat} (h : Gl.RlOk n r) : r.ps.length ≤ 2000000 ∧ PcB r.ps := by
  have hl := Gl.readL_len h.1
  have hn := Gl.namesL_length r.pat
  have h1020 : r.pat.length ≤ 1020 := by
    have := h.1
    unfold Gl.readL at this
    split at this
    · cases this
    · next hh => omega
  exact ⟨by omega, fun q hq => by
    have := hl.1 q hq
    exact ⟨by omega, fun m hm => by have := this.2 m hm; omega⟩⟩
set_option maxRecDepth 100000 in
set_option maxHeartbeats 8000000 in
theorem out_any (rs : List Gl.Rl) (B : Nat) (p : ByteArray) (w : World) {S : Nat → Prop} (hL : ListAt w S B rs) (hr : rs.length ≤ 256) {m : Nat} (hok : ∀ r ∈ rs, Gl.RlOk m r) (hp : p.size ≤ 2000000) (hmx : Maxl w) {b : Bool} (H : Hid (Gl.outL rs (Gl.namesL (bl p)) = b)) :
    Calls Tryz.prog 31 #[.pointer (some ⟨B, 0, none⟩), .string p] w fun e w' => e = .returned (.bool b) ∧ Below w.heap.size w w' := by
  obtain ⟨ns, hns⟩ : ∃ ns, Hid (Gl.namesL (bl p) = ns) := ⟨_, Lib.hid rfl⟩
  have hnl : ns.length ≤ 2000001 := by have := Gl.namesL_length (bl p); rw [hns.out, bl_length] at this; omega
  have hnx : Hid (∀ x ∈ ns, x.length ≤ 2000000) := Lib.hid fun x hx => by
    rw [← hns.out] at hx
    have := Gl.namesL_piece hx
    rw [bl_length] at this
    omega
  have H2 : Hid (Gl.outL (rs.take rs.length) ns = b) := by show _ = _; rw [List.take_length, ← hns.out]; exact H.out
  obtain ⟨v, hSB, hcB, hRL⟩ := hL
  obtain ⟨Ar, cr, rfl⟩ := hRL.form
  have hBl : B < w.heap.size := World.block_lt_of_cell? w _ hcB
  have HRL := Lib.hid hRL
  have HCB := Lib.hid hcB
  have HOK := Lib.hid hok
  clear hRL hcB hok hSB H
  go_enter Tryz.func31, Tryz.ntmps31
  go_wp2_with fail
  refine (names_any p _ (by omega) hmx).mono ?_
  rintro e w1 ⟨vn, rfl, hv, b1⟩
  rw [hns.out] at hv
  obtain ⟨An, cn, rfl⟩ := own_form hv
  have hcap := own_cap hv
  have HQ : Hid (RC w1 (· < w1.heap.size) (.slice An ns.length cn) ns.length (sc ns)) := RC.own hv (fun g e => own_lt hv g e)
  have cB1 : w1.cell? ⟨B, 0, none⟩ = some (.slice Ar rs.length cr) := (b1.cell (p := ⟨B, 0, none⟩) hBl).trans HCB.out
  have HL1 : Hid (RL w1 S (.slice Ar rs.length cr) rs) := HRL.out.keep (fun g hs hl => ⟨b1.block g hl, hs⟩)
  have hBl1 : B < w1.heap.size := Nat.lt_of_lt_of_le hBl b1.size
  have HCB1 := Lib.hid cB1
  clear hv HRL HCB
  go_wp2_with fail
  clear cB1
  go_loopw [6, 7] (fun t6 _ wr => ∃ i : Nat, i ≤ rs.length ∧ t6 = .int .i64 ((i : Int) - 1) ∧ Hid (Gl.outL (rs.take i) ns = b) ∧ Below w1.heap.size w1 wr) (fun t6 _ _ => (intOf t6 + 1).toNat)
  case atStart => exact ⟨rs.length, by omega, by go_num, H2, Below.refl _ _⟩
  case round =>
    clear H2
    obtain ⟨i, hi, rfl, HO, hB⟩ := hrel
    cases i with
    | zero =>
      have i0 : decide ((0 : Int) ≤ ((0 : Nat) : Int) - 1) = false := rfl
      have i0' : decide ((0 : Int) ≤ -1) = false := rfl
      have hR : Hid (b = false) := by show _ = _; rw [← HO.out, List.take_zero]; rfl
      clear HO
      go_wp2_with fail
      go_ret
      exact ⟨by rw [hR.out]; rfl, below_of_below b1 hB b1.size⟩
    | succ i =>
      have e1 : ((i + 1 : Nat) : Int) - 1 = (i : Int) := by omega
      rw [e1]
      have j0 : (0 : Int) ≤ (i : Int) := by omega
      have i0 : decide ((0 : Int) ≤ (i : Int)) = true := by rw [decide_eq_true_eq]; omega
      have i1 : (i : Int) < (rs.length : Int) := by omega
      have hir : i < rs.length := by omega
      have hL := HL1.out.keep (fun g hs hl => ⟨hB.block g hl, hs⟩) (S' := S)
      have hO := HO.out
      rw [Gl.outL_take hir] at hO
      have hb := RlOk.bounds (HOK.out _ (List.getElem_mem hir))
      have HO2 := Lib.hid hO
      have HB := Lib.hid hb
      clear hO HO hb e1 hL
      go_wp2_with fail
      go_loopw [7] (fun t7 wr => ∃ n : Nat, n ≤ ns.length + 1 ∧ t7 = .int .i64 (n : Int) ∧ Hid (∀ k, k < n → Gl.takesAll rs[i].ps (ns.take k) = false) ∧ Below w1.heap.size w1 wr) (fun t7 _ => ns.length + 1 - (intOf t7).toNat)
      case atStart => exact ⟨0, by omega, rfl, Lib.hid (fun k hk => by omega), hB⟩
      case round =>
        clear hB
        obtain ⟨n, hn, rfl, HN, hB⟩ := hrel
        have hB2 := HB.out
        have jn : (0 : Int) ≤ (n : Int) := by omega
        rcases Nat.lt_or_ge ns.length n with hnn | hnn
        · have k0 : decide ((n : Int) ≤ (ns.length : Int)) = false := by rw [decide_eq_false_iff_not]; omega
          have hm : Gl.meetsL rs[i].ps ns = false := Gl.meets_false fun k hk => HN.out k (by omega)
          have HO3 : Hid (Gl.outL (rs.take i) ns = b) := by
            have := HO2.out
            rw [hm] at this
            exact this
          clear HN hm HO2 hB2
          go_wp2_with fail
          go_roundw
          case rel => exact ⟨i, by omega, by go_num, HO3, hB⟩
          case measure => simp [intOf]
        · have k0 : decide ((n : Int) ≤ (ns.length : Int)) = true := by rw [decide_eq_true_eq]; omega
          have hL := HL1.out.keep (fun g hs hl => ⟨hB.block g hl, hs⟩) (S' := S)
          obtain ⟨g, o, c, vm, hvl, c0, c1, hRP⟩ := hL.at_ hir
          obtain ⟨hA, hcc⟩ : Ar = some ⟨g, o, none⟩ ∧ cr = c := by injection hvl with e1 _ e3; exact ⟨e1, e3⟩
          subst hA hcc
          have cB := (hB.cell (p := ⟨B, 0, none⟩) hBl1).trans HCB1.out
          have hQ := (HQ.out.below hB).take n
          have hn2 : (n : Int) ≤ (cn : Int) := by omega
          have hlt : g < wr.heap.size := World.block_lt_of_cell? wr _ c0
          have hltB : B < wr.heap.size := World.block_lt_of_cell? wr _ cB
          obtain ⟨t, ht⟩ : ∃ t, Hid (Gl.takesAll rs[i].ps (ns.take n) = t) := ⟨_, Lib.hid rfl⟩
          have HQn := Lib.hid hQ
          have HC0 := Lib.hid c0
          have HRP := Lib.hid hRP
          have HBw := Lib.hid hB
          clear hvl hL hQ hRP c0 hB
          obtain ⟨Am, cm, rfl⟩ := HRP.out.form
          go_upto_region 8 with fail
          go_cut [37] (fun s37 wx => s37 = .bool t ∧ Below wr.heap.size wr wx)
          case first =>
            clear HN HO2
            go_region_held3 (fun w' => w'.cell? ⟨B, 0, none⟩ = some (.slice (some ⟨g, o, none⟩) rs.length cr) ∧ w'.cell? ⟨g, o + i * 2 + 1, none⟩ = some (.slice Am rs[i].ps.length cm)) (exact ⟨cB, c1⟩) ((go_at_call 54; refine (takesAll_n rs[i].ps ns n hnn t ht _ An cn _ (S := S) (by first | exact HRP.out | exact RP.drew' HRP.out) (by first | exact HQn.out | exact RC.drew' HQn.out) hB2.1 hnl hB2.2 hnx.out).mono ?_; rintro e w9 ⟨rfl, hb0⟩; have cB := (hb0.cell (p := ⟨B, 0, none⟩) hltB).trans cB; have c1 := (hb0.cell (p := ⟨g, o + i * 2 + 1, none⟩) hlt).trans c1; have BX := below_of_below (by first | exact Below.refl wr.heap.size wr | exact (Below.refl wr.heap.size wr).drew) hb0 (by first | exact Nat.le_refl _ | rfl)))
            go_wp2_with fail
            go_meet
            exact ⟨rfl, BX⟩
          case rest =>
            obtain ⟨rfl, bx⟩ := hcut
            have hB3 := below_of_below HBw.out bx HBw.out.size
            cases t with
            | true =>
              have hm : Gl.meetsL rs[i].ps ns = true := Gl.meets_true hnn ht.out
              have HR : Hid (b = !rs[i].back) := by
                have := HO2.out
                rw [hm] at this
                exact this.symm
              have cB9 := (bx.cell (p := ⟨B, 0, none⟩) hltB).trans cB
              have c09 := (bx.cell (p := ⟨g, o + i * 2, none⟩) hlt).trans HC0.out
              clear cB c1 hm HO2 HN bx HC0
              obtain ⟨bk, hbk⟩ : ∃ bk, rs[i].back = bk := ⟨_, rfl⟩
              rw [hbk] at c09
              have HR2 : Hid (b = !bk) := by show _ = _; rw [HR.out, hbk]
              clear hbk HR
              go_wp2_with fail
              go_ret
              exact ⟨by rw [HR2.out]; cases bk <;> rfl, below_of_below b1 hB3 b1.size⟩
            | false =>
              have HN2 : Hid (∀ k, k < n + 1 → Gl.takesAll rs[i].ps (ns.take k) = false) := Lib.hid fun k hk => by
                by_cases h : k = n
                · rw [h]; exact ht.out
                · exact HN.out k (by omega)
              clear cB c1 HN bx HC0
              go_wp2_with fail
              go_roundw
              case rel => exact ⟨n + 1, by omega, by go_num, HN2, hB3⟩
              case measure => simp [intOf]; omega
end Go.Proofs.YtdjfakampjbgeaaGreatDoor
