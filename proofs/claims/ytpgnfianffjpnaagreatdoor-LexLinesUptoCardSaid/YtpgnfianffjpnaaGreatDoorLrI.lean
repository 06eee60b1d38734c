/- strataref14.Directives, walked. -/
import Derived.Test.YtpgnfianffjpnaaGreatDoorLrD
import Derived.Test.YtpgnfianffjpnaaGreatDoorLrH
namespace Go.Proofs.YtpgnfianffjpnaaGreatDoor
open Go Go.RowKit
/-- lines in memory, as the document's functions take them. -/
def Ls (w : World) (A : Option Addr) (L : List (List UInt8)) : Prop := 0 < L.length → ∃ g, A = some ⟨g, 0, none⟩ ∧ g < w.heap.size ∧ ∀ (j : Nat) x, L[j]? = some x → w.cell? ⟨g, j, none⟩ = some (.string (bs x))
theorem Ls.below {w w' : World} {A : Option Addr} {L : List (List UInt8)} {B : Nat} (h : Ls w A L) (hb : Below B w w') (hB : w.heap.size ≤ B) : Ls w' A L := by
  intro h0
  obtain ⟨g, e, hg, hc⟩ := h h0
  refine ⟨g, e, Nat.lt_of_lt_of_le hg hb.size, fun j x hx => ?_⟩
  have := hc j x hx
  rw [← this]
  exact hb.cell (p := ⟨g, j, none⟩) (by simp only; omega)
def dirsTup : Lx.Err ⊕ (Nat × UInt8) → Value
  | .inl (no, l, a) => .tuple #[.int .i64 0, .int .u8 0, .int .i64 (no : Int), .int .i64 l, .int .i64 a]
  | .inr (n, e) => .tuple #[.int .i64 (n : Int), .int .u8 (e.toNat : Int), .int .i64 0, .int .i64 0, .int .i64 0]
/-- where the loop stands. -/
def DirAt14 (L : List (List UInt8)) (RES : Lx.Err ⊕ (Nat × UInt8)) (n : Nat) (e : UInt8) : Prop :=
  (n = 0 ∧ e = 92 ∧ Lx.dirsL L = RES) ∨ (n = 1 ∧ 0 < L.length ∧ RES = match L[1]? with
    | none => .inr (1, e)
    | some y => if (Lx.dirP y).isSome then .inl (11, 2, (Lx.headN y : Int) + 1) else .inr (1, e))
theorem dirI_none {x : List UInt8} (h : Lx.dirP x = none) : Lx.dirI x = -1 := by rw [Lx.dirI, h]
theorem dirI_some {x : List UInt8} {p : Nat} (h : Lx.dirP x = some p) : Lx.dirI x = (p : Int) - 1 := by rw [Lx.dirI, h]
theorem dir_head {x : List UInt8} {p : Nat} (h : Lx.dirP x = some p) : Lx.headI x = (Lx.headN x : Int) := by
  cases hl : Gl.lft x with
  | nil => rw [Lx.dir_nil hl] at h; cases h
  | cons c r => exact (Lx.lft_head hl).val
theorem dirs_zero {L : List (List UInt8)} {x : List UInt8} (h0 : L[0]? = some x) : Lx.dirsL L = match Lx.dirP x with
    | none => .inr (0, 92)
    | some p => match Lx.dirV x p with
      | [c] => if c = 92 ∨ c = 96 then (match L[1]? with
          | none => .inr (1, c)
          | some y => if (Lx.dirP y).isSome then .inl (11, 2, (Lx.headN y : Int) + 1) else .inr (1, c))
        else .inl (4, 1, (p : Int))
      | _ => .inl (4, 1, (p : Int)) := by
  cases L with
  | nil => simp at h0
  | cons a r =>
    obtain rfl : a = x := by simpa using h0
    cases r with
    | nil => rfl
    | cons y r => rfl
set_option maxRecDepth 100000 in
set_option maxHeartbeats 1000000 in
theorem directives14_any (w : World) {A : Option Addr} {c : Nat} {L : List (List UInt8)} (hr : Ls w A L) (hL : L.length ≤ 5000) (hx : Hid (∀ x ∈ L, x.length ≤ 70000)) {RES : Lx.Err ⊕ (Nat × UInt8)} (H : Hid (Lx.dirsL L = RES)) :
    Calls Tryz.prog 31 #[.slice A L.length c] w fun r w' => r = .returned (dirsTup RES) ∧ Below w.heap.size w w' := by
  obtain ⟨N, hN⟩ : ∃ N, L.length = N := ⟨_, rfl⟩
  have HR := Lib.hid hr
  have HN := Lib.hid hN
  have H0 : Hid (DirAt14 L RES 0 92) := Lib.hid (.inl ⟨rfl, rfl, H.out⟩)
  rw [hN] at hL
  rw [hN]
  clear H hr hN
  go_enter Tryz.func31, Tryz.ntmps31
  go_wp2_with fail
  go_loopw [7, 8, 9, 10] (fun t7 t8 _ _ wr => ∃ (n : Nat) (e : UInt8), n ≤ 1 ∧ t7 = .int .u8 (e.toNat : Int) ∧ t8 = .int .i64 (n : Int) ∧ Hid (DirAt14 L RES n e) ∧ Below w.heap.size w wr) (fun _ t8 _ _ _ => 2 - (intOf t8).toNat)
  case atStart => exact ⟨0, 92, by omega, rfl, rfl, H0, Below.refl _ _⟩
  case round =>
    clear H0
    obtain ⟨n, e, hn, rfl, rfl, HD, hB⟩ := hrel
    have hsz := hB.size
    have n0 : (0 : Int) ≤ (n : Int) := by omega
    have hbe : e.toNat < 256 := UInt8.toNat_lt _
    rcases Nat.lt_or_ge n N with hin | hin
    · have i0 : decide ((n : Int) < (N : Int)) = true := by rw [decide_eq_true_eq]; omega
      have i1 : (n : Int) < (N : Int) := by omega
      have hpos : 0 < L.length := by rw [HN.out]; omega
      obtain ⟨g, rfl, hg, hcells⟩ := HR.out hpos
      have hnL : n < L.length := by rw [HN.out]; exact hin
      obtain ⟨x, hxx⟩ : ∃ x, L[n]? = some x := ⟨_, List.getElem?_eq_getElem hnL⟩
      have hxl : x.length ≤ 2000000 := by have := hx.out x (List.mem_of_getElem? hxx); omega
      have dW := hcells n x hxx
      have d0 : wr.cell? ⟨g, n, none⟩ = some (.string (bs x)) := by rw [← dW]; exact hB.cell (p := ⟨g, n, none⟩) (by simp only; omega)
      clear dW hcells hpos hnL
      have HX := Lib.hid hxx
      clear hxx
      cases hp : Lx.dirP x with
      | none =>
        have HI : Hid (Lx.dirI x = -1) := Lib.hid (dirI_none hp)
        have HV : Hid (RES = .inr (n, e)) := by
          show _ = _
          rcases HD.out with ⟨rfl, rfl, h⟩ | ⟨rfl, _, h⟩
          · rw [← h, dirs_zero HX.out, hp]
          · rw [h, HX.out]; simp only [hp]; rfl
        clear hp HD
        go_wp2_with fail
        refine (directive14_any x hxl _ HI).mono ?_
        rintro e1 w1 ⟨rfl, b1⟩
        have hB1 := below_of_below hB b1 hsz
        go_wp2_with fail
        go_returns
        exact ⟨by rw [HV.out]; rfl, hB1⟩
      | some p =>
        have HI : Hid (Lx.dirI x = (p : Int) - 1) := Lib.hid (dirI_some hp)
        have hpp := Lx.dir_le hp
        have p0 : decide ((0 : Int) ≤ (p : Int) - 1) = true := by rw [decide_eq_true_eq]; omega
        have HP := Lib.hid hp
        clear hp
        rcases HD.out with ⟨rfl, rfl, h⟩ | ⟨rfl, _, h⟩
        · rw [dirs_zero HX.out, HP.out] at h
          simp only at h
          obtain ⟨v, hv⟩ : ∃ v, Hid (Gl.trimL (x.drop p) = v) := ⟨_, Lib.hid rfl⟩
          rw [show Lx.dirV x p = v from hv.out] at h
          have hdl : (x.drop p).length ≤ 2000000 := by rw [List.length_drop]; omega
          have hsl := slice_from x p (p : Int) rfl (by omega)
          have p2 : p ≤ 2000000 := by omega
          by_cases h92 : v = [92]
          · subst h92
            have HD2 : Hid (DirAt14 L RES 1 92) := Lib.hid (.inr ⟨rfl, by rw [HN.out]; omega, by rw [← h]; rfl⟩)
            clear h HD HP
            go_wp2_with fail
            refine (directive14_any x hxl _ HI).mono ?_
            rintro e1 w1 ⟨rfl, b1⟩
            have hB1 := below_of_below hB b1 hsz
            have hsz1 := hB1.size
            have d1 : w1.cell? ⟨g, 0, none⟩ = some (.string (bs x)) := by rw [← d0]; exact b1.cell (p := ⟨g, 0, none⟩) (by simp only; omega)
            go_wp2_with fail
            refine (directive14_any x hxl _ HI).mono ?_
            rintro e2 w2 ⟨rfl, b2⟩
            have hB2 := below_of_below hB1 b2 hsz1
            have d2 : w2.cell? ⟨g, 0, none⟩ = some (.string (bs x)) := by rw [← d1]; exact b2.cell (p := ⟨g, 0, none⟩) (by simp only; omega)
            go_wp2_with fail
            have h5 := trimmed14_any (x.drop p) hdl w2 hv
            rw [show bs [92] = (⟨#[92]⟩ : ByteArray) from rfl] at h5
            refine h5.mono ?_
            rintro e3 w3 ⟨rfl, rfl⟩
            go_wp2_with fail
            go_roundw
            case rel => exact ⟨1, 92, by omega, rfl, by go_num, HD2, hB2⟩
            case measure => simp [intOf]
          by_cases h96 : v = [96]
          · subst h96
            have HD2 : Hid (DirAt14 L RES 1 96) := Lib.hid (.inr ⟨rfl, by rw [HN.out]; omega, by rw [← h]; rfl⟩)
            clear h HD HP
            go_wp2_with fail
            refine (directive14_any x hxl _ HI).mono ?_
            rintro e1 w1 ⟨rfl, b1⟩
            have hB1 := below_of_below hB b1 hsz
            have hsz1 := hB1.size
            have d1 : w1.cell? ⟨g, 0, none⟩ = some (.string (bs x)) := by rw [← d0]; exact b1.cell (p := ⟨g, 0, none⟩) (by simp only; omega)
            go_wp2_with fail
            refine (directive14_any x hxl _ HI).mono ?_
            rintro e2 w2 ⟨rfl, b2⟩
            have hB2 := below_of_below hB1 b2 hsz1
            have d2 : w2.cell? ⟨g, 0, none⟩ = some (.string (bs x)) := by rw [← d1]; exact b2.cell (p := ⟨g, 0, none⟩) (by simp only; omega)
            go_wp2_with fail
            have h5 := trimmed14_any (x.drop p) hdl w2 hv
            rw [show bs [96] = (⟨#[96]⟩ : ByteArray) from rfl] at h5
            refine h5.mono ?_
            rintro e3 w3 ⟨rfl, rfl⟩
            go_wp2_with fail
            go_roundw
            case rel => exact ⟨1, 96, by omega, rfl, by go_num, HD2, hB2⟩
            case measure => simp [intOf]
          · have HV : Hid (RES = .inl (4, 1, (p : Int))) := by
              show _ = _
              rw [← h]
              split
              · rename_i c
                rw [if_neg]
                rintro (rfl | rfl)
                · exact h92 rfl
                · exact h96 rfl
              · rfl
            have q1 : ((bs v).toList == [92]) = false := by rw [toList_bs, beq_eq_false_iff_ne]; exact h92
            have q2 : ((bs v).toList == [96]) = false := by rw [toList_bs, beq_eq_false_iff_ne]; exact h96
            clear h HD HP h92 h96
            go_wp2_with fail
            refine (directive14_any x hxl _ HI).mono ?_
            rintro e1 w1 ⟨rfl, b1⟩
            have hB1 := below_of_below hB b1 hsz
            have hsz1 := hB1.size
            have d1 : w1.cell? ⟨g, 0, none⟩ = some (.string (bs x)) := by rw [← d0]; exact b1.cell (p := ⟨g, 0, none⟩) (by simp only; omega)
            go_wp2_with fail
            refine (directive14_any x hxl _ HI).mono ?_
            rintro e2 w2 ⟨rfl, b2⟩
            have hB2 := below_of_below hB1 b2 hsz1
            have d2 : w2.cell? ⟨g, 0, none⟩ = some (.string (bs x)) := by rw [← d1]; exact b2.cell (p := ⟨g, 0, none⟩) (by simp only; omega)
            go_wp2_with fail
            have h5 := trimmed14_any (x.drop p) hdl w2 hv
            obtain ⟨V, hV⟩ : ∃ V, bs v = V := ⟨_, rfl⟩
            rw [hV] at h5 q1 q2
            clear hV
            refine h5.mono ?_
            rintro e3 w3 ⟨rfl, rfl⟩
            go_wp2_with fail
            go_returns
            exact ⟨by rw [HV.out]; rfl, hB2⟩
        · have HV : Hid (RES = .inl (11, 2, (Lx.headN x : Int) + 1)) := by show _ = _; rw [h, HX.out]; simp only [HP.out]; rfl
          have HH : Hid (Lx.headI x = (Lx.headN x : Int)) := Lib.hid (dir_head HP.out)
          have hhl : Lx.headN x ≤ 2000000 := Nat.le_trans (Lx.headN_le x) hxl
          obtain ⟨hd, hhd⟩ : ∃ hd, Lx.headN x = hd := ⟨_, rfl⟩
          rw [hhd] at HV HH hhl
          clear h HD HP hhd
          go_wp2_with fail
          refine (directive14_any x hxl _ HI).mono ?_
          rintro e1 w1 ⟨rfl, b1⟩
          have hB1 := below_of_below hB b1 hsz
          have d1 : w1.cell? ⟨g, 1, none⟩ = some (.string (bs x)) := by rw [← d0]; exact b1.cell (p := ⟨g, 1, none⟩) (by simp only; omega)
          go_wp2_with fail
          refine (head_any x hxl _ HH).mono ?_
          rintro e2 w2 ⟨rfl, rfl⟩
          go_wp2_with fail
          go_returns
          exact ⟨by rw [HV.out]; rfl, hB1⟩
    · have i0 : decide ((n : Int) < (N : Int)) = false := by rw [decide_eq_false_iff_not]; omega
      have HV : Hid (RES = .inr (n, e)) := by
        show _ = _
        rcases HD.out with ⟨rfl, rfl, h⟩ | ⟨rfl, h0, h⟩
        · have : L = [] := List.length_eq_zero_iff.1 (by rw [HN.out]; omega)
          rw [← h, this]; rfl
        · rw [h, List.getElem?_eq_none (by rw [HN.out]; omega)]
      clear HD
      go_wp2_with fail
      go_returns
      exact ⟨by rw [HV.out]; rfl, hB⟩
end Go.Proofs.YtpgnfianffjpnaaGreatDoor
