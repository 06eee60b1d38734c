/- strataref18.cut, walked. -/
import Derived.Test.YtdaejggcjjdhkaaGreatDoorCkY
import Derived.Test.YtdaejggcjjdhkaaGreatDoorMkG
import Derived.Test.YtdaejggcjjdhkaaGreatDoorMkA
namespace Go.Proofs.YtdaejggcjjdhkaaGreatDoor
open Go Go.RowKit
theorem eq_int (c k : UInt8) : ((c.toNat : Int) == (k.toNat : Int)) = (c == k) := by
  have h := ne_int c k
  rw [bne] at h
  cases hx : ((c.toNat : Int) == (k.toNat : Int)) <;> cases hy : (c == k) <;> simp_all
theorem slice18 (s : ByteArray) (a b : Nat) (ai bi : Int) (ha : ai = (a : Int)) (hb : bi = (b : Int)) (hab : a ≤ b) (hbs : b ≤ s.size) : ∀ wx, (Instr.slice 9 (.string s) (some (.int .i64 ai)) (some (.int .i64 bi)) none).run Tryz.prog wx = .ok (.string (s.extract a b)) wx := by
  subst ha hb
  intro wx
  rw [run_slice_string _ _ _ _ _ _ _ Tryz.underlying9 (by omega) (by omega) (by omega)]
  simp
theorem one_ext (l : List UInt8) (i : Nat) (hi : i < l.length) : (bs l).extract i (i + 1) = bs [l[i]] := by
  rw [show (bs l).extract i (i + 1) = bs (((bl (bs l)).drop i).take (i + 1 - i)) by rw [← bl_extract, bs_bl], bl_bs, List.drop_eq_getElem_cons hi, show i + 1 - i = 1 by omega]
  rfl
theorem own_pos {w : World} {b : Nat} {e : TypeId} {k n : Nat} {v : Value} {xs : List Value} (h : w.ownsRow b e k v n xs) (hn : 0 < n) : ∃ g c, v = .slice (some ⟨g, 0, none⟩) n c ∧ b ≤ g ∧ g < w.heap.size := by
  rcases h.2 with ⟨_, q⟩ | ⟨g, cap, cur, q, q1, q2, _⟩
  · omega
  · exact ⟨g, cap, q, q1, by
      rcases Nat.lt_or_ge g w.heap.size with r | r
      · exact r
      · rw [Array.getElem?_eq_none r] at q2; cases q2⟩
theorem sc_last (out : List (List UInt8)) (c d : List UInt8) : (sc (out ++ [c])).set out.length (.string (bs d)) = sc (out ++ [d]) := by
  simp [sc]
set_option maxRecDepth 100000 in
set_option maxHeartbeats 2000000 in
theorem cut18_any (s : List UInt8) (hs : s.length ≤ 70000) (k : UInt8) (w : World) :
    Calls Tryz.prog 105 #[.string (bs s), .int .u8 (k.toNat : Int)] w fun r w' => ∃ v, r = .returned v ∧ w'.ownsRow w.heap.size 9 1 v (Gl.cutL k s).length (sc (Gl.cutL k s)) ∧ Below w.heap.size w w' := by
  have hz := bs_size s
  have HZ := Lib.hid hz
  have hs2 : (bs s).size ≤ 70000 := by omega
  have hO0 : Hid ((w.alloc (.cells [Value.string ⟨#[]⟩].toArray 9)).ownsRow w.heap.size 9 1 (.slice (some ⟨w.heap.size, 0, none⟩) 1 1) 1 (sc ([] ++ [[]]))) := Lib.hid (own_new w w.heap.size [Value.string ⟨#[]⟩] 9 1 rfl (by omega) (Nat.le_refl _))
  have hB0 : Hid (Below w.heap.size w (w.alloc (.cells [Value.string ⟨#[]⟩].toArray 9))) := Lib.hid ((Below.refl _ _).alloc (Nat.le_refl _) _)
  clear hz
  go_enter Tryz.func105, Tryz.ntmps105
  go_wp2_with fail
  go_loopw [5, 6] (fun t5 t6 wr => ∃ (i m g cap : Nat) (out : List (List UInt8)) (cur : List UInt8), i ≤ (bs s).size ∧ out.length = m ∧ t5 = .slice (some ⟨g, 0, none⟩) (m + 1) cap ∧ t6 = .int .i64 (i : Int) ∧ m ≤ i ∧ cur.length ≤ i ∧ Hid (wr.ownsRow w.heap.size 9 1 (.slice (some ⟨g, 0, none⟩) (m + 1) cap) (m + 1) (sc (out ++ [cur]))) ∧ Hid (Gl.cutL k s = out ++ Ck.glue cur (Gl.cutL k (s.drop i))) ∧ Hid (Below w.heap.size w wr)) (fun _ t6 _ => (bs s).size - (intOf t6).toNat)
  case atStart => exact ⟨0, 0, _, _, [], [], by omega, rfl, rfl, rfl, by omega, by simp, hO0, Lib.hid (by rw [List.drop_zero, Ck.glue_nil]; rfl), hB0⟩
  case round =>
    clear hO0 hB0
    rename World => wr
    obtain ⟨i, m, g, cap, out, cur, hi, hm, rfl, rfl, hmi, hci, HO, HL, HB⟩ := hrel
    have j0 : (0 : Int) ≤ (i : Int) := by omega
    rcases Nat.lt_or_ge i (bs s).size with hin | hin
    · have i0 : decide ((i : Int) < ((bs s).size : Int)) = true := by rw [decide_eq_true_eq]; omega
      have i1 : (i : Int) < ((bs s).size : Int) := by omega
      have hil : i < s.length := by rw [← HZ.out]; exact hin
      obtain ⟨c, hc⟩ : ∃ c, (bs s)[i]'hin = c := ⟨_, rfl⟩
      have hcs : s[i] = c := hc
      have hdr : s.drop i = c :: s.drop (i + 1) := by rw [List.drop_eq_getElem_cons hil, hcs]
      have HOX : Hid ((bs s).extract i (i + 1) = bs [c]) := Lib.hid (by rw [one_ext s i hil, hcs])
      have hby : c.toNat < 256 := UInt8.toNat_lt _
      have e0 := eq_int c k
      obtain ⟨q, hq⟩ : ∃ q, ((c.toNat : Int) == (k.toNat : Int)) = q := ⟨_, rfl⟩
      have HQ : Hid ((c == k) = q) := Lib.hid (e0.symm.trans hq)
      have HDR := Lib.hid hdr
      have HSL := Lib.hid (slice18 (bs s) i (i + 1) (i : Int) ((i : Int) + 1) rfl (by omega) (by omega) (by omega))
      clear e0 hdr hcs
      cases q with
      | true =>
        have hck : c = k := beq_iff_eq.1 HQ.out
        have HL2 : Hid (Gl.cutL k s = (out ++ [cur]) ++ Ck.glue [] (Gl.cutL k (s.drop (i + 1)))) := Lib.hid (by rw [HL.out, HDR.out, hck, Ck.glue_hit, List.append_assoc]; rfl)
        clear hck
        go_wp2_with (at_builtin; refine wpList_appS rfl _ _ _ rfl strT w.heap.size _ (m + 1) (sc (out ++ [cur])) rfl (HO.out.alloc _) _ 1 [Value.string ⟨#[]⟩] rfl (newA rfl) rfl (fun u hu => by rw [List.mem_singleton] at hu; subst hu; rfl) (by omega) (by omega) (Below.refl _ _) (by rw [World.size_alloc]; have := HB.out.size; omega) ?_; intro v1 w9 ho1 hb1 hg1 hat1; have HO9 : Hid (w9.ownsRow w.heap.size 9 1 v1 (m + 1 + 1) (sc ((out ++ [cur]) ++ [[]]))) := Lib.hid (by rw [sc_append (out ++ [cur])]; exact ho1); have HB9 := Lib.hid ((HB.out.alloc HB.out.size _).trans hb1); obtain ⟨g9, c9, rfl, _, _⟩ := own_pos ho1 (by omega); clear ho1 hb1 hg1 hat1)
        go_roundw
        case rel => first | exact ⟨i + 1, m + 1, g9, c9, out ++ [cur], [], by omega, by simp [hm], rfl, by go_num, by omega, by simp, HO9, HL2, HB9⟩ | exact ⟨_, _, ⟨i + 1, m + 1, g9, c9, out ++ [cur], [], by omega, by simp [hm], rfl, by go_num, by omega, by simp, HO9, HL2, HB9⟩, rfl, rfl⟩
        case measure => simp [intOf]; omega
      | false =>
        have hck : ¬ c = k := fun r => by have := HQ.out; rw [beq_eq_false_iff_ne] at this; exact this r
        have HL2 : Hid (Gl.cutL k s = out ++ Ck.glue (cur ++ [c]) (Gl.cutL k (s.drop (i + 1)))) := Lib.hid (by rw [HL.out, HDR.out, Ck.glue_go k cur _ hck])
        clear hck
        have c1 : wr.cell? ⟨g, m, none⟩ = some (.string (bs cur)) := by
          have r := HO.out.cellAt m (by omega)
          rw [r, ← hm]
          simp [sc]
        have f1 : wr.frozen? ⟨g, m, none⟩ = false := HO.out.frozenAt m
        obtain ⟨V, hV⟩ : ∃ V, bs cur ++ bs [c] = V := ⟨_, rfl⟩
        have hzc := bs_size cur
        have hz1 := bs_size [c]
        have ad1 : ∀ w, (Op.stringOp .add (bs cur) (bs [c])).run Tryz.prog w = .ok (.string V) w := fun w => by rw [← hV]; exact run_string_add_sum w _ _ (by simp at hz1; omega)
        have HVV : Hid (V = bs (cur ++ [c])) := by show _ = _; rw [← hV, bs_append]
        have hsl := HSL.out
        rw [HOX.out] at hsl
        have HN : Hid ((wr.setCell ⟨g, m, none⟩ (.string V)).ownsRow w.heap.size 9 1 (.slice (some ⟨g, 0, none⟩) (m + 1) cap) (m + 1) (sc (out ++ [cur ++ [c]]))) := Lib.hid (by
          have r := (HO.out.stored m (.string V)).1
          rw [← hm, HVV.out, sc_last] at r
          rw [← hm, HVV.out]
          exact r)
        have hgb : w.heap.size ≤ g := by
          obtain ⟨g', c', e', q1, _⟩ := own_pos HO.out (by omega)
          injection e' with e' _ _
          injection e' with e'
          injection e' with e'
          omega
        have HB2 := Lib.hid (HB.out.setCell (p := ⟨g, m, none⟩) hgb (.string V))
        have w1 : ((m + 1 : Nat) : Int) - 1 = (m : Int) := by omega
        have hm6 : m ≤ 70000 := by omega
        clear hz1 hzc hV hgb
        go_upto_region 7 with fail
        go_region
        all_goals (
          go_wp2_with fail
          exact ⟨⟨i + 1, m, g, cap, out, cur ++ [c], by omega, hm, rfl, by go_num, by omega, by simp; omega, Lib.hid (own_below HN.out (Below.refl _ _).drew), HL2, Lib.hid HB2.out.drew⟩, by simp [intOf]; omega⟩)
    · have i0 : decide ((i : Int) < ((bs s).size : Int)) = false := by rw [decide_eq_false_iff_not]; omega
      have e0n : decide (i < (bs s).size) = false := by rw [decide_eq_false_iff_not]; omega
      have HE : Hid (Gl.cutL k s = out ++ [cur]) := Lib.hid (by rw [HL.out, List.drop_eq_nil_of_le (by have := HZ.out; omega), Ck.glue_end])
      go_wp2_with fail
      go_ret
      refine ⟨_, rfl, ?_, HB.out⟩
      rw [HE.out, List.length_append, hm]
      exact HO.out
end Go.Proofs.YtdaejggcjjdhkaaGreatDoor
