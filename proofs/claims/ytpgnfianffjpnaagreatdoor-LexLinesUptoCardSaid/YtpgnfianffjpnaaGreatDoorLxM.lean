/- lex's more, walked: a line is put behind another one. -/
import Derived.Test.YtpgnfianffjpnaaGreatDoorLxR
namespace Go.Proofs.YtpgnfianffjpnaaGreatDoor
open Go Go.RowKit

theorem step_appk {P : Program} {W W0 : World} {ops : Array Oper} {o : Oper} {a : Act} {K : Act → World → Prop} {Q : Exit → Act → World → Prop} {F : Prop} (hgd : o.guard = none) (s x : Operand) (t : TypeId)
    (ho : o.op = .call { callee := .builtin .append, args := #[s, x], argTypes := #[t, t] })
    {e : TypeId} {z : Value} {k bytes : Nat} (E : ElemK P t e z k bytes)
    (base : Nat) (v : Value) (n : Nat) (xs : List Value) (hs : a.eval s = v) (hown : W.ownsRow base e k v n xs)
    (ad : Addr) (m c : Nat) (news : List Value) (hx : a.eval x = .slice (some ad) m c) (hl : news.length = m * k) (hnews : ∀ j u, news[j]? = some u → W.cell? (ad.add j) = some u) (h1 : ∀ u ∈ news, u.oneCell' = true)
    (h63 : n + m ≤ 9223372036854775807) (hbytes : (n + m) * bytes ≤ 140737488355328) (hb : Below base W0 W) (hbase : base ≤ W.heap.size)
    (h : ∀ v' w', w'.ownsRow base e k v' (n + m) (xs ++ news) → Below base W0 w' → W.grownBy w' v.ownBlock → (v'.ownBlock = v.ownBlock ∨ v'.ownBlock = some W.heap.size) → K (a.put o.dst v') w') :
    if Region.wanted o (yielded ops a.tmps) = true then Oper.wp P o a W K Q else F := by
  obtain ⟨i, hi, hz, hsz, hby⟩ := info_parts E.hi
  have hw : Region.wanted o (yielded ops a.tmps) = true := by simp [Region.wanted, hgd]
  rw [if_pos hw]
  obtain ⟨v', w', hr, h2, h3, _, h5⟩ := run_append_own_at (P := P) W base t o.type e i z k bytes E.ht hi hz hsz hby E.hz E.h0 v n xs hown ad m c news hl hnews h1 (by unfold maxLen; omega) hbytes hbase
  unfold Oper.wp execOp
  simp only [ho, resolve, invoke, builtin, Sem.run_bind, Sem.run_pure, Result.andThen_ok, List.map_toArray, List.map_cons, List.map_nil, hs, hx, hr]
  exact h v' w' h2 (hb.grown h3 hbase (fun k hk => (hown.lt k hk).1)) h3 h5
/-- a line in the making, at B; its marks' row is vm. -/
structure Lb (w : World) (base B : Nat) (n : Int) (a : Lx.Acc) (vm : Value) : Prop where
  box : Blk w B 64 #[.int .i64 n, .string (bs a.1), vm, .slice none 0 0]
  own : w.ownsRow base 136 3 vm a.2.length (mkC a.2)
  hB : base ≤ B
theorem blk_ty {w : World} {g g' : Nat} {t t' : TypeId} {cs cs' : Array Value} (h : Blk w g t cs) (h' : Blk w g' t' cs') (hne : t ≠ t') : g ≠ g' := by
  rintro rfl
  unfold Blk at h h'
  rw [h] at h'
  injection h' with h'
  injection h' with _ h'
  exact hne h'
theorem own_blk {w : World} {base k n g : Nat} {e t : TypeId} {v : Value} {xs : List Value} {cs : Array Value} (h : w.ownsRow base e k v n xs) (h' : Blk w g t cs) (hne : e ≠ t) : v.ownBlock ≠ some g := by
  rcases h.2 with ⟨rfl, _⟩ | ⟨g', cap, cur, rfl, _, hg, _⟩
  · simp [Value.ownBlock]
  · intro he
    have : g' = g := by simpa [Value.ownBlock] using he
    subst this
    unfold Blk at h'
    rw [hg] at h'
    injection h' with h'
    injection h' with _ ht
    exact hne ht
section
variable {w w' : World} {base B : Nat} {n : Int} {a : Lx.Acc} {vm : Value} {S : Nat → Prop}
theorem Lb.fx (h : Lb w base B n a vm) (k : Fx S w w') (h1 : ¬ S B) (h2 : ∀ g, vm.ownBlock = some g → ¬ S g) : Lb w' base B n a vm := ⟨k.blk h.box h1, k.own h.own h2, h.hB⟩
theorem Lb.new (h : Lb w base B n a vm) (k : Below w.heap.size w w') : Lb w' base B n a vm :=
  h.fx (Fx.of_below k) (by have := h.box.lt; omega) (fun g hg => by have := (h.own.lt g hg).2; omega)
theorem Lb.row (h : Lb w base B n a vm) {r : Nat} (k : w.grownBy w' (some r)) (hr : r < base) : Lb w' base B n a vm :=
  h.fx (Fx.of_grown k) (fun e => by have := h.hB; injection e with e; omega) (fun g hg e => by have := (h.own.lt g hg).1; injection e with e; omega)
end
theorem onL_nil {e : UInt8} {y : List UInt8} (h : Lx.rgt y = []) : Lx.onL e y = false := by rw [Lx.onL, h]; rfl
theorem onL_last {e : UInt8} {y t : List UInt8} {z : UInt8} (h : Lx.rgt y = t ++ [z]) : Lx.onL e y = decide (z = e) := by
  rw [Lx.onL, h, List.getLast?_append]
  rw [Bool.eq_iff_iff]
  simp
/-- what is put behind. -/
def tailL (e : UInt8) (y : List UInt8) : List UInt8 := if Lx.onL e y then (Lx.rgt y).dropLast else y
theorem more_tail (e : UInt8) (a : Lx.Acc) (x : List UInt8) (n ahead : Nat) : Lx.moreL e a x n ahead = Lx.addL a (tailL e (x.drop ahead)) n ahead := by
  unfold Lx.moreL tailL
  split <;> rfl
theorem Lb.push {w3 : World} {base B : Nat} {n : Int} {t : List UInt8} {vm v1 : Value} {ms : List Lx.Mk} (hb : Blk w3 B 64 #[.int .i64 n, .string (bs t), vm, .slice none 0 0]) (ho : w3.ownsRow base 136 3 v1 ms.length (mkC ms)) (hB : base ≤ B) : Lb (w3.setCell ⟨B, 2, none⟩ v1) base B n (t, ms) v1 := by
  refine ⟨?_, ho.kept (setCell_grown w3 ⟨B, 2, none⟩ v1) (.inr (own_blk ho hb (by decide))), hB⟩
  have := hb.set_ 2 v1
  simpa using this
theorem Lb.text {w3 : World} {base B : Nat} {n : Int} {t t2 : List UInt8} {vm : Value} {ms : List Lx.Mk} (h : Lb w3 base B n (t, ms) vm) : Lb (w3.setCell ⟨B, 1, none⟩ (.string (bs t2))) base B n (t2, ms) vm := by
  refine ⟨?_, h.own.kept (setCell_grown w3 ⟨B, 1, none⟩ (.string (bs t2))) (.inr (own_blk h.own h.box (by decide))), h.hB⟩
  have := h.box.set_ 1 (.string (bs t2))
  simpa using this
set_option maxRecDepth 100000 in
set_option maxHeartbeats 8000000 in
theorem more_any {w : World} {R g c : Nat} {L : List (List UInt8)} {i : Nat} {e : UInt8} {base B : Nat} {n : Int} {a : Lx.Acc} {vm : Value} (x : List UInt8) (ahead : Nat)
    (hr : Rd w R g c L i e) (hl : Lb w base B n a vm) (hbase : base ≤ w.heap.size) (hx : x.length ≤ 2000000) (ha : ahead ≤ x.length) (ht : a.1.length ≤ 1000000000) (hm : a.2.length ≤ 1000000) :
    Calls Tryz.prog 94 #[.pointer (some ⟨R, 0, none⟩), .pointer (some ⟨B, 0, none⟩), .string (bs x), .int .i64 (ahead : Int)] w fun r w' =>
      r = .returned (.bool (Lx.onL e (x.drop ahead))) ∧ (∃ vm', Lb w' base B n (Lx.moreL e a x i ahead) vm') ∧ Below base w w' := by
  rw [more_tail]
  have hsl := slice_from x ahead (ahead : Int) rfl ha
  obtain ⟨y, hy⟩ : ∃ y, x.drop ahead = y := ⟨_, rfl⟩
  have hyl : y.length ≤ 2000000 := by rw [← hy, List.length_drop]; omega
  rw [hy] at hsl ⊢
  obtain ⟨t, hrt⟩ : ∃ t, Hid (Lx.rgt y = t) := ⟨_, Lib.hid rfl⟩
  have htl : t.length ≤ 2000000 := by
    have h := Lx.trimR_le y Gl.bls
    rw [show Lib.trimRightS y Gl.bls = t from hrt.out] at h
    omega
  obtain ⟨on, hon⟩ : ∃ on, Hid (Lx.onL e y = on) := ⟨_, Lib.hid rfl⟩
  obtain ⟨S, hS⟩ : ∃ S, Hid (bs t = S) := ⟨_, Lib.hid rfl⟩
  have HZ : Hid (S.size = t.length) := Lib.hid (by rw [← hS.out]; exact bs_size t)
  have hzl : S.size ≤ 2000000 := by rw [HZ.out]; exact htl
  have hcall : ∀ w, Calls Tryz.prog 87 #[.string (bs y), .string ⟨#[32, 9, 13]⟩] w fun e w' => e = .returned (.string S) ∧ Below w.heap.size w w' := fun w => by
    rw [← hS.out]
    exact trimRight_any y w (by omega) hrt
  have HCL := Lib.hid hcall
  have hbe : e.toNat < 256 := UInt8.toNat_lt _
  have HR := Lib.hid hr
  have HL := Lib.hid hl
  obtain ⟨T, hT⟩ : ∃ T, Hid (tailL e y = T) := ⟨_, Lib.hid rfl⟩
  have HTT : Hid (T = if on then t.dropLast else y) := by
    show _ = _
    rw [← hT.out, tailL, hon.out, hrt.out]
  rw [hT.out, hon.out]
  clear hr hl hy hcall
  go_enter Tryz.func94, Tryz.ntmps94
  go_wp2_with fail
  refine (HCL.out _).mono ?_
  rintro r w1 ⟨rfl, b1⟩
  have hR1 := HR.out.new b1
  have hL1 := HL.out.new b1
  have hbs1 := b1.size
  have hBl := b1.mono hbase
  have HR1 := Lib.hid hR1
  have HL1 := Lib.hid hL1
  have e2 : w1.cell? ⟨R, 2, none⟩ = some (.int .u8 (e.toNat : Int)) := hR1.box.cell 2
  have HBl := Lib.hid hBl
  clear hR1 hL1 b1 hBl HR HL
  go_upto_region 3 with fail
  go_cut [10] (fun s10 wx => s10 = .bool on ∧ ∃ k, wx = w1.drewN k)
  case first =>
    have hcase : (t = [] ∧ S = ⟨#[]⟩) ∨ ∃ t' z, t = t' ++ [z] := by
      rcases List.eq_nil_or_concat t with h | ⟨t', z, h⟩
      · exact .inl ⟨h, by rw [← hS.out, h]; rfl⟩
      · exact .inr ⟨t', z, by rw [h, List.concat_eq_append]⟩
    rcases hcase with ⟨h0, h1⟩ | ⟨t', z, h0⟩
    · have HN : Hid (on = false) := by show _ = _; rw [← hon.out, onL_nil (hrt.out.trans h0)]
      have z1 : S.toList.isEmpty = true := by rw [h1, show (⟨#[]⟩ : ByteArray) = bs [] from rfl, toList_bs]; rfl
      have z2 : S.toList = [] := by rw [h1, show (⟨#[]⟩ : ByteArray) = bs [] from rfl, toList_bs]
      clear h0 h1 hzl
      go_quiet (fail)
      go_wp2_with fail
      go_meet
      exact ⟨by rw [HN.out], _, rfl⟩
    · have hlast := onL_last (e := e) (hrt.out.trans h0)
      rw [hon.out] at hlast
      have hsz := HZ.out
      rw [h0, List.length_append, List.length_singleton] at hsz
      have z1 : S.toList.isEmpty = false := by rw [← hS.out, h0, toList_bs]; simp
      have z3 : IntKind.i64.wrap ((S.size : Int) - 1) = (t'.length : Int) := by rw [IntWalk.i64_in _ (by omega)]; omega
      have z4 : t'.length < S.size := by omega
      have z5 : (t'.length : Int) < (S.size : Int) := by omega
      have z6 : (0 : Int) ≤ (t'.length : Int) := by omega
      have z7 : S[t'.length]'z4 = z := by
        have h2 := hS.out
        rw [h0] at h2
        subst h2
        show (t' ++ [z])[t'.length]'(by simp) = z
        simp
      have q := u8_eq z e
      generalize decide (z = e) = d at *
      have HON := Lib.hid hlast
      have hby : z.toNat < 256 := UInt8.toNat_lt _
      clear hlast hsz hzl h0
      cases d <;> (
        go_quiet (fail)
        go_wp2_with fail
        go_meet
        exact ⟨by rw [HON.out], _, rfl⟩)
  case rest =>
    obtain ⟨rfl, k, hwx⟩ := hcut
    rw [hwx]
    clear hwx
    have hR2 := HR1.out.new (below_drewN (Below.refl _ _) k)
    have hL2 := HL1.out.new (below_drewN (Below.refl _ _) k)
    have hB2 := below_drewN HBl.out k
    obtain ⟨w2, hw2⟩ : ∃ w2, w1.drewN k = w2 := ⟨_, rfl⟩
    rw [hw2] at hR2 hL2 hB2
    rw [hw2]
    have hbs2 : base ≤ w2.heap.size := by rw [← hw2]; show base ≤ w1.heap.size; omega
    have HR2 := Lib.hid hR2
    have HL2 := Lib.hid hL2
    have HB2 := Lib.hid hB2
    clear hw2 hR2 hL2 hB2 HR1 HL1 HBl e2
    have hTl : T.length ≤ 2000000 := by
      rw [HTT.out]
      split
      · rw [List.length_dropLast]; omega
      · exact hyl
    go_upto_if 30 with fail
    go_cut [2] (fun s2 wx => s2 = .string (bs T) ∧ wx = w2)
    case first =>
      cases on with
      | true =>
        have hpos : 1 ≤ t.length := by
          rcases Nat.lt_or_ge 0 t.length with h | h
          · exact h
          · exact absurd ((onL_nil (hrt.out.trans (List.eq_nil_of_length_eq_zero (by omega)))).symm.trans hon.out) (by decide)
        have hsl2 := slice_to t (t.length - 1) ((S.size : Int) - 1) (by rw [HZ.out]; omega) (by omega)
        rw [hS.out] at hsl2
        have HE : Hid (bs (t.take (t.length - 1)) = bs T) := by
          show _ = _
          rw [HTT.out, if_pos rfl, List.dropLast_eq_take]
        rw [HE.out] at hsl2
        have hp2 : 1 ≤ S.size := by rw [HZ.out]; exact hpos
        clear hpos HTT
        go_wp2_with fail
        go_meet
        exact ⟨rfl, rfl⟩
      | false =>
        have HE : Hid (T = y) := by show _ = _; rw [HTT.out]; rfl
        clear HTT
        go_wp2_with fail
        go_meet
        exact ⟨by rw [HE.out], rfl⟩
    case rest =>
      obtain ⟨rfl, hwx⟩ := hcut
      rw [hwx]
      clear hwx HTT hzl
      obtain ⟨V, hV⟩ : ∃ V, Hid (bs T = V) := ⟨_, Lib.hid rfl⟩
      rw [hV.out]
      have hVs : V.size ≤ 2000000 := by rw [← hV.out, bs_size]; exact hTl
      rcases (show T = [] ∨ T ≠ [] from by cases T <;> simp) with h0 | h0
      · have z1 : V.toList.isEmpty = true := by rw [← hV.out, toList_bs, h0]; rfl
        have z2 : V.toList = [] := by rw [← hV.out, toList_bs, h0]
        have HA : Hid (Lx.addL a T i ahead = a) := by show _ = _; rw [Lx.addL, if_pos h0]
        clear h0
        go_wp2_with fail
        go_ret
        refine ⟨rfl, ⟨vm, ?_⟩, HB2.out⟩
        rw [HA.out]
        exact HL2.out
      · have z1 : V.toList.isEmpty = false := by
          rw [← hV.out, toList_bs]
          cases T with
          | nil => exact absurd rfl h0
          | cons x r => rfl
        have HA : Hid (Lx.addL a T i ahead = (a.1 ++ T, a.2 ++ [⟨(a.1.length : Int), (i : Int), (ahead : Int) + 1⟩])) := by show _ = _; rw [Lx.addL, if_neg h0]
        have hbox := HL2.out.box
        have hown := HL2.out.own
        have d1 : w2.cell? ⟨B, 1, none⟩ = some (.string (bs a.1)) := hbox.cell 1
        have d2 : w2.cell? ⟨B, 2, none⟩ = some vm := hbox.cell 2
        have g1 := hbox.frozen 1
        have g2 := hbox.frozen 2
        have hBlt := hbox.lt
        obtain ⟨AA, ca, hvm⟩ := ownk_form hown
        subst hvm
        have hneB := own_blk hown hbox (by decide)
        have hzA := bs_size a.1
        have HZA := Lib.hid hzA
        have hal : ((a.1.length : Nat) : Int) = ((bs a.1).size : Int) := by rw [hzA]
        have HAL := Lib.hid hal
        have hzA2 : (bs a.1).size ≤ 1000000000 := by omega
        clear h0 hzA hal
        go_upto_region 7 with fail
        have hb2 := HB2.out
        have hbB := HL2.out.hB
        have HWA : Hid (IntKind.i64.wrap ((ahead : Int) + 1) = (ahead : Int) + 1) := Lib.hid (IntWalk.i64_in _ (by omega))
        go_cut [] (fun wx => ∃ v1, Lb wx base B n (a.1, a.2 ++ [⟨(a.1.length : Int), (i : Int), (ahead : Int) + 1⟩]) v1 ∧ Below base w wx)
        case first =>
          go_region_law (first | (go_simp; go_at_call 91; refine (number_any (by first | exact HR2.out | exact HR2.out.new (Below.refl _ _).drew | exact HR2.out.new ((Below.refl _ _).alloc (Nat.le_refl _) _).drew | exact HR2.out.new ((Below.refl _ _).alloc (Nat.le_refl _) _))).mono ?_; rintro r w9 ⟨rfl, rfl⟩) | (refine step_appk rfl _ _ _ rfl markK _ _ _ _ rfl (hown.alloc _) _ _ _ _ rfl rfl (news_at _ _ (by simp) _ _) (by simp [Value.oneCell']) (by omega) (by omega) (hb2.alloc hbs2 _).drew (by simp; omega) ?_; intro v1 w3 ho1 hb1 hg1 hat1; obtain ⟨B1, q1, rfl⟩ := ownk_form ho1; have hbx1 := hg1.block B (by simp; omega) (fun e => hneB e.symm); have hbx2 : Blk w3 B 64 #[.int .i64 n, .string (bs a.1), .slice AA a.2.length ca, .slice none 0 0] := hbx1.trans (Blk.alloc hbox _); have kB1 : w3.cell? ⟨B, 1, none⟩ = some (.string (bs a.1)) := hbx2.cell 1; have kB2 : w3.cell? ⟨B, 2, none⟩ = some (.slice AA a.2.length ca) := hbx2.cell 2; have fB1 := hbx2.frozen 1; have fB2 := hbx2.frozen 2; clear hbx1))
          all_goals (
            go_wp2_with fail
            go_meet
            refine ⟨_, Lb.push hbx2 (by rw [mkC_snoc, List.length_append, mkL, HAL.out]; rw [HWA.out] at ho1; exact ho1) hbB, hb1.setCell (p := ⟨B, 2, none⟩) hbB _⟩)
        case rest =>
          obtain ⟨v1, hL3, hB3⟩ := hcut
          have k1 : wc.cell? ⟨B, 1, none⟩ = some (.string (bs a.1)) := hL3.box.cell 1
          have m1 := hL3.box.frozen 1
          have HF : Hid (Lb (wc.setCell ⟨B, 1, none⟩ (.string (bs (a.1 ++ T)))) base B n (a.1 ++ T, a.2 ++ [⟨(a.1.length : Int), (i : Int), (ahead : Int) + 1⟩]) v1) := hL3.text
          have hadd : bs a.1 ++ V = bs (a.1 ++ T) := by rw [← hV.out, bs_append]
          have HADD := Lib.hid hadd
          have HBF := Lib.hid (hB3.setCell (p := ⟨B, 1, none⟩) hbB (.string (bs (a.1 ++ T))))
          clear hL3 hB3 d1 d2 g1 g2 hbox hown hadd
          go_wp2_with fail
          go_ret
          refine ⟨rfl, ⟨v1, ?_⟩, ?_⟩
          · rw [HA.out, HADD.out]
            exact HF.out
          · rw [HADD.out]
            exact HBF.out
end Go.Proofs.YtpgnfianffjpnaaGreatDoor
