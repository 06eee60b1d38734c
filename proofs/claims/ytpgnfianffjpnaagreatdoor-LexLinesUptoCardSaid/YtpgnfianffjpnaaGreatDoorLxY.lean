/- lex.Lines, walked. -/
import Derived.Test.YtpgnfianffjpnaaGreatDoorLxX
namespace Go.Proofs.YtpgnfianffjpnaaGreatDoor
open Go Go.RowKit

/-- what Lines answers. -/
def LnsAns (w w' : World) (RES : Lx.Err ⊕ (UInt8 × List Lx.Ln)) (r : Ending) : Prop := match RES with
  | .inl z => r = .returned (.tuple #[.int .u8 0, .slice none 0 0, eFault (z.1 : Int) z.2.1 z.2.2])
  | .inr (e, ls) => ∃ v cs, r = .returned (.tuple #[.int .u8 (e.toNat : Int), v, .nilIface]) ∧ w'.ownsRow w.heap.size 64 4 v ls.length cs ∧ LnOwn w' w.heap.size w'.heap.size ls cs
/-- the reader in the midst of the lines. -/
structure Rl (w wr : World) (b0 : Nat) (R g c : Nat) (L : List (List UInt8)) (i : Nat) (e : UInt8) (v : Value) (ls : List Lx.Ln) (cs : List Value) : Prop where
  rd : Rd wr R g c L i e
  own : wr.ownsRow b0 64 4 v ls.length cs
  rows : LnOwn wr w.heap.size wr.heap.size ls cs
  bel : Below w.heap.size w wr
  hR : w.heap.size ≤ R
  hg : w.heap.size ≤ g
  ev : ErrVar w
  Rb : R < b0
  gb : g < b0
  sz : b0 ≤ wr.heap.size
theorem Rl.new {w wr w' : World} {b0 R g c : Nat} {L : List (List UInt8)} {i : Nat} {e : UInt8} {v : Value} {ls : List Lx.Ln} {cs : List Value} (h : Rl w wr b0 R g c L i e v ls cs) (k : Below wr.heap.size wr w') : Rl w w' b0 R g c L i e v ls cs :=
  ⟨h.rd.new k, own_below h.own k, (h.rows.new k).more k.size, below_of_below h.bel k h.bel.size, h.hR, h.hg, h.ev, h.Rb, h.gb, Nat.le_trans h.sz k.size⟩
theorem blk_is {w : World} {b : Nat} {t e : TypeId} {cs ys : Array Value} (h : Blk w b t cs) (h' : w.heap[b]? = some (.cells ys e (0, 0))) : e = t := by
  unfold Blk at h
  rw [h] at h'
  injection h' with h'
  injection h' with _ h'
  exact h'.symm
theorem Rl.read {w wr w' : World} {b0 R g c : Nat} {L : List (List UInt8)} {i j : Nat} {e : UInt8} {v : Value} {ls : List Lx.Ln} {cs : List Value} (h : Rl w wr b0 R g c L i e v ls cs) (k : Fx (· = R) wr w') (hr : Rd w' R g c L j e) : Rl w w' b0 R g c L j e v ls cs := by
  refine ⟨hr, k.own h.own (fun b hb e => own_blk h.own h.rd.box (by decide) (by rw [← e]; exact hb)), ?_, ?_, h.hR, h.hg, h.ev, h.Rb, h.gb, Nat.le_trans h.sz k.size⟩
  · refine (h.rows.fx k fun b ys e hb hy => ?_).more k.size
    subst hb
    have := blk_is h.rd.box hy
    subst this
    exact ⟨by decide, by decide⟩
  · exact (Fx.of_below h.bel |>.then k (fun b _ e => by rw [e]; exact h.hR)).to_below (Nat.le_refl _) (fun b hb => hb)
theorem Rl.err {w wr : World} {b0 R g c : Nat} {L : List (List UInt8)} {i : Nat} {e : UInt8} {v : Value} {ls : List Lx.Ln} {cs : List Value} (h : Rl w wr b0 R g c L i e v ls cs) : ErrVar wr := h.ev.below h.bel h.ev.lt
def withE (e : UInt8) (x : Lx.Err ⊕ List Lx.Ln) : Lx.Err ⊕ (UInt8 × List Lx.Ln) := match x with
  | .inl z => .inl z
  | .inr ls => .inr (e, ls)
theorem Rl.rows_fx {w wr w' : World} {b0 R g c : Nat} {L : List (List UInt8)} {i : Nat} {e : UInt8} {v : Value} {ls : List Lx.Ln} {cs : List Value} (h : Rl w wr b0 R g c L i e v ls cs) (k : Fx (· = R) wr w') : LnOwn w' w.heap.size wr.heap.size ls cs := by
  refine h.rows.fx k fun b ys e hb hy => ?_
  subst hb
  have := blk_is h.rd.box hy
  subst this
  exact ⟨by decide, by decide⟩
theorem Rl.push {w w8 w9 : World} {b0 R g c : Nat} {L : List (List UInt8)} {m mid : Nat} {e : UInt8} {v v' vm vd : Value} {ls : List Lx.Ln} {cs : List Value} {l : Lx.Ln} {o : Obj} (h : Rl w w8 b0 R g c L m e v ls cs) (hr : LnOwn w8 w.heap.size mid ls cs)
    (hvm : w8.ownsRow mid 136 3 vm l.marks.length (mkC l.marks)) (hvd : w8.ownsRow mid 83 4 vd l.docs.length (dcC l.docs)) (hmid : mid ≤ w8.heap.size)
    (ho : w9.ownsRow b0 64 4 v' (ls.length + 1) (cs ++ [.int .i64 l.line, .string (bs l.text), vm, vd])) (hg : (w8.alloc o).grownBy w9 v.ownBlock) :
    Rl w w9 b0 R g c L m e v' (ls ++ [l]) (cs ++ [.int .i64 l.line, .string (bs l.text), vm, vd]) := by
  have hbl := (Below.refl w8.heap.size w8).alloc (Nat.le_refl _) o
  have hA := h.new hbl
  have hF : Fx (fun b => v.ownBlock = some b) (w8.alloc o) w9 := Fx.of_grown hg
  have hvb : ∀ b ys e, v.ownBlock = some b → (w8.alloc o).heap[b]? = some (.cells ys e (0, 0)) → e = 64 := fun b ys e hb hy => by
    rcases hA.own.2 with ⟨rfl, _⟩ | ⟨g', cap, cur, rfl, _, hg', _⟩
    · cases hb
    · have : g' = b := by simpa [Value.ownBlock] using hb
      subst this
      rw [hg'] at hy
      injection hy with hy
      injection hy with _ hy
      exact hy.symm
  have hsz := hg.size
  rw [World.size_alloc] at hsz
  have hb0 : ∀ b, v.ownBlock = some b → b0 ≤ b := fun b hb => (h.own.lt b hb).1
  have hRb := h.Rb
  have hgb := h.gb
  have hwR := h.hR
  refine ⟨hA.rd.fx hF (fun e => by have := hb0 _ e; omega) (fun e => by have := hb0 _ e; omega), ?_, ?_, h.bel.trans (by exact Fx.to_below ((Fx.new hbl).then hF (fun b hb e => e) : Fx (fun b => v.ownBlock = some b) w8 w9) h.bel.size (fun b hb => by have := hb0 _ hb; omega)), h.hR, h.hg, h.ev, hRb, hgb, by have := h.sz; omega⟩
  · rw [List.length_append, List.length_singleton]; exact ho
  · have h1 : LnOwn w9 w.heap.size mid ls cs := (hr.new hbl).fx hF fun b ys e hb hy => by
      have := hvb b ys e hb hy
      subst this
      exact ⟨by decide, by decide⟩
    have h2 := (own_below hvm hbl).kept hg (own_own (own_below hvm hbl) hA.own (by decide))
    have h3 := (own_below hvd hbl).kept hg (own_own (own_below hvd hbl) hA.own (by decide))
    exact h1.snoc (by omega) h2 (fun b hb => (h2.lt b hb).2) h3 (fun b hb => (h3.lt b hb).2)
theorem wrongL_pos : ∀ (l : List UInt8) (k i line f a b : Nat), 1 ≤ line → Lx.wrongL l k i line f = some (a, b) → 1 ≤ a
  | [], k, i, line, f, a, b, _, h => by rw [Lx.wrongL] at h; cases h
  | _ :: r, k + 1, i, line, f, a, b, h1, h => by rw [Lx.wrongL] at h; exact wrongL_pos r k (i + 1) line f a b h1 h
  | c :: r, 0, i, line, f, a, b, h1, h => by
    rw [Lx.wrongL] at h
    split at h
    · injection h with h; injection h with h _; omega
    · refine wrongL_pos r _ _ _ _ a b ?_ h
      split <;> omega
theorem wrong_none {s : List UInt8} (hs : s.length ≤ 2000000) (w : World) (hT : Tabs w) (H : Lx.wrongL s 0 0 1 0 = none) : Calls Tryz.prog 37 #[.string (bs s)] w fun e w' => e = .returned (.tuple #[.int .i64 0, .int .i64 0]) ∧ Below w.heap.size w w' := wrongText_any s hs w hT (Lib.hid H)
theorem wrong_some {s : List UInt8} (hs : s.length ≤ 2000000) (w : World) (hT : Tabs w) {l a : Nat} (H : Lx.wrongL s 0 0 1 0 = some (l, a)) : Calls Tryz.prog 37 #[.string (bs s)] w fun e w' => e = .returned (.tuple #[.int .i64 (l : Int), .int .i64 (a : Int)]) ∧ Below w.heap.size w w' := wrongText_any s hs w hT (Lib.hid H)
theorem directives_err {w : World} {R g c : Nat} {L : List (List UInt8)} (hr : Rd w R g c L 0 92) (hm : Maxl w) (hL : L.length ≤ 5000) (hx : Hid (∀ x ∈ L, x.length ≤ 70000)) {z : Lx.Err} (H : Hid (Lx.dirsL L = .inl z)) :
    Calls Tryz.prog 39 #[.pointer (some ⟨R, 0, none⟩)] w fun r w' => r = .returned (eFault (z.1 : Int) z.2.1 z.2.2) ∧ Fx (· = R) w w' := (directives_any hr hm hL hx H).mono fun _ _ ⟨h1, h2⟩ => ⟨h1, h2⟩
theorem directives_ok {w : World} {R g c : Nat} {L : List (List UInt8)} (hr : Rd w R g c L 0 92) (hm : Maxl w) (hL : L.length ≤ 5000) (hx : Hid (∀ x ∈ L, x.length ≤ 70000)) {n : Nat} {e : UInt8} (H : Hid (Lx.dirsL L = .inr (n, e))) :
    Calls Tryz.prog 39 #[.pointer (some ⟨R, 0, none⟩)] w fun r w' => r = .returned .nilIface ∧ (n ≤ L.length ∧ Rd w' R g c L n e) ∧ Fx (· = R) w w' := (directives_any hr hm hL hx H).mono fun _ _ ⟨h1, h2⟩ => ⟨h1.1, h1.2, h2⟩
theorem documents_err {w : World} {R g c : Nat} {L : List (List UInt8)} {i : Nat} {e : UInt8} {B base : Nat} {ln : Lx.Ln} {vm : Value} (hk : Dk w w R g c L i e B base ln vm (.slice none 0 0) []) (hv : ErrVar w) (hi : i ≤ L.length) (hL : L.length ≤ 5000) (hx : Hid (∀ x ∈ L, x.length ≤ 70000)) (ht : ln.text.length ≤ 2000000) (hn : ln.marks.length ≤ 1000000)
    {z : Lx.Err} (H : Hid (Lx.docsL e L ln i = .inl z)) :
    Calls Tryz.prog 42 #[.pointer (some ⟨R, 0, none⟩), .pointer (some ⟨B, 0, none⟩)] w fun r w' => r = .returned (eFault (z.1 : Int) z.2.1 z.2.2) ∧ Fx (fun b => b = R ∨ b = B) w w' :=
  (documents_any hk hv hi hL hx ht hn H).mono fun _ _ ⟨h1, h2⟩ => ⟨h1, h2⟩
theorem documents_ok {w : World} {R g c : Nat} {L : List (List UInt8)} {i : Nat} {e : UInt8} {B base : Nat} {ln : Lx.Ln} {vm : Value} (hk : Dk w w R g c L i e B base ln vm (.slice none 0 0) []) (hv : ErrVar w) (hi : i ≤ L.length) (hL : L.length ≤ 5000) (hx : Hid (∀ x ∈ L, x.length ≤ 70000)) (ht : ln.text.length ≤ 2000000) (hn : ln.marks.length ≤ 1000000)
    {ds : List Lx.Dc} {m : Nat} (H : Hid (Lx.docsL e L ln i = .inr (ds, m))) :
    Calls Tryz.prog 42 #[.pointer (some ⟨R, 0, none⟩), .pointer (some ⟨B, 0, none⟩)] w fun r w' => r = .returned .nilIface ∧ m ≤ L.length ∧ ∃ vd, Dk w w' R g c L m e B base ln vm vd ds :=
  (documents_any hk hv hi hL hx ht hn H).mono fun _ _ ⟨h1, _⟩ => h1
set_option maxRecDepth 100000 in
set_option maxHeartbeats 16000000 in
theorem lexLines_any (s : List UInt8) (hs : s.length ≤ 2000000) (w : World) (hT : Tabs w) (hv : ErrVar w) (hm : Maxl w) {RES : Lx.Err ⊕ (UInt8 × List Lx.Ln)} (H : Hid (Lx.linesL s = RES)) :
    Calls Tryz.prog 9 #[.string (bs s)] w fun r w' => LnsAns w w' RES r ∧ Below w.heap.size w w' := by
  have HZ := Lib.hid (bs_size s)
  have hs2 : (bs s).size ≤ 2000000 := by rw [HZ.out]; exact hs
  have HT := Lib.hid hT
  have HV := Lib.hid hv
  have HM := Lib.hid hm
  clear hT hv hm
  by_cases hbig : 65536 < (bs s).size
  · have t0 : decide ((65536 : Int) < ((bs s).size : Int)) = true := by rw [decide_eq_true_eq]; omega
    have HR : Hid (RES = .inl (5, 0, 0)) := by show _ = _; rw [← H.out, Lx.lines_many (by rw [← HZ.out]; exact hbig)]
    go_enter Tryz.func9, Tryz.ntmps9
    go_wp2_with fail
    refine (fault_any _ _ _ _).mono ?_
    rintro r w5 ⟨rfl, rfl⟩
    go_wp2_with fail
    go_ret3
    refine ⟨?_, Below.refl _ _⟩
    rw [HR.out]
    rfl
  · have t0 : decide ((65536 : Int) < ((bs s).size : Int)) = false := by rw [decide_eq_false_iff_not]; omega
    have hsl : ¬ 65536 < s.length := by rw [← HZ.out]; exact hbig
    cases hw : Lx.wrongL s 0 0 1 0 with
    | some la =>
      obtain ⟨l, a⟩ := la
      have HW := Lib.hid hw
      have HR : Hid (RES = .inl (6, (l : Int), (a : Int))) := by show _ = _; rw [← H.out, Lx.lines_text hsl hw]
      have hl1 := wrongL_pos s 0 0 1 0 l a (Nat.le_refl _) hw
      have t1 : decide ((0 : Int) < (l : Int)) = true := by rw [decide_eq_true_eq]; omega
      clear hw H
      go_enter Tryz.func9, Tryz.ntmps9
      go_wp2_with fail
      refine (wrong_some hs _ HT.out HW.out).mono ?_
      rintro r w1 ⟨rfl, b1⟩
      go_wp2_with fail
      refine (fault_any _ _ _ _).mono ?_
      rintro r w5 ⟨rfl, rfl⟩
      go_wp2_with fail
      go_ret3
      refine ⟨?_, b1⟩
      rw [HR.out]
      rfl
    | none =>
      obtain ⟨L, hL⟩ : ∃ L, Hid (Lx.fileL s = L) := ⟨_, Lib.hid rfl⟩
      have HW := Lib.hid hw
      have hxL : Hid (∀ x ∈ L, x.length ≤ 70000) := Lib.hid fun x hx => by
        rw [← hL.out] at hx
        have := Lx.fileL_len hx
        omega
      have htot : Lx.tot L ≤ 65536 := by rw [← hL.out]; have := Lx.tot_file s; omega
      have HTOT := Lib.hid htot
      have HHL := Lib.hid hsl
      have HH := Lib.hid H.out
      clear hw htot hsl H
      have hRW : ∀ w1, Below w.heap.size w w1 → Tabs w1 ∧ ErrVar w1 ∧ Maxl w1 := fun w1 b => ⟨HT.out.new b, HV.out.below b HV.out.lt, HM.out.grow b⟩
      have HRW := Lib.hid hRW
      clear hRW
      by_cases hct : 4096 < L.length
      · have t2 : decide ((4096 : Int) < (L.length : Int)) = true := by rw [decide_eq_true_eq]; omega
        have HR : Hid (RES = .inl (5, 4097, 1)) := by show _ = _; rw [← HH.out, Lx.lines_count HHL.out HW.out (by rw [hL.out]; exact hct)]
        clear HH
        go_enter Tryz.func9, Tryz.ntmps9
        go_wp2_with fail
        refine (wrong_none hs _ HT.out HW.out).mono ?_
        rintro r w1 ⟨rfl, b1⟩
        obtain ⟨_, _, hM1⟩ := HRW.out _ b1
        have HB1 := Lib.hid b1
        clear b1
        go_wp2_with fail
        refine (cut_lex s hs _ hM1 hL).mono ?_
        rintro r w2 ⟨g, c, rfl, hln, hg1, hg2, b2⟩
        have HB2 := Lib.hid (below_of_below HB1.out b2 HB1.out.size)
        have HB3 := Lib.hid (HB2.out.alloc HB2.out.size (.cells #[.slice (some ⟨g, 0, none⟩) L.length c, .int .i64 0, .int .u8 92] 97))
        clear b2 hln hg1 hg2 hM1
        go_wp2_with fail
        refine (fault_any _ _ _ _).mono ?_
        rintro r w5 ⟨rfl, rfl⟩
        go_wp2_with fail
        go_ret3
        refine ⟨?_, HB3.out⟩
        rw [HR.out]
        rfl
      · have t2 : decide ((4096 : Int) < (L.length : Int)) = false := by rw [decide_eq_false_iff_not]; omega
        have hct2 : L.length ≤ 5000 := by omega
        cases hd : Lx.dirsL L with
        | inl z =>
          have HD := Lib.hid hd
          have HR : Hid (RES = .inl z) := by show _ = _; rw [← HH.out, Lx.lines_dirs HHL.out HW.out (by rw [hL.out]; exact hct) (by rw [hL.out]; exact hd)]
          clear HH hd hct
          go_enter Tryz.func9, Tryz.ntmps9
          go_wp2_with fail
          refine (wrong_none hs _ HT.out HW.out).mono ?_
          rintro r w1 ⟨rfl, b1⟩
          obtain ⟨_, _, hM1⟩ := HRW.out _ b1
          have HB1 := Lib.hid b1
          clear b1
          go_wp2_with fail
          refine (cut_lex s hs _ hM1 hL).mono ?_
          rintro r w2 ⟨g, c, rfl, hln, hg1, hg2, b2⟩
          have hB2 := below_of_below HB1.out b2 HB1.out.size
          have hB3 := hB2.alloc hB2.size (.cells #[.slice (some ⟨g, 0, none⟩) L.length c, .int .i64 0, .int .u8 92] 97)
          have hM3 := (HRW.out _ hB3).2.2
          have hR3 : Rd (w2.alloc (.cells #[.slice (some ⟨g, 0, none⟩) L.length c, .int .i64 0, .int .u8 92] 97)) w2.heap.size g c L 0 92 := ⟨Blk.new _ _ _, fun j hj => by rw [World.cell?_alloc_lt _ _ ⟨g, j, none⟩ hg2]; exact hln j hj, by rw [World.size_alloc]; omega, by omega⟩
          have hRb : w.heap.size ≤ w2.heap.size := hB2.size
          have HB3 := Lib.hid hB3
          have HM3 := Lib.hid hM3
          have HR3 := Lib.hid hR3
          have HRb := Lib.hid hRb
          clear b2 hln hg1 hg2 hM1 hB2 hB3 hM3 hR3 hRb
          go_wp2_with fail
          refine (directives_err HR3.out HM3.out hct2 hxL HD).mono ?_
          rintro r w4 ⟨rfl, hF⟩
          have HB4 := Lib.hid ((Fx.of_below HB3.out |>.then hF (fun b _ e => by rw [e]; exact HRb.out)).to_below (Nat.le_refl _) (fun b hb => hb))
          clear hF
          go_wp2_with fail
          go_ret3
          refine ⟨?_, HB4.out⟩
          rw [HR.out]
          rfl
        | inr ne =>
          obtain ⟨n, e⟩ := ne
          have HD := Lib.hid hd
          obtain ⟨RM, hRM⟩ : ∃ RM, Hid (Lx.mainL e L (L.drop n) 0 n [] = RM) := ⟨_, Lib.hid rfl⟩
          have HR : Hid (RES = withE e RM) := by
            have h1 := Lx.lines_main HHL.out HW.out (by rw [hL.out]; exact hct) (n := n) (e := e) (by rw [hL.out]; exact hd)
            have h2 : RES = withE e (Lx.mainL e (Lx.fileL s) ((Lx.fileL s).drop n) 0 n []) := by rw [← HH.out]; exact h1
            rw [hL.out, hRM.out] at h2
            exact h2
          clear HH hd hct
          go_enter Tryz.func9, Tryz.ntmps9
          go_wp2_with fail
          refine (wrong_none hs _ HT.out HW.out).mono ?_
          rintro r w1 ⟨rfl, b1⟩
          obtain ⟨_, _, hM1⟩ := HRW.out _ b1
          have HB1 := Lib.hid b1
          clear b1
          go_wp2_with fail
          refine (cut_lex s hs _ hM1 hL).mono ?_
          rintro r w2 ⟨g, c, rfl, hln, hg1, hg2, b2⟩
          have hB2 := below_of_below HB1.out b2 HB1.out.size
          have hB3 := hB2.alloc hB2.size (.cells #[.slice (some ⟨g, 0, none⟩) L.length c, .int .i64 0, .int .u8 92] 97)
          have hM3 := (HRW.out _ hB3).2.2
          have hR3 : Rd (w2.alloc (.cells #[.slice (some ⟨g, 0, none⟩) L.length c, .int .i64 0, .int .u8 92] 97)) w2.heap.size g c L 0 92 := ⟨Blk.new _ _ _, fun j hj => by rw [World.cell?_alloc_lt _ _ ⟨g, j, none⟩ hg2]; exact hln j hj, by rw [World.size_alloc]; omega, by omega⟩
          have hRb : w.heap.size ≤ w2.heap.size := hB2.size
          have hgb : w.heap.size ≤ g := by have := HB1.out.size; omega
          have HB3 := Lib.hid hB3
          have HM3 := Lib.hid hM3
          have HR3 := Lib.hid hR3
          have HRb := Lib.hid hRb
          have HGb := Lib.hid hgb
          clear b2 hln hg1 hg2 hM1 hB2 hB3 hM3 hR3 hRb hgb
          go_wp2_with fail
          refine (directives_ok HR3.out HM3.out hct2 hxL HD).mono ?_
          rintro r w4 ⟨rfl, ⟨hn, hR4⟩, hF⟩
          have hB4 := (Fx.of_below HB3.out |>.then hF (fun b _ e => by rw [e]; exact HRb.out)).to_below (Nat.le_refl _) (fun b hb => hb)
          obtain ⟨R, hRR⟩ : ∃ R, w2.heap.size = R := ⟨_, rfl⟩
          rw [hRR] at hR4
          have hb0 : w.heap.size ≤ R := by rw [← hRR]; exact HRb.out
          have hRlt := hR4.box.lt
          have hglt := hR4.lt
          obtain ⟨b0, hb00⟩ : ∃ b0, w4.heap.size = b0 := ⟨_, rfl⟩
          have HRL : Hid (Rl w w4 b0 R g c L n e (.slice none 0 0) [] []) := Lib.hid ⟨hR4, World.ownsRow_nil _ _ _ _, ⟨rfl, hB4.size⟩, hB4, hb0, HGb.out, HV.out, by omega, by omega, by omega⟩
          have hwb0 : w.heap.size ≤ b0 := by rw [← hb00]; exact hB4.size
          clear hb00 hRlt hglt
          rw [hRR]
          clear hF hR4 hB4 hRR hb0 HR3 HB3 HM3 HRb HB1
          go_wp2_with fail
          go_loopw [9, 10, 11, 12] (fun t9 _ _ _ wr => ∃ (i : Nat) (ls : List Lx.Ln) (cs : List Value), i ≤ L.length ∧ ls.length ≤ i ∧ Hid (Rl w wr b0 R g c L i e t9 ls cs) ∧ Hid (Lx.mainL e L (L.drop i) 0 i ls = RM)) (fun _ _ _ _ wr => L.length - (match wr.cell? ⟨R, 1, none⟩ with | some v => (intOf v).toNat | none => 0))
          case atStart => exact ⟨n, [], [], hn, by simp, HRL, hRM⟩
          case round =>
            clear HRL hRM
            obtain ⟨i, ls, cs, hi, hli, HL, HMn⟩ := hrel
            have HC1 : Hid (wr.cell? ⟨R, 1, none⟩ = some (.int .i64 (i : Int))) := HL.out.rd.box.cell 1
            obtain ⟨AA, ca, rfl⟩ := ownk_form HL.out.own
            go_wp2_with fail
            refine (line_any HL.out.rd hi hct2 hxL).mono ?_
            rintro r w5 ⟨hA, hF5⟩
            obtain ⟨j, hij, hj, hno, hcase⟩ := hA
            have hskip := Lx.main_skips (e := e) (acc := ls) j hij hj hno
            rcases hcase with ⟨rfl, rfl, hR5⟩ | ⟨hjn, hnj, vm, a, m, hJ, hm, rfl, hvm, hR5, hal, hal2⟩
            · have HRM : Hid (RM = .inr ls) := by show _ = _; rw [← HMn.out, hskip, Lx.main_end (Nat.le_refl _)]
              have hL5 := HL.out.read hF5 hR5
              have hb6 := (Below.refl w5.heap.size w5).alloc (Nat.le_refl _) (.cells #[.int .i64 0, .string ⟨#[]⟩, .slice none 0 0, .slice none 0 0] 64)
              have HL6 := Lib.hid (hL5.new hb6)
              have k2 : w5.cell? ⟨R, 2, none⟩ = some (.int .u8 (e.toNat : Int)) := hL5.rd.box.cell 2
              have hR5l := hR5.box.lt
              clear hskip hno hF5 hR5 hL5 hb6 HMn
              go_wp2_with fail
              go_ret3
              refine ⟨?_, HL6.out.bel⟩
              rw [HR.out, HRM.out]
              exact ⟨_, cs, rfl, own_base HL6.out.own hwb0, HL6.out.rows⟩
            · obtain ⟨VA, cv, rfl⟩ := ownk_form hvm
              have hL5 := HL.out.read hF5 hR5
              have hrows5 := HL.out.rows_fx hF5
              have hsz5 := hF5.size
              have hmj : j + 1 ≤ m := by have h := (Lx.joinL_le (e := e) L[j] (L.drop (j + 1)) j).1; rw [hJ] at h; exact h
              have htx : a.1.length ≤ 65536 := by
                have h := Lx.joinL_len (e := e) L[j] (L.drop (j + 1)) j
                rw [hJ] at h
                have h2 := Lx.tot_drop L j
                rw [List.drop_eq_getElem_cons hjn, Lx.tot_cons] at h2
                have := HTOT.out
                simp only at h
                omega
              have hb6 := (Below.refl w5.heap.size w5).alloc (Nat.le_refl _) (.cells #[.int .i64 ((j : Int) + 1), .string (bs a.1), .slice VA a.2.length cv, .slice none 0 0] 64)
              have hB6 := Blk.new w5 64 #[.int .i64 ((j : Int) + 1), .string (bs a.1), .slice VA a.2.length cv, .slice none 0 0]
              have hL6 := hL5.new hb6
              have hrows6 := hrows5.new hb6
              have hvm6 := own_below hvm hb6
              obtain ⟨w6, hw6⟩ : ∃ w6, w5.alloc (.cells #[.int .i64 ((j : Int) + 1), .string (bs a.1), .slice VA a.2.length cv, .slice none 0 0] 64) = w6 := ⟨_, rfl⟩
              rw [hw6] at hB6 hL6 hrows6 hvm6
              have hsz6 : w6.heap.size = w5.heap.size + 1 := by rw [← hw6]; simp
              obtain ⟨B, hBB⟩ : ∃ B, w5.heap.size = B := ⟨_, rfl⟩
              rw [hBB] at hB6 hsz6 hsz5
              have HW6 := Lib.hid hw6
              have HF6 : Hid (Fx (· = R) wr w6) := by
                show Fx _ _ _
                rw [← hw6]
                exact hF5.alloc _
              have HBB := Lib.hid hBB
              have HL6 := Lib.hid hL6
              have HRW6 := Lib.hid hrows6
              have HVM6 := Lib.hid hvm6
              have HB6 := Lib.hid hB6
              have HSZ6 := Lib.hid hsz6
              have HSK := Lib.hid (hskip.symm.trans HMn.out)
              have HJ := Lib.hid hJ
              have HNJ := Lib.hid hnj
              obtain ⟨T, hT⟩ : ∃ T, Hid (Gl.trimL a.1 = T) := ⟨_, Lib.hid rfl⟩
              obtain ⟨S, hS⟩ : ∃ S, Hid (bs T = S) := ⟨_, Lib.hid rfl⟩
              have hcall : ∀ w, Calls Tryz.prog 41 #[.string (bs a.1), .string ⟨#[32, 9, 13]⟩] w fun e w' => e = .returned (.string S) ∧ Below w.heap.size w w' := fun w => by
                rw [← hS.out]
                exact trim_any a.1 w (by omega) hT
              have HCL := Lib.hid hcall
              obtain ⟨eb, heb⟩ : ∃ b, S.toList.isEmpty = b := ⟨_, rfl⟩
              have HEB : Hid (Lx.empty a.1 = eb) := by show _ = _; rw [← heb, ← hS.out, toList_bs, ← hT.out, Lx.empty_trim]
              clear hskip hno hF5 hR5 hL5 hrows5 hb6 hB6 hL6 hrows6 hvm6 hw6 hBB hsz6 hvm hcall HMn hJ hnj
              go_upto_region 14 with fail
              rw [HW6.out, HBB.out]
              have k1 : w6.cell? ⟨B, 1, none⟩ = some (.string (bs a.1)) := HB6.out.cell 1
              go_wp2_with fail
              refine (HCL.out _).mono ?_
              rintro r w7 ⟨rfl, b7⟩
              have hsz7 := b7.size
              have HF7 := Lib.hid (HF6.out.trans (Fx.new b7))
              have HL7 := Lib.hid (HL6.out.new b7)
              have HRW7 := Lib.hid (HRW6.out.new b7)
              have HVM7 := Lib.hid (own_below HVM6.out b7)
              have HB7 := Lib.hid (HB6.out.below b7 HB6.out.lt)
              clear b7 k1 HL6 HRW6 HVM6 HB6
              cases eb with
              | true =>
                have HN : Hid (Lx.mainL e L (L.drop m) 0 m ls = RM) := by show _ = _; rw [← HSK.out, Lx.main_empty hjn HNJ.out HJ.out HEB.out]
                have HC2 : Hid (w7.cell? ⟨R, 1, none⟩ = some (.int .i64 (m : Int))) := HL7.out.rd.box.cell 1
                clear HSK
                go_wp2_with fail
                go_roundw
                case rel => exact ⟨m, ls, cs, hm, by omega, HL7, HN⟩
                case measure => rw [HC1.out, HC2.out]; simp [intOf]; omega
              | false =>
                have hrl := HL7.out
                have hBge : wr.heap.size ≤ B := hsz5
                have hBlt := HB7.out.lt
                have hdk : Dk w7 w7 R g c L m e B wr.heap.size ⟨(j : Int) + 1, a.1, a.2, []⟩ (.slice VA a.2.length cv) (.slice none 0 0) [] := ⟨hrl.rd, HB7.out, HVM7.out, World.ownsRow_nil _ _ _ _, Fx.refl, hrl.rd.box.lt, hrl.rd.lt, hBlt, by have := HL.out.rd.lt; omega⟩
                have HDK := Lib.hid hdk
                have HEV := Lib.hid hrl.err
                clear hrl hdk
                cases hdd : Lx.docsL e L ⟨(j : Int) + 1, a.1, a.2, []⟩ m with
                | inl z =>
                  have HDD := Lib.hid hdd
                  have HRM : Hid (RM = .inl z) := by show _ = _; rw [← HSK.out, Lx.main_err hjn HNJ.out HJ.out HEB.out hdd]
                  clear hdd HSK
                  go_wp2_with fail
                  refine (documents_err HDK.out HEV.out hm hct2 hxL (by show a.1.length ≤ _; omega) (by show a.2.length ≤ _; omega) HDD).mono ?_
                  rintro r w8 ⟨rfl, hF8⟩
                  have HF8 := Lib.hid ((Fx.of_below HL7.out.bel |>.then hF8 (fun b hb e => by
                    have h1 := HL7.out.hR
                    have h2 := HL.out.bel.size
                    rcases e with e | e
                    · omega
                    · omega)).to_below (Nat.le_refl _) (fun b hb => hb))
                  clear hF8
                  go_wp2_with fail
                  go_ret3
                  refine ⟨?_, HF8.out⟩
                  rw [HR.out, HRM.out]
                  rfl
                | inr dm =>
                  obtain ⟨ds, m2⟩ := dm
                  have HDD := Lib.hid hdd
                  have HN : Hid (Lx.mainL e L (L.drop m2) 0 m2 (ls ++ [⟨(j : Int) + 1, a.1, a.2, ds⟩]) = RM) := by show _ = _; rw [← HSK.out, Lx.main_line hjn HNJ.out HJ.out HEB.out hdd]
                  have hm2 := (Lx.docsL_le hdd).1
                  clear hdd HSK
                  go_wp2_with fail
                  refine (documents_ok HDK.out HEV.out hm hct2 hxL (by show a.1.length ≤ _; omega) (by show a.2.length ≤ _; omega) HDD).mono ?_
                  rintro r w8 ⟨rfl, hm2L, vd, hD8⟩
                  have hF8 : Fx (· = R) wr w8 := by
                    have h7 : Fx (· = R) wr w7 := HF7.out
                    exact h7.then hD8.fx (fun b hb e => by
                      rcases e with e | e
                      · exact e
                      · omega)
                  have hL8 := HL.out.read hF8 hD8.rd
                  have hr8 := HL.out.rows_fx hF8
                  have hvm8 : w8.ownsRow wr.heap.size 136 3 (.slice VA a.2.length cv) a.2.length (mkC a.2) := hD8.mks
                  have hvd8 : w8.ownsRow wr.heap.size 83 4 vd ds.length (dcC ds) := own_base hD8.dc (by omega)
                  obtain ⟨WA, wc9, rfl⟩ := ownk_form hvd8
                  have d0 : w8.cell? ⟨B, 0, none⟩ = some (.int .i64 ((j : Int) + 1)) := hD8.box.cell 0
                  have d1 : w8.cell? ⟨B, 1, none⟩ = some (.string (bs a.1)) := hD8.box.cell 1
                  have d2 : w8.cell? ⟨B, 2, none⟩ = some (.slice VA a.2.length cv) := hD8.box.cell 2
                  have d3 : w8.cell? ⟨B, 3, none⟩ = some (.slice WA ds.length wc9) := hD8.box.cell 3
                  have hszb : b0 ≤ w8.heap.size := hL8.sz
                  have hown8 := hL8.own
                  have hbb := Below.refl b0 w8
                  have hszw : wr.heap.size ≤ w8.heap.size := hF8.size
                  have HL8 := Lib.hid hL8
                  have HR8 := Lib.hid hr8
                  have HVM8 := Lib.hid hvm8
                  have HVD8 := Lib.hid hvd8
                  clear hD8 hF8 hL8 hr8 hvm8 hvd8
                  go_wp2_with (at_builtin; refine wpList_appk rfl _ _ _ rfl lineK _ _ _ _ rfl (hown8.alloc _) _ _ _ _ rfl rfl (news_at _ _ (by simp) _ _) (by simp [Value.oneCell']) (by omega) (by omega) (hbb.alloc hszb _) (by simp; omega) ?_; intro v1 w9 ho1 hb1 hg1 hat1)
                  have hP := HL8.out.push (l := ⟨(j : Int) + 1, a.1, a.2, ds⟩) HR8.out HVM8.out HVD8.out hszw ho1 hg1
                  have HP := Lib.hid hP
                  have HC2 : Hid (w9.cell? ⟨R, 1, none⟩ = some (.int .i64 (m2 : Int))) := hP.rd.box.cell 1
                  clear hP ho1 hb1 hg1 hat1
                  go_roundw
                  case rel => exact ⟨m2, _, _, hm2L, by rw [List.length_append, List.length_singleton]; omega, HP, HN⟩
                  case measure => rw [HC1.out, HC2.out]; simp [intOf]; omega
end Go.Proofs.YtpgnfianffjpnaaGreatDoor
