/- expand's read, walked. (Printed by wip/genread.py.) -/
import Derived.Test.YtnlkmljdcmfogaaGreatDoorExW0
import Derived.Test.YtnlkmljdcmfogaaGreatDoorRely0
import Derived.Test.YtnlkmljdcmfogaaGreatDoorCkM0
import Derived.Laws.AppendOwnNone
import Derived.Deep.LoopGhost
namespace Go.Proofs.YtnlkmljdcmfogaaGreatDoor
open Go Go.RowKit
theorem ixb (k : UInt8) : ∀ l : List UInt8, (Lib.indexByte l k = -1 ∧ ∀ c ∈ l, c ≠ k) ∨ (∃ a r, l = a ++ k :: r ∧ (∀ c ∈ a, c ≠ k) ∧ Lib.indexByte l k = (a.length : Int))
  | [] => .inl ⟨by simp [Lib.indexByte], by simp⟩
  | b :: l => by
    by_cases h : b = k
    · subst h
      exact .inr ⟨[], l, rfl, by simp, by simp [Lib.indexByte]⟩
    · rcases ixb k l with ⟨h1, h2⟩ | ⟨a, r, rfl, h2, h3⟩
      · refine .inl ⟨by simp [Lib.indexByte, h, h1], fun c hc => ?_⟩
        rcases List.mem_cons.1 hc with rfl | hc
        · exact h
        · exact h2 c hc
      · refine .inr ⟨b :: a, r, rfl, fun c hc => ?_, ?_⟩
        · rcases List.mem_cons.1 hc with rfl | hc
          · exact h
          · exact h2 c hc
        · have h4 : ¬ ((a.length : Int) = -1) := by omega
          simp [Lib.indexByte, h, h3, h4]
theorem oneV {v : Value} (h : v.oneCell' = true) : ∀ u ∈ [v], u.oneCell' = true := fun u hu => by rw [List.mem_singleton] at hu; subst hu; exact h
theorem idx39 (l : List UInt8) (w : World) {x : Int} (H : Hid (Lib.indexByte l 39 = x)) : Calls Tryz.prog 232 #[.string (bs l), .int .u8 39] w fun e w' => e = .returned (.int .i64 x) ∧ w = w' := indexByte_any l w 39 H
theorem slice_mn (s : List UInt8) (m n : Nat) (x : List UInt8) (h : m + n ≤ s.length) (hx : (s.drop m).take n = x) : ∀ wx, (Instr.slice 9 (.string (bs s)) (some (.int .i64 (m : Int))) (some (.int .i64 ((m : Int) + (n : Int)))) none).run Tryz.prog wx = .ok (.string (bs x)) wx := by
  have := slice_lit (bs s) m (m + n) (m : Int) ((m : Int) + (n : Int)) rfl (by omega) (by omega) (by rw [bs_size]; exact h)
  rw [ext_bs, bl_bs, show m + n - m = n by omega, hx] at this
  exact this
/-- the values of the region of a quote. -/
def VQ (R : Nat) (s : List UInt8) (m n : Nat) (x : List UInt8) (A : Option Addr) (l c N : Nat) : Nat → Value → World → Prop
  | 0, u, _ => u = .slice A l c
  | 1, u, _ => u = .pointer (some ⟨R, 0, none⟩)
  | 2, u, _ => u = .pointer (some ⟨R, 0, none⟩)
  | 3, u, _ => u = .pointer (some ⟨R, 0, none⟩)
  | 4, u, _ => u = .string (bs s)
  | 5, u, _ => u = .pointer (some ⟨R, 0, none⟩)
  | 6, u, _ => u = .pointer (some ⟨R, 0, none⟩)
  | 7, u, _ => u = .pointer (some ⟨R, 1, none⟩)
  | 8, u, _ => u = .int .i64 (m : Int)
  | 9, u, _ => u = .pointer (some ⟨R, 0, none⟩)
  | 10, u, _ => u = .pointer (some ⟨R, 0, none⟩)
  | 11, u, _ => u = .pointer (some ⟨R, 1, none⟩)
  | 12, u, _ => u = .int .i64 (m : Int)
  | 13, u, _ => u = .int .i64 (n : Int)
  | 14, u, _ => u = .int .i64 ((m : Int) + (n : Int))
  | 15, u, _ => u = .string (bs x)
  | 16, u, _ => u = litV x
  | 17, u, w => ∃ g, u = .slice (some ⟨g, 0, none⟩) 1 1 ∧ N ≤ g ∧ Blk w g 401 #[litV x]
  | _, _, _ => True
theorem VQ.keep {R : Nat} {s : List UInt8} {m n : Nat} {x : List UInt8} {A : Option Addr} {l c N : Nat} {w : World} (o : Obj) (j : Nat) (u : Value) (H : VQ R s m n x A l c N j u w) : VQ R s m n x A l c N j u (w.alloc o) := by
  unfold VQ at H ⊢
  split at H <;> first | exact H | (obtain ⟨g, e, hg, hb⟩ := H; exact ⟨g, e, hg, hb.alloc o⟩) | trivial
theorem cast1 (p : Nat) : ((p + 1 : Nat) : Int) = (p : Int) + 1 := by omega
set_option maxRecDepth 100000 in
set_option maxHeartbeats 4000000 in
theorem read_any {s : List UInt8} {e : UInt8} (hs : s.length ≤ exMax) : ∀ (N : Nat) (k : Ex.Kd) (R p0 : Nat) (w : World), s.length - p0 < N → p0 ≤ s.length → Rdr w R s p0 e →
    Calls Tryz.prog 237 #[.pointer (some ⟨R, 0, none⟩), .int .i64 (kdI k)] w (RdAns w R s e p0 (Ex.readL e k (s.drop p0))) := by
  intro N
  induction N with
  | zero => intro k R p0 w h; omega
  | succ N ih =>
    intro k R p0 w hN hp0 hr
    have hs2 : s.length ≤ 2000000 := hs
    have IH := Lib.hid ih
    clear ih
    obtain ⟨X, hX⟩ : ∃ X, Hid (Ex.readL e k (s.drop p0) = X) := ⟨_, Lib.hid rfl⟩
    obtain ⟨K, hK⟩ : ∃ K, Hid (kdI k = K) := ⟨_, Lib.hid rfl⟩
    rw [hX.out, hK.out]
    obtain ⟨bq, e1⟩ : ∃ b, (K == 2) = b := ⟨_, rfl⟩
    obtain ⟨bb, e2⟩ : ∃ b, (K == 1) = b := ⟨_, rfl⟩
    obtain ⟨bg, e3⟩ : ∃ b, decide ((1 : Int) < K) = b := ⟨_, rfl⟩
    have HK1 : Hid (∀ c, Ex.stops k c = (bq && c == 34 || bb && c == 125)) := Lib.hid fun c => by
      rw [← e1, ← e2, ← hK.out]; cases k <;> simp [Ex.stops, kdI]
    have HK2 : Hid (Ex.quotes k = !bg) := Lib.hid (by rw [← e3, ← hK.out]; cases k <;> rfl)
    have HK3 : Hid (Ex.endR k = if bq then .inl 18 else if bb then .inl 4 else .inr ([], [])) := Lib.hid (by rw [← e1, ← e2, ← hK.out]; cases k <;> rfl)
    have hz : (bs s).size = s.length := bs_size s
    have HZ := Lib.hid hz
    have hsz : (bs s).size ≤ 2000000 := by omega
    have hlt := Blk.lt hr
    have c1 : w.cell? ⟨R, 1, none⟩ = some (.int .i64 (p0 : Int)) := Blk.cell hr 1
    have hmf : ∀ (fn : Fn) (first cap : Array Value) (w : World), (Instr.makeFunc fn first cap).run Tryz.prog w = .ok (.func fn first cap) w := fun _ _ _ _ => rfl
    have hb1 := (Below.refl w.heap.size w).alloc (Nat.le_refl _) (.cells #[.pointer (some ⟨R, 0, none⟩)] 371)
    have hb2 := hb1.alloc (by simp) (.cells #[.slice none 0 0] 374)
    have hb3 := hb2.alloc (by simp; omega) (.cells #[.int .i64 (p0 : Int)] 3)
    have k1 := Blk.new w 371 #[.pointer (some ⟨R, 0, none⟩)]
    have k2 := Blk.new (w.alloc (.cells #[.pointer (some ⟨R, 0, none⟩)] 371)) 374 #[.slice none 0 0]
    have k3 := Blk.new ((w.alloc (.cells #[.pointer (some ⟨R, 0, none⟩)] 371)).alloc (.cells #[.slice none 0 0] 374)) 3 #[.int .i64 (p0 : Int)]
    simp only [World.size_alloc] at k2 k3
    have h0 : RS (((w.alloc (.cells #[.pointer (some ⟨R, 0, none⟩)] 371)).alloc (.cells #[.slice none 0 0] 374)).alloc (.cells #[.int .i64 (p0 : Int)] 3)) R w.heap.size s e p0 p0 (.slice none 0 0) [] [] :=
      ⟨((hr.alloc _).alloc _).alloc _, (k1.alloc _).alloc _, k2.alloc _, k3, ⟨rfl, .inl ⟨rfl, rfl⟩⟩, PL.nil, hlt⟩
    have H0 : Hid (RL w R s e k p0 X (s.length - p0 + 1) (((w.alloc (.cells #[.pointer (some ⟨R, 0, none⟩)] 371)).alloc (.cells #[.slice none 0 0] 374)).alloc (.cells #[.int .i64 (p0 : Int)] 3))) := Lib.hid
      ⟨p0, p0, _, [], [], h0, Nat.le_refl _, Nat.le_refl _, hp0, by omega, by simp, Fx.new hb3, Lib.hid (by rw [chunk_self, List.map_nil, List.append_nil, Ex.adds_nil]; exact hX.out)⟩
    clear hb1 hb2 hb3 k1 k2 k3 h0 hX hz hr
    go_enter Tryz.func237, Tryz.ntmps237
    go_wp2_with fail
    go_loopg [] (s.length - p0 + 1) (fun gk wx => RL w R s e k p0 X gk wx)
    case atStart => exact H0.out
    case round =>
      as_aux_lemma =>
      clear H0 c1 hmf
      obtain ⟨p, q, v, xs, ts, hS, hpq0, hqp, hps, hgk, hxq, hF, hRel⟩ := hrel
      have HS0 := Lib.hid hS
      have HF0 := Lib.hid hF
      clear hS hF
      have b0 : wr.cell? ⟨w.heap.size, 0, none⟩ = some (.pointer (some ⟨R, 0, none⟩)) := HS0.out.box.cell 0
      have b1 : wr.cell? ⟨R, 0, none⟩ = some (.string (bs s)) := Blk.cell HS0.out.rd 0
      have b2 : wr.cell? ⟨R, 1, none⟩ = some (.int .i64 (p : Int)) := Blk.cell HS0.out.rd 1
      have b3 : wr.cell? ⟨R, 2, none⟩ = some (.int .u8 (e.toNat : Int)) := Blk.cell HS0.out.rd 2
      have b4 : wr.cell? ⟨w.heap.size + 1, 0, none⟩ = some v := HS0.out.lb.cell 0
      have b5 : wr.cell? ⟨w.heap.size + 1 + 1, 0, none⟩ = some (.int .i64 (q : Int)) := HS0.out.fb.cell 0
      have g1 := Blk.frozen HS0.out.rd 1
      have g4 := HS0.out.lb.frozen 0
      have g5 := HS0.out.fb.frozen 0
      rcases Nat.lt_or_ge p s.length with hin | hin
      · have hin2 : p < (bs s).size := by rw [HZ.out]; exact hin
        have i0 : decide ((p : Int) < ((bs s).size : Int)) = true := by rw [decide_eq_true_eq]; omega
        have i1 : (p : Int) < ((bs s).size : Int) := by omega
        have j0 : (0 : Int) ≤ (p : Int) := by omega
        obtain ⟨c, hc⟩ : ∃ c, (bs s)[p]'hin2 = c := ⟨_, rfl⟩
        have HC : Hid (s[p]? = some c) := Lib.hid (by rw [bs_at s p hin2, hc])
        have hcb : c.toNat < 256 := UInt8.toNat_lt _
        go_wp2_with fail
        go_quiet (fail)
        have HS1 := Lib.hid (HS0.out.drewN nq)
        have HF1 := Lib.hid (HF0.out.drewN nq)
        obtain ⟨w1, hw⟩ : ∃ x, wr.drewN nq = x := ⟨_, rfl⟩
        rw [hw] at HS1 HF1
        rw [hw]
        clear hw nq HS0 HF0
        clear b0 b1 b2 b3 b4 b5 g1 g4 g5
        have b0 : w1.cell? ⟨w.heap.size, 0, none⟩ = some (.pointer (some ⟨R, 0, none⟩)) := HS1.out.box.cell 0
        have b1 : w1.cell? ⟨R, 0, none⟩ = some (.string (bs s)) := Blk.cell HS1.out.rd 0
        have b2 : w1.cell? ⟨R, 1, none⟩ = some (.int .i64 (p : Int)) := Blk.cell HS1.out.rd 1
        have b3 : w1.cell? ⟨R, 2, none⟩ = some (.int .u8 (e.toNat : Int)) := Blk.cell HS1.out.rd 2
        have b4 : w1.cell? ⟨w.heap.size + 1, 0, none⟩ = some v := HS1.out.lb.cell 0
        have b5 : w1.cell? ⟨w.heap.size + 1 + 1, 0, none⟩ = some (.int .i64 (q : Int)) := HS1.out.fb.cell 0
        have g1 := Blk.frozen HS1.out.rd 1
        have g4 := HS1.out.lb.frozen 0
        have g5 := HS1.out.fb.frozen 0
        go_wp2_with fail
        go_quiet (fail)
        have HS2 := Lib.hid (HS1.out.drewN nq)
        have HF2 := Lib.hid (HF1.out.drewN nq)
        obtain ⟨w2, hw⟩ : ∃ x, w1.drewN nq = x := ⟨_, rfl⟩
        rw [hw] at HS2 HF2
        rw [hw]
        clear hw nq HS1 HF1
        clear b0 b1 b2 b3 b4 b5 g1 g4 g5
        clear hc i1 i0
        have b0 : w2.cell? ⟨w.heap.size, 0, none⟩ = some (.pointer (some ⟨R, 0, none⟩)) := HS2.out.box.cell 0
        have b1 : w2.cell? ⟨R, 0, none⟩ = some (.string (bs s)) := Blk.cell HS2.out.rd 0
        have b2 : w2.cell? ⟨R, 1, none⟩ = some (.int .i64 (p : Int)) := Blk.cell HS2.out.rd 1
        have b3 : w2.cell? ⟨R, 2, none⟩ = some (.int .u8 (e.toNat : Int)) := Blk.cell HS2.out.rd 2
        have b4 : w2.cell? ⟨w.heap.size + 1, 0, none⟩ = some v := HS2.out.lb.cell 0
        have b5 : w2.cell? ⟨w.heap.size + 1 + 1, 0, none⟩ = some (.int .i64 (q : Int)) := HS2.out.fb.cell 0
        have g1 := Blk.frozen HS2.out.rd 1
        have g4 := HS2.out.lb.frozen 0
        have g5 := HS2.out.fb.frozen 0
        obtain ⟨q0, t0⟩ : ∃ b, ((c.toNat : Int) == (e.toNat : Int)) = b := ⟨_, rfl⟩
        have HQ0 : Hid ((c == e) = q0) := Lib.hid (by rw [← eq_int, t0])
        have hdrop := drop_at HC.out
        have HD := Lib.hid hdrop
        clear hdrop
        cases q0 with
        | true =>
          have hce : Hid (c = e) := Lib.hid (beq_iff_eq.1 HQ0.out)
          go_upto_region 7 with fail
          obtain ⟨y, hy⟩ : ∃ y, Hid ((match s[p + 1]? with | some d => Ex.escs k e d | none => false) = y) := ⟨_, Lib.hid rfl⟩
          go_cut [70] (fun s70 wx => s70 = .bool y ∧ ∃ n, w2.drewN n = wx)
          case first =>
            as_aux_lemma =>
            have hcl := cast1 p
            have HCL := Lib.hid hcl
            clear hcl
            rcases Nat.lt_or_ge (p + 1) s.length with hn | hn
            · have hn2 : p + 1 < (bs s).size := by rw [HZ.out]; exact hn
              have n0 : decide ((p : Int) + 1 < ((bs s).size : Int)) = true := by rw [decide_eq_true_eq]; omega
              have n1 : (p : Int) + 1 < ((bs s).size : Int) := by omega
              have n2 : IntKind.i64.wrap ((p : Int) + 1) = (p : Int) + 1 := IntWalk.i64_in _ (by omega)
              have n3 : (0 : Int) ≤ (p : Int) + 1 := by omega
              have n4 : ((p : Int) + 1).toNat = p + 1 := by omega
              obtain ⟨d, hd⟩ : ∃ d, (bs s)[p + 1]'hn2 = d := ⟨_, rfl⟩
              have HY : Hid (Ex.escs k e d = y) := Lib.hid (by rw [← hy.out, bs_at s (p + 1) hn2, hd])
              have hdb : d.toNat < 256 := UInt8.toNat_lt _
              have HESC : Hid (∀ wx : World, Rdr wx R s p e → Calls Tryz.prog 265 #[.pointer (some ⟨R, 0, none⟩), .int .i64 K, .int .u8 (d.toNat : Int)] wx fun r w' => r = .returned (.bool y) ∧ w' = wx) := Lib.hid fun wx h => by rw [← hK.out]; exact (escapes_any k d h HY).mono fun _ _ h => ⟨h.1, h.2.symm⟩
              go_quiet ((go_at_call 265; exact Calls.quiet_of_same (HESC.out _ (by first | exact HS2.out.rd | exact (HS2.out.drewN _).rd))))
              go_wp2_with fail
              go_meet
              exact ⟨by first | rfl | trivial, _, rfl⟩
            · have n0 : decide ((p : Int) + 1 < ((bs s).size : Int)) = false := by have := HZ.out; rw [decide_eq_false_iff_not]; omega
              have HY : Hid (y = false) := Lib.hid (by rw [← hy.out, List.getElem?_eq_none hn])
              go_quiet (fail)
              go_wp2_with fail
              go_meet
              exact ⟨by rw [HY.out], _, rfl⟩
          case rest =>
            obtain ⟨rfl, nq, hw⟩ := hcut
            have HS3 := Lib.hid (HS2.out.drewN nq)
            have HF3 := Lib.hid (HF2.out.drewN nq)
            rw [hw] at HS3 HF3
            rename World => w3
            clear hw nq HS2 HF2
            clear b0 b1 b2 b3 b4 b5 g1 g4 g5
            cases y with
            | true =>
              as_aux_lemma =>
                obtain ⟨d, hd, hde⟩ : ∃ d, s[p + 1]? = some d ∧ Ex.escs k e d = true := by
                  have h := hy.out
                  cases h2 : s[p + 1]? with
                  | none => rw [h2] at h; cases h
                  | some d => rw [h2] at h; exact ⟨d, rfl, h⟩
                have hp2 : p + 2 ≤ s.length := by have := (List.getElem?_eq_some_iff.1 hd).1; omega
                have hrd : Ex.readL e k (s.drop p) = Ex.adds [.b d] (Ex.readL e k (s.drop (p + 2))) := by rw [HD.out, drop_at hd, hce.out]; exact Ex.read_esc hde
                have HN := Lib.hid (Ex.go_esc hd hrd hRel.out)
                clear hrd hd hde
                go_wp2_with fail
                refine (tell_any HS3.out (by omega) (by omega) hs (by have := hs2; unfold exMax; omega)).mono ?_
                rintro a wt ⟨rfl, v1, xs1, hT, hxl, bT⟩
                have HT := Lib.hid hT
                have HKT := Lib.hid (HF3.out.low bT (by omega))
                clear hT bT
                clear HS3 HF3
                have b0 : wt.cell? ⟨w.heap.size, 0, none⟩ = some (.pointer (some ⟨R, 0, none⟩)) := HT.out.box.cell 0
                have b1 : wt.cell? ⟨R, 0, none⟩ = some (.string (bs s)) := Blk.cell HT.out.rd 0
                have b2 : wt.cell? ⟨R, 1, none⟩ = some (.int .i64 (p : Int)) := Blk.cell HT.out.rd 1
                have b3 : wt.cell? ⟨R, 2, none⟩ = some (.int .u8 (e.toNat : Int)) := Blk.cell HT.out.rd 2
                have b4 : wt.cell? ⟨w.heap.size + 1, 0, none⟩ = some v1 := HT.out.lb.cell 0
                have b5 : wt.cell? ⟨w.heap.size + 1 + 1, 0, none⟩ = some (.int .i64 (q : Int)) := HT.out.fb.cell 0
                have g1 := Blk.frozen HT.out.rd 1
                have g4 := HT.out.lb.frozen 0
                have g5 := HT.out.fb.frozen 0
                go_upto_region 11 with fail
                have h5 := (HT.out.from_ (p + 1)).at_ (p + 1)
                have k5 := Fx.then (S' := fun b => b = R) ((HKT.out.lowSet (w.heap.size + 1 + 1) 0 (.int .i64 ((p + 1 : Nat) : Int)) (by omega))) (Fx.set_ _ ⟨R, 1, none⟩ (.int .i64 ((p + 1 : Nat) : Int))) (fun b _ h => h)
                rw [cast1 p] at h5 k5
                obtain ⟨w5, hw⟩ : ∃ x, (wt.setCell ⟨w.heap.size + 1 + 1, 0, none⟩ (.int .i64 ((p : Int) + 1))).setCell ⟨R, 1, none⟩ (.int .i64 ((p : Int) + 1)) = x := ⟨_, rfl⟩
                have HS5 : Hid (RS w5 R w.heap.size s e (p + 1) (p + 1) v1 xs1 _) := Lib.hid (by rw [← hw]; exact h5)
                have HF5 : Hid (Fx (fun b => b = R) w w5) := Lib.hid (by rw [← hw]; exact k5)
                rw [hw]
                clear h5 k5 hw HT HKT b0 b1 b2 b3 b4 b5 g1 g4 g5
                have b0 : w5.cell? ⟨w.heap.size, 0, none⟩ = some (.pointer (some ⟨R, 0, none⟩)) := HS5.out.box.cell 0
                have b2 : w5.cell? ⟨R, 1, none⟩ = some (.int .i64 ((p : Int) + 1)) := by have := Blk.cell HS5.out.rd 1; rw [this]; rfl
                have g1 := Blk.frozen HS5.out.rd 1
                have HS6 := HS5.out.at_ (p + 2)
                have HF6 := HF5.out.trans (Fx.set_ w5 ⟨R, 1, none⟩ (.int .i64 ((p + 2 : Nat) : Int)))
                rw [show ((p + 2 : Nat) : Int) = (p : Int) + 1 + 1 by omega] at HS6 HF6
                have HS7 := Lib.hid HS6
                have HF7 := Lib.hid HF6
                clear HS6 HF6
                go_wp2_with fail
                go_roundg (s.length - (p + 2) + 1)
                case measure => omega
                case rel => exact ⟨p + 2, p + 1, v1, xs1, _, HS7.out, by omega, by omega, by omega, by omega, by omega, HF7.out, HN⟩
            | false =>
              as_aux_lemma =>
                have hrd : Ex.readL e k (s.drop p) = Ex.adds [.b c] (Ex.readL e k (s.drop (p + 1))) := by
                  rw [HD.out, hce.out]
                  refine Ex.read_esc_no fun d hd => ?_
                  have h := hy.out
                  have h2 : s[p + 1]? = some d := by rw [← List.head?_drop]; exact hd
                  rw [h2] at h
                  exact h
                have HN := Lib.hid (Ex.go_byte hqp HC.out hrd hRel.out)
                clear hrd
                have b0 : w3.cell? ⟨w.heap.size, 0, none⟩ = some (.pointer (some ⟨R, 0, none⟩)) := HS3.out.box.cell 0
                have b1 : w3.cell? ⟨R, 0, none⟩ = some (.string (bs s)) := Blk.cell HS3.out.rd 0
                have b2 : w3.cell? ⟨R, 1, none⟩ = some (.int .i64 (p : Int)) := Blk.cell HS3.out.rd 1
                have b3 : w3.cell? ⟨R, 2, none⟩ = some (.int .u8 (e.toNat : Int)) := Blk.cell HS3.out.rd 2
                have b4 : w3.cell? ⟨w.heap.size + 1, 0, none⟩ = some v := HS3.out.lb.cell 0
                have b5 : w3.cell? ⟨w.heap.size + 1 + 1, 0, none⟩ = some (.int .i64 (q : Int)) := HS3.out.fb.cell 0
                have g1 := Blk.frozen HS3.out.rd 1
                have g4 := HS3.out.lb.frozen 0
                have g5 := HS3.out.fb.frozen 0
                have hs9 := HS3.out.at_ (p + 1)
                have hf9 := HF3.out.trans (Fx.set_ w3 ⟨R, 1, none⟩ (.int .i64 ((p + 1 : Nat) : Int)))
                rw [cast1 p] at hs9 hf9
                have HS9 := Lib.hid hs9
                have HF9 := Lib.hid hf9
                clear hs9 hf9
                go_wp2_with fail
                go_roundg (s.length - (p + 1) + 1)
                case measure => omega
                case rel => exact ⟨p + 1, q, v, xs, _, HS9.out, by omega, by omega, by omega, by omega, by omega, HF9.out, HN⟩
        | false =>
          have hce : Hid (c ≠ e) := Lib.hid (by have := HQ0.out; rw [beq_eq_false_iff_ne] at this; exact this)
          obtain ⟨q1, t1⟩ : ∃ b, ((c.toNat : Int) == 36) = b := ⟨_, rfl⟩
          have HQ1 : Hid ((c == 36) = q1) := Lib.hid (by rw [← t1, show (36 : Int) = (((36 : UInt8).toNat : Nat) : Int) from rfl, eq_int])
          cases q1 with
          | true =>
            as_aux_lemma =>
              have hc36 : Hid (c = 36) := Lib.hid (beq_iff_eq.1 HQ1.out)
              have h36 : Hid ((36 : UInt8) ≠ e) := Lib.hid (by rw [← hc36.out]; exact hce.out)
              obtain ⟨x, hx⟩ : ∃ x, Hid (Ex.vR e (s.drop (p + 1)) = x) := ⟨_, Lib.hid rfl⟩
              have HDL := Lib.hid (Ex.read_dollar (k := k) (r := s.drop (p + 1)) h36.out)
              go_wp2_with fail
              refine (tell_any HS2.out (by omega) (by omega) hs (by have := hs2; unfold exMax; omega)).mono ?_
              rintro a wt ⟨rfl, v1, xs1, hT, hxl, bT⟩
              have HT := Lib.hid hT
              have HKT := Lib.hid (HF2.out.low bT (by omega))
              clear hT bT
              clear HS2 HF2 b0 b1 b2 b3 b4 b5 g1 g4 g5
              have b0 : wt.cell? ⟨w.heap.size, 0, none⟩ = some (.pointer (some ⟨R, 0, none⟩)) := HT.out.box.cell 0
              have b1 : wt.cell? ⟨R, 0, none⟩ = some (.string (bs s)) := Blk.cell HT.out.rd 0
              have b2 : wt.cell? ⟨R, 1, none⟩ = some (.int .i64 (p : Int)) := Blk.cell HT.out.rd 1
              have b3 : wt.cell? ⟨R, 2, none⟩ = some (.int .u8 (e.toNat : Int)) := Blk.cell HT.out.rd 2
              have b4 : wt.cell? ⟨w.heap.size + 1, 0, none⟩ = some v1 := HT.out.lb.cell 0
              have b5 : wt.cell? ⟨w.heap.size + 1 + 1, 0, none⟩ = some (.int .i64 (q : Int)) := HT.out.fb.cell 0
              have g1 := Blk.frozen HT.out.rd 1
              have g4 := HT.out.lb.frozen 0
              have g5 := HT.out.fb.frozen 0
              go_wp2_with fail
              have hcall := variable_any hs hin (fun p' R' w' h1 h2 h3 => IH.out .braces R' p' w' (by omega) h2 h3) HT.out.rd hx
              cases x with
              | inl z =>
                have HXE : Hid (X = .inl z) := Lib.hid (Ex.go_bad (by rw [HD.out, hc36.out]; exact HDL.out.1 z hx.out) hRel.out)
                refine hcall.mono ?_
                rintro a w5 ⟨v5, rfl, k5⟩
                have HF5 := Lib.hid (HKT.out.trans k5)
                clear k5 hcall
                go_wp2_with fail
                go_ret2
                rw [HXE.out]
                exact ⟨rfl, HF5.out⟩
              | inr pr =>
                obtain ⟨t, r'⟩ := pr
                have hrd : Ex.readL e k (s.drop p) = Ex.adds t (Ex.readL e k r') := by rw [HD.out, hc36.out]; exact HDL.out.2 t r' hx.out
                have hsuf := suf_drop' (Ex.vR_suf hx.out)
                refine hcall.mono ?_
                rintro a w5 ⟨v5, d5, rfl, hpv, hrd5, hl5, k5⟩
                obtain ⟨T5, u5, rfl⟩ := hpv.iface
                obtain ⟨P, hP⟩ : ∃ P, s.length - r'.length = P := ⟨_, rfl⟩
                rw [hP] at hrd5 hsuf
                rw [hsuf] at hrd
                have hPl : P ≤ s.length := by omega
                have hPg : p + 1 ≤ P := by omega
                have HN := Lib.hid (Ex.go_tok hrd hRel.out)
                have hs5 := HT.out.move k5 (fun b _ h => h) hrd5
                have HF5 := Lib.hid (HKT.out.trans k5)
                have HOne := Lib.hid hpv.one_cell
                have HPL : Hid (PL w5 (fun b => b < w.heap.size + 3 ∨ v1.ownBlock = some b) t [.iface T5 u5]) := Lib.hid ((PL.one hpv).fx (S := fun _ => False) Fx.refl (fun b _ h => h.elim False.elim fun h => by
                  rcases h with h | h
                  · have h2 := HT.out.size; show b < _; omega
                  · have h2 := (HT.out.own.lt b h).2; exact h2))
                have HS5 := Lib.hid hs5
                clear k5 hcall hrd hsuf hP hrd5 hpv hs5 hl5
                clear b0 b1 b2 b3 b4 b5 g1 g4 g5
                obtain ⟨A1, c1, rfl⟩ := ownk_form HS5.out.own
                have hown := HS5.out.own
                have hxs2 : xs1.length ≤ 2000000 := by omega
                have hsz5 := HS5.out.size
                have b0 : w5.cell? ⟨w.heap.size, 0, none⟩ = some (.pointer (some ⟨R, 0, none⟩)) := HS5.out.box.cell 0
                have b1 : w5.cell? ⟨R, 0, none⟩ = some (.string (bs s)) := Blk.cell HS5.out.rd 0
                have b2 : w5.cell? ⟨R, 1, none⟩ = some (.int .i64 (P : Int)) := Blk.cell HS5.out.rd 1
                have b3 : w5.cell? ⟨R, 2, none⟩ = some (.int .u8 (e.toNat : Int)) := Blk.cell HS5.out.rd 2
                have b4 : w5.cell? ⟨w.heap.size + 1, 0, none⟩ = some (.slice A1 xs1.length c1) := HS5.out.lb.cell 0
                have b5 : w5.cell? ⟨w.heap.size + 1 + 1, 0, none⟩ = some (.int .i64 (q : Int)) := HS5.out.fb.cell 0
                have g1 := Blk.frozen HS5.out.rd 1
                have g4 := HS5.out.lb.frozen 0
                have g5 := HS5.out.fb.frozen 0
                have hlb := HS5.out.lb
                have HNE : Hid (∀ g, (Value.slice A1 xs1.length c1).ownBlock = some g → w.heap.size + 3 ≤ g) := Lib.hid fun g hg => (hown.lt g hg).1
                have hal := (Below.refl w5.heap.size w5).alloc (Nat.le_refl _) (.cells #[.iface T5 u5] 401)
                have HAL := Lib.hid hal
                clear hal
                have HNW := Lib.hid (news_at w5 w5.heap.size rfl [.iface T5 u5] 401)
                have HSA : Hid (w.heap.size + 3 ≤ (w5.alloc (.cells #[.iface T5 u5] 401)).heap.size) := Lib.hid (by rw [World.size_alloc]; omega)
                have HSB : Hid (w.heap.size + 1 < (w5.alloc (.cells #[.iface T5 u5] 401)).heap.size) := Lib.hid (by rw [World.size_alloc]; omega)
                have HBA := Lib.hid ((Below.refl (w.heap.size + 3) w5).alloc hsz5 (.cells #[.iface T5 u5] 401))
                have HOA := Lib.hid (hown.alloc (.cells #[.iface T5 u5] 401))
                go_upto_region 18 with (at_builtin; refine wpList_appk rfl _ _ _ rfl pieceK (w.heap.size + 3) _ _ _ rfl HOA.out _ 1 1 [.iface T5 u5] rfl rfl HNW.out (oneV HOne.out) (by omega) (by omega) HBA.out HSA.out ?_; intro v6 w6 ho1 hb1 hg1 hat1; obtain ⟨B1, q1, rfl⟩ := ownk_form ho1; have hbx1 := hg1.block (w.heap.size + 1) HSB.out (fun e => by have := HNE.out _ e.symm; omega); have hbx2 : Blk w6 (w.heap.size + 1) 374 #[.slice A1 xs1.length c1] := hbx1.trans (Blk.alloc hlb _); have k0 : w6.cell? ⟨w.heap.size + 1, 0, none⟩ = some (.slice A1 xs1.length c1) := hbx2.cell 0; have f0 := hbx2.frozen 0; clear hbx1 hbx2)
                have HS7 := Lib.hid (HS5.out.push ((grown_of_below HAL.out (Value.slice A1 xs1.length c1).ownBlock).trans hg1) (by rw [List.length_append]; exact ho1) (hat1.imp id fun e => ⟨_, by simp, e⟩) HPL.out)
                have HF7 := Lib.hid ((HF5.out.low hb1 (by omega)).lowSet (w.heap.size + 1) 0 (.slice B1 (xs1.length + 1) q1) (by omega))
                obtain ⟨w7, hw⟩ : ∃ x, w6.setCell ⟨w.heap.size + 1, 0, none⟩ (.slice B1 (xs1.length + 1) q1) = x := ⟨_, rfl⟩
                rw [hw] at HS7 HF7
                rw [hw]
                clear hw k0 f0 ho1 hb1 hg1 hat1 hown hlb HS5 HF5 b0 b1 b2 b3 b4 b5 g1 g4 g5
                have b0 : w7.cell? ⟨w.heap.size, 0, none⟩ = some (.pointer (some ⟨R, 0, none⟩)) := HS7.out.box.cell 0
                have b2 : w7.cell? ⟨R, 1, none⟩ = some (.int .i64 (P : Int)) := Blk.cell HS7.out.rd 1
                have b5 : w7.cell? ⟨w.heap.size + 1 + 1, 0, none⟩ = some (.int .i64 (q : Int)) := HS7.out.fb.cell 0
                have g5 : w7.frozen? ⟨w.heap.size + 1 + 1, 0, none⟩ = false := HS7.out.fb.frozen 0
                have HS8 := Lib.hid (HS7.out.from_ P)
                have HF8 := Lib.hid (HF7.out.lowSet (w.heap.size + 1 + 1) 0 (.int .i64 (P : Int)) (by omega))
                go_wp2_with fail
                go_roundg (s.length - P + 1)
                case measure => omega
                case rel => exact ⟨P, P, _, _, _, HS8.out, by omega, by omega, by omega, by omega, by simp only [List.length_append, List.length_cons, List.length_nil]; omega, HF8.out, HN⟩
          | false =>
            have hc36 : Hid (c ≠ 36) := Lib.hid (by have := HQ1.out; rw [beq_eq_false_iff_ne] at this; exact this)
            obtain ⟨x34, e4⟩ : ∃ b, ((c.toNat : Int) == 34) = b := ⟨_, rfl⟩
            obtain ⟨x125, e5⟩ : ∃ b, ((c.toNat : Int) == 125) = b := ⟨_, rfl⟩
            have H34 : Hid ((c == 34) = x34) := Lib.hid (by rw [← e4, show (34 : Int) = (((34 : UInt8).toNat : Nat) : Int) from rfl, eq_int])
            have H125 : Hid ((c == 125) = x125) := Lib.hid (by rw [← e5, show (125 : Int) = (((125 : UInt8).toNat : Nat) : Int) from rfl, eq_int])
            obtain ⟨st, hst⟩ : ∃ st, Hid ((bq && x34 || bb && x125) = st) := ⟨_, Lib.hid rfl⟩
            have HST : Hid (Ex.stops k c = st) := Lib.hid (by rw [HK1.out, H34.out, H125.out, hst.out])
            go_upto_region 19 with fail
            go_cut [125] (fun s125 wx => s125 = .bool st ∧ w2 = wx)
            case first =>
              as_aux_lemma =>
              cases bq <;> cases bb <;> cases x34 <;> cases x125 <;> (
                go_wp2_with fail
                go_meet
                exact ⟨by rw [← hst.out]; rfl, by first | rfl | trivial⟩)
            case rest =>
              obtain ⟨rfl, rfl⟩ := hcut
              cases st with
              | true =>
                as_aux_lemma =>
                  have HXE : Hid (X = .inr (ts ++ (chunk s q p).map .b, s.drop (p + 1))) := Lib.hid (Ex.go_fin (by rw [HD.out]; exact Ex.read_stop hce.out hc36.out HST.out) hRel.out)
                  go_wp2_with fail
                  refine (tell_any HS2.out (by omega) (by omega) hs (by have := hs2; unfold exMax; omega)).mono ?_
                  rintro a wt ⟨rfl, v1, xs1, hT, hxl, bT⟩
                  have HT := Lib.hid hT
                  have HKT := Lib.hid (HF2.out.low bT (by omega))
                  clear hT bT
                  clear HS2 HF2 b0 b1 b2 b3 b4 b5 g1 g4 g5
                  have b0 : wt.cell? ⟨w.heap.size, 0, none⟩ = some (.pointer (some ⟨R, 0, none⟩)) := HT.out.box.cell 0
                  have b1 : wt.cell? ⟨R, 0, none⟩ = some (.string (bs s)) := Blk.cell HT.out.rd 0
                  have b2 : wt.cell? ⟨R, 1, none⟩ = some (.int .i64 (p : Int)) := Blk.cell HT.out.rd 1
                  have b3 : wt.cell? ⟨R, 2, none⟩ = some (.int .u8 (e.toNat : Int)) := Blk.cell HT.out.rd 2
                  have b4 : wt.cell? ⟨w.heap.size + 1, 0, none⟩ = some v1 := HT.out.lb.cell 0
                  have b5 : wt.cell? ⟨w.heap.size + 1 + 1, 0, none⟩ = some (.int .i64 (q : Int)) := HT.out.fb.cell 0
                  have g1 := Blk.frozen HT.out.rd 1
                  have g4 := HT.out.lb.frozen 0
                  have g5 := HT.out.fb.frozen 0
                  have hs9 := HT.out.at_ (p + 1)
                  have hf9 := HKT.out.trans (Fx.set_ wt ⟨R, 1, none⟩ (.int .i64 ((p + 1 : Nat) : Int)))
                  rw [cast1 p] at hs9 hf9
                  have HS9 := Lib.hid hs9
                  have HF9 := Lib.hid hf9
                  have hneR : (⟨R, 1, none⟩ : Addr) ≠ ⟨w.heap.size + 1, 0, none⟩ := fun e => by injection e with e1; omega
                  clear hs9 hf9
                  go_wp2_with fail
                  go_ret2
                  rw [HXE.out]
                  exact HS9.out.done HF9.out (by rw [List.length_drop]; omega) (by omega)
              | false =>
                obtain ⟨x39, e6⟩ : ∃ b, ((c.toNat : Int) == 39) = b := ⟨_, rfl⟩
                have H39 : Hid ((c == 39) = x39) := Lib.hid (by rw [← e6, show (39 : Int) = (((39 : UInt8).toNat : Nat) : Int) from rfl, eq_int])
                have e7 : ((c.toNat : Int) != 34) = !x34 := by rw [bne, e4]
                have e8 : ((c.toNat : Int) != 39) = !x39 := by rw [bne, e6]
                obtain ⟨nb, hnb⟩ : ∃ nb, Hid ((bg || (!x34 && !x39)) = nb) := ⟨_, Lib.hid rfl⟩
                go_upto_region 23 with fail
                go_cut [145] (fun s145 wx => s145 = .bool nb ∧ w2 = wx)
                case first =>
                  as_aux_lemma =>
                  cases bg <;> cases x34 <;> cases x39 <;> (
                    go_wp2_with fail
                    go_meet
                    exact ⟨by rw [← hnb.out]; rfl, by first | rfl | trivial⟩)
                case rest =>
                  obtain ⟨rfl, rfl⟩ := hcut
                  cases nb with
                  | true =>
                    as_aux_lemma =>
                      have hrd : Ex.readL e k (s.drop p) = Ex.adds [.b c] (Ex.readL e k (s.drop (p + 1))) := by
                        rw [HD.out]
                        refine Ex.read_byte hce.out hc36.out HST.out ?_
                        have h := hnb.out
                        rw [HK2.out, H34.out, H39.out]
                        cases bg <;> cases x34 <;> cases x39 <;> first | rfl | cases h
                      have HN := Lib.hid (Ex.go_byte hqp HC.out hrd hRel.out)
                      clear hrd
                      have hs9 := HS2.out.at_ (p + 1)
                      have hf9 := HF2.out.trans (Fx.set_ w2 ⟨R, 1, none⟩ (.int .i64 ((p + 1 : Nat) : Int)))
                      rw [cast1 p] at hs9 hf9
                      have HS9 := Lib.hid hs9
                      have HF9 := Lib.hid hf9
                      clear hs9 hf9
                      go_wp2_with fail
                      go_roundg (s.length - (p + 1) + 1)
                      case measure => omega
                      case rel => exact ⟨p + 1, q, v, xs, _, HS9.out, by omega, by omega, by omega, by omega, by omega, HF9.out, HN⟩
                  | false =>
                    have HQT : Hid (Ex.quotes k = true) := Lib.hid (by
                      have h := hnb.out
                      rw [HK2.out]
                      cases bg <;> first | rfl | cases h)
                    go_wp2_with fail
                    refine (tell_any HS2.out (by omega) (by omega) hs (by have := hs2; unfold exMax; omega)).mono ?_
                    rintro a wt ⟨rfl, v1, xs1, hT, hxl, bT⟩
                    have HT := Lib.hid hT
                    have HKT := Lib.hid (HF2.out.low bT (by omega))
                    clear hT bT
                    clear HS2 HF2 b0 b1 b2 b3 b4 b5 g1 g4 g5
                    have b0 : wt.cell? ⟨w.heap.size, 0, none⟩ = some (.pointer (some ⟨R, 0, none⟩)) := HT.out.box.cell 0
                    have b1 : wt.cell? ⟨R, 0, none⟩ = some (.string (bs s)) := Blk.cell HT.out.rd 0
                    have b2 : wt.cell? ⟨R, 1, none⟩ = some (.int .i64 (p : Int)) := Blk.cell HT.out.rd 1
                    have b3 : wt.cell? ⟨R, 2, none⟩ = some (.int .u8 (e.toNat : Int)) := Blk.cell HT.out.rd 2
                    have b4 : wt.cell? ⟨w.heap.size + 1, 0, none⟩ = some v1 := HT.out.lb.cell 0
                    have b5 : wt.cell? ⟨w.heap.size + 1 + 1, 0, none⟩ = some (.int .i64 (q : Int)) := HT.out.fb.cell 0
                    have g1 := Blk.frozen HT.out.rd 1
                    have g4 := HT.out.lb.frozen 0
                    have g5 := HT.out.fb.frozen 0
                    have hs5 := HT.out.at_ (p + 1)
                    have hf5 := HKT.out.trans (Fx.set_ wt ⟨R, 1, none⟩ (.int .i64 ((p + 1 : Nat) : Int)))
                    obtain ⟨m, hm⟩ : ∃ m, p + 1 = m := ⟨_, rfl⟩
                    have HM := Lib.hid hm
                    have hmi : (m : Int) = (p : Int) + 1 := by omega
                    rw [hm, hmi] at hs5 hf5
                    go_upto_region 27 with fail
                    obtain ⟨w5, hw⟩ : ∃ x, wt.setCell ⟨R, 1, none⟩ (.int .i64 ((p : Int) + 1)) = x := ⟨_, rfl⟩
                    rw [hw] at hs5 hf5
                    rw [hw]
                    have HS5 := Lib.hid hs5
                    have HF5 := Lib.hid hf5
                    have hml : m ≤ s.length := by omega
                    have hpm : p + 1 ≤ m := by omega
                    clear hs5 hf5 hw HT HKT hm hmi b0 b1 b2 b3 b4 b5 g1 g4 g5
                    have b0 : w5.cell? ⟨w.heap.size, 0, none⟩ = some (.pointer (some ⟨R, 0, none⟩)) := HS5.out.box.cell 0
                    have b1 : w5.cell? ⟨R, 0, none⟩ = some (.string (bs s)) := Blk.cell HS5.out.rd 0
                    have b2 : w5.cell? ⟨R, 1, none⟩ = some (.int .i64 (m : Int)) := Blk.cell HS5.out.rd 1
                    have b3 : w5.cell? ⟨R, 2, none⟩ = some (.int .u8 (e.toNat : Int)) := Blk.cell HS5.out.rd 2
                    have b4 : w5.cell? ⟨w.heap.size + 1, 0, none⟩ = some v1 := HS5.out.lb.cell 0
                    have b5 : w5.cell? ⟨w.heap.size + 1 + 1, 0, none⟩ = some (.int .i64 (q : Int)) := HS5.out.fb.cell 0
                    have g1 := Blk.frozen HS5.out.rd 1
                    have g4 := HS5.out.lb.frozen 0
                    have g5 := HS5.out.fb.frozen 0
                    cases x34 with
                    | true =>
                      as_aux_lemma =>
                        have hc34 : Hid (c = 34) := Lib.hid (beq_iff_eq.1 H34.out)
                        have h34 : Hid ((34 : UInt8) ≠ e) := Lib.hid (by rw [← hc34.out]; exact hce.out)
                        have HD2 : Hid (s.drop p = 34 :: s.drop m) := Lib.hid (by rw [HD.out, hc34.out, HM.out])
                        obtain ⟨x, hx⟩ : ∃ x, Hid (Ex.readL e .quoted (s.drop m) = x) := ⟨_, Lib.hid rfl⟩
                        have hcall := IH.out .quoted R m w5 (by omega) hml HS5.out.rd
                        rw [hx.out] at hcall
                        go_wp2_with fail
                        cases x with
                        | inl z =>
                          have HXE : Hid (X = .inl z) := Lib.hid (Ex.go_bad (by rw [HD2.out]; exact Ex.read_double_err h34.out HQT.out hx.out) hRel.out)
                          refine hcall.mono ?_
                          rintro a w6 ⟨rfl, k6⟩
                          have HF6 := Lib.hid (HF5.out.trans k6)
                          clear k6 hcall
                          go_wp2_with fail
                          go_ret2
                          rw [HXE.out]
                          exact ⟨rfl, HF6.out⟩
                        | inr pr =>
                          obtain ⟨t, r'⟩ := pr
                          have hrd : Ex.readL e k (s.drop p) = Ex.adds t (Ex.readL e k r') := by rw [HD2.out]; exact Ex.read_double h34.out HQT.out hx.out
                          have hsuf := suf_drop' (Ex.readL_suf hx.out)
                          refine hcall.mono ?_
                          rintro a w6 ⟨v5, xs5, rfl, ho5, hp5, hrd5, hl5, k6⟩
                          obtain ⟨P, hP⟩ : ∃ P, s.length - r'.length = P := ⟨_, rfl⟩
                          rw [hP] at hrd5 hsuf
                          rw [hsuf] at hrd
                          have hPl : P ≤ s.length := by omega
                          have hPg : xs5.length + p + 1 ≤ P := by omega
                          have HN := Lib.hid (Ex.go_tok hrd hRel.out)
                          have hs6 := HS5.out.move k6 (fun b _ h => h) hrd5
                          have HF6 := Lib.hid (HF5.out.trans k6)
                          have HOne := Lib.hid hp5.one_cell
                          have HPL : Hid (PL w6 (fun b => b < w.heap.size + 3 ∨ v1.ownBlock = some b) t xs5) := Lib.hid (hp5.fx (S := fun _ => False) Fx.refl (fun b _ h => h.elim False.elim fun h => by
                            rcases h with h | h
                            · have h2 := HS5.out.size; show b < _; omega
                            · have h2 := (HS5.out.own.lt b h).2; exact h2))
                          have HS6 := Lib.hid hs6
                          have HO5 := Lib.hid ho5
                          clear k6 hcall hrd hsuf hP hrd5 hp5 hs6 hl5 ho5
                          clear b0 b1 b2 b3 b4 b5 g1 g4 g5
                          obtain ⟨A1, c1, rfl⟩ := ownk_form HS6.out.own
                          have hown := HS6.out.own
                          have hxs2 : xs1.length ≤ 2000000 := by omega
                          have hxs5 : xs5.length ≤ 2000000 := by omega
                          have hsz5 := HS6.out.size
                          have hlb := HS6.out.lb
                          have b0 : w6.cell? ⟨w.heap.size, 0, none⟩ = some (.pointer (some ⟨R, 0, none⟩)) := HS6.out.box.cell 0
                          have b1 : w6.cell? ⟨R, 0, none⟩ = some (.string (bs s)) := Blk.cell HS6.out.rd 0
                          have b2 : w6.cell? ⟨R, 1, none⟩ = some (.int .i64 (P : Int)) := Blk.cell HS6.out.rd 1
                          have b3 : w6.cell? ⟨R, 2, none⟩ = some (.int .u8 (e.toNat : Int)) := Blk.cell HS6.out.rd 2
                          have b4 : w6.cell? ⟨w.heap.size + 1, 0, none⟩ = some (.slice A1 xs1.length c1) := HS6.out.lb.cell 0
                          have b5 : w6.cell? ⟨w.heap.size + 1 + 1, 0, none⟩ = some (.int .i64 (q : Int)) := HS6.out.fb.cell 0
                          have g1 := Blk.frozen HS6.out.rd 1
                          have g4 := HS6.out.lb.frozen 0
                          have g5 := HS6.out.fb.frozen 0
                          have HNE : Hid (∀ g, (Value.slice A1 xs1.length c1).ownBlock = some g → w.heap.size + 3 ≤ g) := Lib.hid fun g hg => (hown.lt g hg).1
                          rcases HO5.out.2 with ⟨rfl, h5⟩ | ⟨g5', cap5, cur5, rfl, hb5, hh5, hn5, hc5, hz5, ht5⟩
                          · have hx5 : xs5 = [] := List.eq_nil_of_length_eq_zero h5
                            subst hx5
                            obtain ⟨i0, hi, hz0, hz1, hz2⟩ := info_parts pieceK.hi
                            go_upto_region 37 with (at_builtin; refine wpList_append_own_none rfl _ _ _ rfl (w.heap.size + 3) _ i0 1 pieceK.ht hi _ _ _ rfl hown rfl ?_)
                            have HS7 := Lib.hid (HS6.out.push (v' := .slice A1 xs1.length c1) (ys := []) (grown_of_below (Below.refl _ w6) _) (by rw [List.append_nil]; exact hown) (.inl rfl) HPL.out)
                            have HF7 := Lib.hid (HF6.out.lowSet (w.heap.size + 1) 0 (.slice A1 xs1.length c1) (by omega))
                            obtain ⟨w7, hw⟩ : ∃ x, w6.setCell ⟨w.heap.size + 1, 0, none⟩ (.slice A1 xs1.length c1) = x := ⟨_, rfl⟩
                            rw [hw] at HS7 HF7
                            rw [hw]
                            clear hw hown hlb HS6 HF6 b0 b1 b2 b3 b4 b5 g1 g4 g5
                            have b0 : w7.cell? ⟨w.heap.size, 0, none⟩ = some (.pointer (some ⟨R, 0, none⟩)) := HS7.out.box.cell 0
                            have b2 : w7.cell? ⟨R, 1, none⟩ = some (.int .i64 (P : Int)) := Blk.cell HS7.out.rd 1
                            have b5 : w7.cell? ⟨w.heap.size + 1 + 1, 0, none⟩ = some (.int .i64 (q : Int)) := HS7.out.fb.cell 0
                            have g5 : w7.frozen? ⟨w.heap.size + 1 + 1, 0, none⟩ = false := HS7.out.fb.frozen 0
                            have HS8 := Lib.hid (HS7.out.from_ P)
                            have HF8 := Lib.hid (HF7.out.lowSet (w.heap.size + 1 + 1) 0 (.int .i64 (P : Int)) (by omega))
                            go_wp2_with fail
                            go_roundg (s.length - P + 1)
                            case measure => omega
                            case rel => exact ⟨P, P, _, _, _, HS8.out, by omega, by omega, by omega, by omega, by simp only [List.length_append, List.length_nil]; omega, HF8.out, HN⟩
                          · have hnews : Hid (∀ j u, xs5[j]? = some u → w6.cell? ((⟨g5', 0, none⟩ : Addr).add j) = some u) := Lib.hid fun j u hu => HO5.out.cells rfl j u hu
                            clear hb5 hh5 hn5 hc5 hz5 ht5
                            go_upto_region 37 with (at_builtin; refine wpList_appk rfl _ _ _ rfl pieceK (w.heap.size + 3) _ _ _ rfl hown _ xs5.length cap5 xs5 rfl (by omega) hnews.out HOne.out (by omega) (by omega) (Below.refl (w.heap.size + 3) w6) hsz5 ?_; intro v6 w8 ho1 hb1 hg1 hat1; obtain ⟨B1, q1, rfl⟩ := ownk_form ho1; have hbx1 := hg1.block (w.heap.size + 1) (by omega) (fun e => by have := HNE.out _ e.symm; omega); have hbx2 : Blk w8 (w.heap.size + 1) 374 #[.slice A1 xs1.length c1] := hbx1.trans hlb; have k0 : w8.cell? ⟨w.heap.size + 1, 0, none⟩ = some (.slice A1 xs1.length c1) := hbx2.cell 0; have f0 := hbx2.frozen 0; clear hbx1 hbx2)
                            have HS7 := Lib.hid (HS6.out.push hg1 (by rw [List.length_append]; exact ho1) (hat1.imp id fun e => ⟨_, Nat.le_refl _, e⟩) HPL.out)
                            have HF7 := Lib.hid ((HF6.out.low hb1 (by omega)).lowSet (w.heap.size + 1) 0 (.slice B1 (xs1.length + xs5.length) q1) (by omega))
                            obtain ⟨w7, hw⟩ : ∃ x, w8.setCell ⟨w.heap.size + 1, 0, none⟩ (.slice B1 (xs1.length + xs5.length) q1) = x := ⟨_, rfl⟩
                            rw [hw] at HS7 HF7
                            rw [hw]
                            clear hw k0 f0 ho1 hb1 hg1 hat1 hown hlb HS6 HF6 b0 b1 b2 b3 b4 b5 g1 g4 g5
                            have b0 : w7.cell? ⟨w.heap.size, 0, none⟩ = some (.pointer (some ⟨R, 0, none⟩)) := HS7.out.box.cell 0
                            have b2 : w7.cell? ⟨R, 1, none⟩ = some (.int .i64 (P : Int)) := Blk.cell HS7.out.rd 1
                            have b5 : w7.cell? ⟨w.heap.size + 1 + 1, 0, none⟩ = some (.int .i64 (q : Int)) := HS7.out.fb.cell 0
                            have g5 : w7.frozen? ⟨w.heap.size + 1 + 1, 0, none⟩ = false := HS7.out.fb.frozen 0
                            have HS8 := Lib.hid (HS7.out.from_ P)
                            have HF8 := Lib.hid (HF7.out.lowSet (w.heap.size + 1 + 1) 0 (.int .i64 (P : Int)) (by omega))
                            go_wp2_with fail
                            go_roundg (s.length - P + 1)
                            case measure => omega
                            case rel => exact ⟨P, P, _, _, _, HS8.out, by omega, by omega, by omega, by omega, by simp only [List.length_append]; omega, HF8.out, HN⟩
                    | false =>
                      as_aux_lemma =>
                        have hc39 : Hid (c = 39) := Lib.hid (by
                          have h := hnb.out
                          have h2 := H39.out
                          cases bg <;> cases x39 <;> first | exact beq_iff_eq.1 h2 | cases h)
                        have h39 : Hid ((39 : UInt8) ≠ e) := Lib.hid (by rw [← hc39.out]; exact hce.out)
                        have HD2 : Hid (s.drop p = 39 :: s.drop m) := Lib.hid (by rw [HD.out, hc39.out, HM.out])
                        have sl := slice_from s m (m : Int) rfl hml
                        obtain ⟨u, hu⟩ : ∃ u, Hid (s.drop m = u) := ⟨_, Lib.hid rfl⟩
                        rw [hu.out] at sl
                        rcases ixb 39 u with ⟨hix, hno⟩ | ⟨x, y, hcut, hno, hix⟩
                        · have HIX := Lib.hid hix
                          have HXE : Hid (X = .inl 18) := Lib.hid (Ex.go_bad (by rw [HD2.out]; exact Ex.read_q1_no h39.out HQT.out (by rw [hu.out]; exact hno)) hRel.out)
                          clear hix hno
                          go_wp2_with fail
                          go_quiet ((go_at_call 232; exact Calls.quiet_of_same ((idx39 u _ HIX).mono fun _ _ h => ⟨h.1, h.2.symm⟩)))
                          go_wp2_with fail
                          go_ret2
                          rw [HXE.out]
                          exact ⟨rfl, HF5.out.drewN _⟩
                        · obtain ⟨n, hn⟩ : ∃ n, x.length = n := ⟨_, rfl⟩
                          rw [hn] at hix
                          have HIX := Lib.hid hix
                          have hul : u.length + m = s.length := by rw [← hu.out, List.length_drop]; omega
                          have hnl : m + n + 1 ≤ s.length := by rw [hcut, List.length_append, List.length_cons, hn] at hul; omega
                          have HY : Hid (s.drop (m + n + 1) = y) := Lib.hid (by rw [Nat.add_assoc, ← List.drop_drop, hu.out, hcut, ← List.drop_drop, ← hn, List.drop_left]; rfl)
                          have hrd : Ex.readL e k (s.drop p) = Ex.adds (x.map .b) (Ex.readL e k (s.drop (m + n + 1))) := by rw [HD2.out, hu.out, hcut, HY.out]; exact Ex.read_q1 h39.out HQT.out hno
                          have HN := Lib.hid (Ex.go_tok hrd hRel.out)
                          have hxt : (s.drop m).take n = x := by rw [hu.out, hcut, ← hn, List.take_left]
                          have SL := Lib.hid (slice_mn s m n x (by omega) hxt)
                          have hn0 : decide ((n : Int) < 0) = false := by rw [decide_eq_false_iff_not]; omega
                          have hxl : x.length ≤ exMax := by unfold exMax; omega
                          clear hix hno hcut hrd hxt hn hul
                          go_wp2_with fail
                          go_quiet ((go_at_call 232; exact Calls.quiet_of_same ((idx39 u _ HIX).mono fun _ _ h => ⟨h.1, h.2.symm⟩)))
                          clear sl
                          go_wp2_with fail
                          have HS6 := Lib.hid (HS5.out.drewN nq)
                          have HF6 := Lib.hid (HF5.out.drewN nq)
                          obtain ⟨w6, hw⟩ : ∃ x, w5.drewN nq = x := ⟨_, rfl⟩
                          rw [hw] at HS6 HF6
                          rw [hw]
                          clear hw nq HS5 HF5
                          clear b0 b1 b2 b3 b4 b5 g1 g4 g5
                          obtain ⟨A1, c1, rfl⟩ := ownk_form HS6.out.own
                          have hxs2 : xs1.length ≤ 2000000 := by omega
                          have wr1 : IntKind.i64.wrap ((m : Int) + (n : Int)) = (m : Int) + (n : Int) := IntWalk.i64_in _ (by omega)
                          have HV0 : Hid (PL w6 (fun b => b < w.heap.size + 3 ∨ (Value.slice A1 xs1.length c1).ownBlock = some b) (x.map .b) [litV x]) := Lib.hid (PL.one (PV.lit 0 hxl))
                          refine' wp_region_rely_tail 18 (fun wx => Below w6.heap.size w6 wx) (VQ R s m n x A1 xs1.length c1 w6.heap.size) ?F ?hF (by kernel_rfl) (by kernel_rfl) (by kernel_rfl) (by decide) (by kernel_rfl) (by kernel_rfl) (by kernel_rfl) (Below.refl _ _).drew ?hsteps ?hT
                          case hF =>
                            intro xs
                            refine (frameX_eq _ _ _).trans ?_
                            simp only [frameL, Act.put, List.setIfInBounds_toArray, List.set_cons_zero, List.set_cons_succ, Nat.reduceAdd, Nat.zero_add]
                            exact rfl
                          case hsteps =>
                            as_aux_lemma =>
                            simp only [List.take_succ_cons, List.take_zero]
                            refine Steps.cons (n := []) (k := 1) rfl (by kernel_rfl) (fun xs wx hS hV K hK => ?_) ?_
                            · clear hV
                              have HX := HS6.out.new hS
                              have c := (show wx.cell? ⟨w.heap.size + 1, 0, none⟩ = some (.slice A1 xs1.length c1) from HX.lb.cell 0)
                              go_simp
                              exact hK.out _ _ hS rfl (fun _ _ h => h)
                            refine Steps.cons (n := []) (k := 2) rfl (by kernel_rfl) (fun xs wx hS hV K hK => ?_) ?_
                            · clear hV
                              have HX := HS6.out.new hS
                              have c := (show wx.cell? ⟨w.heap.size, 0, none⟩ = some (.pointer (some ⟨R, 0, none⟩)) from HX.box.cell 0)
                              go_simp
                              exact hK.out _ _ hS rfl (fun _ _ h => h)
                            refine Steps.cons (n := [1]) (k := 3) rfl (by kernel_rfl) (fun xs wx hS hV K hK => ?_) ?_
                            · obtain ⟨d1, -⟩ := hV
                              replace d1 : xs 1 = .pointer (some ⟨R, 0, none⟩) := d1
                              rw [d1] at hK ⊢
                              go_simp
                              exact hK.out _ _ hS rfl (fun _ _ h => h)
                            refine Steps.cons (n := [2]) (k := 4) rfl (by kernel_rfl) (fun xs wx hS hV K hK => ?_) ?_
                            · obtain ⟨d2, -⟩ := hV
                              replace d2 : xs 2 = .pointer (some ⟨R, 0, none⟩) := d2
                              rw [d2] at hK ⊢
                              go_simp
                              exact hK.out _ _ hS rfl (fun _ _ h => h)
                            refine Steps.cons (n := [3]) (k := 5) rfl (by kernel_rfl) (fun xs wx hS hV K hK => ?_) ?_
                            · obtain ⟨d3, -⟩ := hV
                              replace d3 : xs 3 = .pointer (some ⟨R, 0, none⟩) := d3
                              rw [d3] at hK ⊢
                              have HX := HS6.out.new hS
                              have c := (show wx.cell? ⟨R, 0, none⟩ = some (.string (bs s)) from Blk.cell HX.rd 0)
                              go_simp
                              exact hK.out _ _ hS rfl (fun _ _ h => h)
                            refine Steps.cons (n := []) (k := 6) rfl (by kernel_rfl) (fun xs wx hS hV K hK => ?_) ?_
                            · clear hV
                              have HX := HS6.out.new hS
                              have c := (show wx.cell? ⟨w.heap.size, 0, none⟩ = some (.pointer (some ⟨R, 0, none⟩)) from HX.box.cell 0)
                              go_simp
                              exact hK.out _ _ hS rfl (fun _ _ h => h)
                            refine Steps.cons (n := [5]) (k := 7) rfl (by kernel_rfl) (fun xs wx hS hV K hK => ?_) ?_
                            · obtain ⟨d5, -⟩ := hV
                              replace d5 : xs 5 = .pointer (some ⟨R, 0, none⟩) := d5
                              rw [d5] at hK ⊢
                              go_simp
                              exact hK.out _ _ hS rfl (fun _ _ h => h)
                            refine Steps.cons (n := [6]) (k := 8) rfl (by kernel_rfl) (fun xs wx hS hV K hK => ?_) ?_
                            · obtain ⟨d6, -⟩ := hV
                              replace d6 : xs 6 = .pointer (some ⟨R, 0, none⟩) := d6
                              rw [d6] at hK ⊢
                              go_simp
                              exact hK.out _ _ hS rfl (fun _ _ h => h)
                            refine Steps.cons (n := [7]) (k := 9) rfl (by kernel_rfl) (fun xs wx hS hV K hK => ?_) ?_
                            · obtain ⟨d7, -⟩ := hV
                              replace d7 : xs 7 = .pointer (some ⟨R, 1, none⟩) := d7
                              rw [d7] at hK ⊢
                              have HX := HS6.out.new hS
                              have c := (show wx.cell? ⟨R, 1, none⟩ = some (.int .i64 (m : Int)) from Blk.cell HX.rd 1)
                              go_simp
                              exact hK.out _ _ hS rfl (fun _ _ h => h)
                            refine Steps.cons (n := []) (k := 10) rfl (by kernel_rfl) (fun xs wx hS hV K hK => ?_) ?_
                            · clear hV
                              have HX := HS6.out.new hS
                              have c := (show wx.cell? ⟨w.heap.size, 0, none⟩ = some (.pointer (some ⟨R, 0, none⟩)) from HX.box.cell 0)
                              go_simp
                              exact hK.out _ _ hS rfl (fun _ _ h => h)
                            refine Steps.cons (n := [9]) (k := 11) rfl (by kernel_rfl) (fun xs wx hS hV K hK => ?_) ?_
                            · obtain ⟨d9, -⟩ := hV
                              replace d9 : xs 9 = .pointer (some ⟨R, 0, none⟩) := d9
                              rw [d9] at hK ⊢
                              go_simp
                              exact hK.out _ _ hS rfl (fun _ _ h => h)
                            refine Steps.cons (n := [10]) (k := 12) rfl (by kernel_rfl) (fun xs wx hS hV K hK => ?_) ?_
                            · obtain ⟨d10, -⟩ := hV
                              replace d10 : xs 10 = .pointer (some ⟨R, 0, none⟩) := d10
                              rw [d10] at hK ⊢
                              go_simp
                              exact hK.out _ _ hS rfl (fun _ _ h => h)
                            refine Steps.cons (n := [11]) (k := 13) rfl (by kernel_rfl) (fun xs wx hS hV K hK => ?_) ?_
                            · obtain ⟨d11, -⟩ := hV
                              replace d11 : xs 11 = .pointer (some ⟨R, 1, none⟩) := d11
                              rw [d11] at hK ⊢
                              have HX := HS6.out.new hS
                              have c := (show wx.cell? ⟨R, 1, none⟩ = some (.int .i64 (m : Int)) from Blk.cell HX.rd 1)
                              go_simp
                              exact hK.out _ _ hS rfl (fun _ _ h => h)
                            refine Steps.cons (n := []) (k := 14) rfl (by kernel_rfl) (fun xs wx hS hV K hK => ?_) ?_
                            · clear hV
                              go_simp
                              exact hK.out _ _ hS rfl (fun _ _ h => h)
                            refine Steps.cons (n := [12, 13]) (k := 15) rfl (by kernel_rfl) (fun xs wx hS hV K hK => ?_) ?_
                            · obtain ⟨d12, d13, -⟩ := hV
                              replace d12 : xs 12 = .int .i64 (m : Int) := d12
                              replace d13 : xs 13 = .int .i64 (n : Int) := d13
                              rw [d12, d13] at hK ⊢
                              go_simp
                              exact hK.out _ _ hS rfl (fun _ _ h => h)
                            refine Steps.cons (n := [4, 8, 14]) (k := 16) rfl (by kernel_rfl) (fun xs wx hS hV K hK => ?_) ?_
                            · obtain ⟨d4, d8, d14, -⟩ := hV
                              replace d4 : xs 4 = .string (bs s) := d4
                              replace d8 : xs 8 = .int .i64 (m : Int) := d8
                              replace d14 : xs 14 = .int .i64 ((m : Int) + (n : Int)) := d14
                              rw [d4, d8, d14] at hK ⊢
                              have HX := HS6.out.new hS
                              have c := SL.out
                              go_simp
                              exact hK.out _ _ hS rfl (fun _ _ h => h)
                            refine Steps.cons (n := [15]) (k := 17) rfl (by kernel_rfl) (fun xs wx hS hV K hK => ?_) ?_
                            · obtain ⟨d15, -⟩ := hV
                              replace d15 : xs 15 = .string (bs x) := d15
                              rw [d15] at hK ⊢
                              go_simp
                              exact hK.out _ _ hS rfl (fun _ _ h => h)
                            refine Steps.cons (n := [16]) (k := 18) rfl (by kernel_rfl) (fun xs wx hS hV K hK => ?_) ?_
                            · obtain ⟨d16, -⟩ := hV
                              replace d16 : xs 16 = litV x := d16
                              rw [d16] at hK ⊢
                              go_simp
                              exact hK.out _ _ (hS.alloc hS.size _) ⟨_, rfl, hS.size, Blk.new _ _ _⟩ (VQ.keep _)
                            exact Steps.nil
                          case hT =>
                            intro xs w7 hS hV
                            have d0 : xs 0 = .slice A1 xs1.length c1 := hV 0 (by decide)
                            have d13 : xs 13 = .int .i64 (n : Int) := hV 13 (by decide)
                            obtain ⟨g, d17, hg, hb⟩ : ∃ g, xs 17 = .slice (some ⟨g, 0, none⟩) 1 1 ∧ w6.heap.size ≤ g ∧ Blk w7 g 401 #[litV x] := hV 17 (by decide)
                            simp only [List.drop_succ_cons, List.drop_zero]
                            rw [d0, d17]
                            have H2 := HS6.out.new hS
                            have hown := H2.own
                            have hsz7 := H2.size
                            have H2H := Lib.hid H2
                            have HB := Lib.hid hb
                            have hnews : Hid (∀ j u, [litV x][j]? = some u → w7.cell? ((⟨g, 0, none⟩ : Addr).add j) = some u) := Lib.hid fun j u hu => by
                              have := HB.out.cell j
                              rw [Addr.add_lit, Nat.zero_add, this]
                              simpa using hu
                            have HNE : Hid (∀ g, (Value.slice A1 xs1.length c1).ownBlock = some g → w.heap.size + 3 ≤ g) := Lib.hid fun g hg => (hown.lt g hg).1
                            have HF7 := Lib.hid (HF6.out.trans (Fx.new hS))
                            have HPL : Hid (PL w7 (fun b => b < w.heap.size + 3 ∨ (Value.slice A1 xs1.length c1).ownBlock = some b) (x.map .b) [litV x]) := Lib.hid (HV0.out.fx (S := fun _ => False) (Fx.new hS) (fun b _ h => h.elim False.elim id))
                            have hlb := H2.lb
                            clear hV d0 d13 d17 hb H2 hS HV0
                            go_upto_region 36 with (at_builtin; refine wpList_appk rfl _ _ _ rfl pieceK (w.heap.size + 3) _ _ _ rfl hown _ 1 1 [litV x] rfl rfl hnews.out (by simp [litV, Value.oneCell']) (by omega) (by omega) (Below.refl (w.heap.size + 3) w7) hsz7 ?_; intro v6 w8 ho1 hb1 hg1 hat1; obtain ⟨B1, q1, rfl⟩ := ownk_form ho1; have hbx1 := hg1.block (w.heap.size + 1) (by omega) (fun e => by have := HNE.out _ e.symm; omega); have hbx2 : Blk w8 (w.heap.size + 1) 374 #[.slice A1 xs1.length c1] := hbx1.trans hlb; have k0 : w8.cell? ⟨w.heap.size + 1, 0, none⟩ = some (.slice A1 xs1.length c1) := hbx2.cell 0; have f0 := hbx2.frozen 0; clear hbx1 hbx2)
                            have HS8 := Lib.hid (H2H.out.push hg1 (by rw [List.length_append]; exact ho1) (hat1.imp id fun e => ⟨_, Nat.le_refl _, e⟩) HPL.out)
                            have HF8 := Lib.hid ((HF7.out.low hb1 (by omega)).lowSet (w.heap.size + 1) 0 (.slice B1 (xs1.length + 1) q1) (by omega))
                            obtain ⟨w9, hw⟩ : ∃ x, w8.setCell ⟨w.heap.size + 1, 0, none⟩ (.slice B1 (xs1.length + 1) q1) = x := ⟨_, rfl⟩
                            rw [hw] at HS8 HF8
                            rw [hw]
                            clear hw k0 f0 ho1 hb1 hg1 hat1 hown hlb HS6 HF6 H2H HF7
                            have b0 : w9.cell? ⟨w.heap.size, 0, none⟩ = some (.pointer (some ⟨R, 0, none⟩)) := HS8.out.box.cell 0
                            have b1 : w9.cell? ⟨R, 0, none⟩ = some (.string (bs s)) := Blk.cell HS8.out.rd 0
                            have b2 : w9.cell? ⟨R, 1, none⟩ = some (.int .i64 (m : Int)) := Blk.cell HS8.out.rd 1
                            have b3 : w9.cell? ⟨R, 2, none⟩ = some (.int .u8 (e.toNat : Int)) := Blk.cell HS8.out.rd 2
                            have b4 : w9.cell? ⟨w.heap.size + 1, 0, none⟩ = some (.slice B1 (xs1.length + 1) q1) := HS8.out.lb.cell 0
                            have b5 : w9.cell? ⟨w.heap.size + 1 + 1, 0, none⟩ = some (.int .i64 (q : Int)) := HS8.out.fb.cell 0
                            have g1 := Blk.frozen HS8.out.rd 1
                            have g4 := HS8.out.lb.frozen 0
                            have g5 := HS8.out.fb.frozen 0
                            have hs9 := HS8.out.at_ (m + n + 1)
                            have hf9 := HF8.out.trans (Fx.set_ w9 ⟨R, 1, none⟩ (.int .i64 ((m + n + 1 : Nat) : Int)))
                            obtain ⟨P, hP⟩ : ∃ P, m + n + 1 = P := ⟨_, rfl⟩
                            have hPi : (P : Int) = (m : Int) + ((n : Int) + 1) := by omega
                            rw [hP] at hs9 hf9 HN
                            rw [hPi] at hs9 hf9
                            have hPl : P ≤ s.length := by omega
                            have hPg : p + 1 ≤ P := by omega
                            go_upto_region 37 with fail
                            obtain ⟨w7, hw⟩ : ∃ x, w9.setCell ⟨R, 1, none⟩ (.int .i64 ((m : Int) + ((n : Int) + 1))) = x := ⟨_, rfl⟩
                            rw [hw] at hs9 hf9
                            rw [hw]
                            have HS7 := Lib.hid hs9
                            have HF7 := Lib.hid hf9
                            clear hs9 hf9 hw HS8 HF8 hPi hP b0 b1 b2 b3 b4 b5 g1 g4 g5
                            have b0 : w7.cell? ⟨w.heap.size, 0, none⟩ = some (.pointer (some ⟨R, 0, none⟩)) := HS7.out.box.cell 0
                            have b2 : w7.cell? ⟨R, 1, none⟩ = some (.int .i64 (P : Int)) := Blk.cell HS7.out.rd 1
                            have b5 : w7.cell? ⟨w.heap.size + 1 + 1, 0, none⟩ = some (.int .i64 (q : Int)) := HS7.out.fb.cell 0
                            have g5 : w7.frozen? ⟨w.heap.size + 1 + 1, 0, none⟩ = false := HS7.out.fb.frozen 0
                            have HS8 := Lib.hid (HS7.out.from_ P)
                            have HF8 := Lib.hid (HF7.out.lowSet (w.heap.size + 1 + 1) 0 (.int .i64 (P : Int)) (by omega))
                            go_wp2_with fail
                            go_roundg (s.length - P + 1)
                            case measure => omega
                            case rel => exact ⟨P, P, _, _, _, HS8.out, by omega, by omega, by omega, by omega, by simp only [List.length_append, List.length_cons, List.length_nil]; omega, HF8.out, HN⟩
      · have hin2 : (bs s).size ≤ p := by rw [HZ.out]; exact hin
        have i0 : decide ((p : Int) < ((bs s).size : Int)) = false := by rw [decide_eq_false_iff_not]; omega
        have hpe : p = s.length := by omega
        have HXE : Hid (X = Ex.adds (ts ++ (chunk s q p).map .b) (Ex.endR k)) := Lib.hid (by rw [← hRel.out, List.drop_eq_nil_of_le hin, Ex.readL_nil])
        as_aux_lemma =>
          rw [HK3.out] at HXE
          clear hRel
          go_wp2_with fail
          go_quiet (fail)
          have HS1 := Lib.hid (HS0.out.drewN nq)
          have HF1 := Lib.hid (HF0.out.drewN nq)
          obtain ⟨w1, hw⟩ : ∃ x, wr.drewN nq = x := ⟨_, rfl⟩
          rw [hw] at HS1 HF1
          rw [hw]
          clear hw nq HS0 HF0
          clear b0 b1 b2 b3 b4 b5 g1 g4 g5
          cases bq with
          | true =>
            have HX2 : Hid (X = .inl 18) := Lib.hid HXE.out
            go_wp2_with fail
            go_ret2
            rw [HX2.out]
            exact ⟨rfl, HF1.out⟩
          | false =>
            cases bb with
            | true =>
              have HX2 : Hid (X = .inl 4) := Lib.hid HXE.out
              go_wp2_with fail
              go_ret2
              rw [HX2.out]
              exact ⟨rfl, HF1.out⟩
            | false =>
              have HX2 : Hid (X = .inr (ts ++ (chunk s q p).map .b, [])) := Lib.hid (by rw [HXE.out]; show Sum.inr (ts ++ (chunk s q p).map .b ++ [], []) = _; rw [List.append_nil])
              go_wp2_with fail
              refine (tell_any HS1.out (by omega) (by omega) hs (by have := hs2; unfold exMax; omega)).mono ?_
              rintro a wt ⟨rfl, v1, xs1, hT, hxl, bT⟩
              have HT := Lib.hid hT
              have HKT := Lib.hid (HF1.out.low bT (by omega))
              clear hT bT
              clear HS1 HF1
              have b0 : wt.cell? ⟨w.heap.size, 0, none⟩ = some (.pointer (some ⟨R, 0, none⟩)) := HT.out.box.cell 0
              have b1 : wt.cell? ⟨R, 0, none⟩ = some (.string (bs s)) := Blk.cell HT.out.rd 0
              have b2 : wt.cell? ⟨R, 1, none⟩ = some (.int .i64 (p : Int)) := Blk.cell HT.out.rd 1
              have b3 : wt.cell? ⟨R, 2, none⟩ = some (.int .u8 (e.toNat : Int)) := Blk.cell HT.out.rd 2
              have b4 : wt.cell? ⟨w.heap.size + 1, 0, none⟩ = some v1 := HT.out.lb.cell 0
              have b5 : wt.cell? ⟨w.heap.size + 1 + 1, 0, none⟩ = some (.int .i64 (q : Int)) := HT.out.fb.cell 0
              have g1 := Blk.frozen HT.out.rd 1
              have g4 := HT.out.lb.frozen 0
              have g5 := HT.out.fb.frozen 0
              go_wp2_with fail
              go_ret2
              rw [HX2.out]
              exact HT.out.done HKT.out (by rw [hpe]; simp) (by omega)
end Go.Proofs.YtnlkmljdcmfogaaGreatDoor
