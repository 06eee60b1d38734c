/- stratakit.Book, walked. -/
import Derived.Test.YtpgnfianffjpnaaGreatDoorLmD
import Derived.Test.YtpgnfianffjpnaaGreatDoorProg
import Derived.Ground.NamesProg
import Derived.Test.YtpgnfianffjpnaaGreatDoorLxT
import Derived.WalkKit
import Derived.Deep.DeepCutAuto
import Derived.IntWalk
import Derived.Test.YtpgnfianffjpnaaGreatDoorLnR
import Derived.Test.YtpgnfianffjpnaaGreatDoorLxS
namespace Go.Proofs.YtpgnfianffjpnaaGreatDoor
open Go Go.RowKit
def mlX (j i : Nat) : Int := -1000000 * ((j : Int) + 1) - (i : Int)
def mkXn (j i : Nat) : List Value := [.int .i64 (mlX j i), .string ⟨#[]⟩, .slice none 0 0, .slice none 0 0]
theorem mkXn_len : ∀ j i, (mkXn j i).length = 4 := fun _ _ => rfl
theorem slicesXn : ElemK Tryz.prog 52 22 (.slice none 0 0) 1 24 := ⟨Tryz.underlying52, by kernel_rfl, rfl, by decide⟩
set_option maxRecDepth 100000 in
set_option maxHeartbeats 16000000 in
theorem apartXn_any (base m c bls off : Nat) (cls : Array Value) (V : Nat → Value) (N : Nat → Nat) (X : Nat → List Value) (col : Nat → Nat) (w : World)
    (h0 : ∀ j, j < m → w.ownsRow base 64 4 (V j) (N j) (X j) ∧ ∀ b, (V j).ownBlock = some b → col b = j)
    (hls : w.heap[bls]? = some (.cells cls 22 (0, 0))) (hcl : ∀ j, j < m → cls[off + j]? = some (V j)) (hm : m ≤ 100000) (hmc : m ≤ c) (hN : ∀ j, j < m → N j ≤ 1000000) (hbase : base ≤ w.heap.size) :
    Calls Tryz.prog 68 #[.slice (some ⟨bls, off, none⟩) m c] w fun e w' => e = .returned (.bool true) ∧ Ak.Fr m V w w' := by
  have hbl : bls < w.heap.size := (Array.getElem?_eq_some_iff.1 hls).1
  have HX : Hid (∀ j, j < m → (X j).length = N j * 4) := Lib.hid fun j hj => (h0 j hj).1.1
  have HC := Lib.hid hcl
  have HN := Lib.hid hN
  have HP := Lib.hid (Ak.P1.start (mk := mkXn) h0)
  have HVB : Hid (∀ j, j < m → ∀ b, (V j).ownBlock = some b → b < w.heap.size) := Lib.hid fun j hj b hb => ((h0 j hj).1.lt b hb).2
  have HL := Lib.hid hls
  clear h0 hcl hN hls
  go_enter Tryz.func68, Tryz.ntmps68
  go_wp2_with fail
  go_loopw [3] (fun k wr => ∃ q : Nat, q ≤ m ∧ k = .int .i64 q ∧ Hid (Ak.P1 base 64 4 m V N mkXn X col q 0 wr) ∧ Hid (Ak.Fr m V w wr) ∧ Hid (wr.heap[bls]? = some (.cells cls 22 (0, 0)))) (fun k _ => m - (intOf k).toNat)
  case atStart => exact ⟨0, by omega, rfl, HP, Lib.hid Ak.Fr.refl, HL⟩
  case round =>
    obtain ⟨q, hq, rfl, hp, hbel, hl⟩ := hrel
    clear HP
    by_cases hqm : q < m
    · have hq1 : (0 : Int) ≤ (q : Int) := by omega
      have hq2 : (q : Int) < (m : Int) := by omega
      go_wp2_with fail
      go_loopw [4] (fun i w2 => ∃ p : Nat, p ≤ N q ∧ i = .int .i64 p ∧ Hid (Ak.P1 base 64 4 m V N mkXn X col q p w2) ∧ Hid (Ak.Fr m V w w2) ∧ Hid (w2.heap[bls]? = some (.cells cls 22 (0, 0)))) (fun i _ => N q - (intOf i).toNat)
      case atStart => exact ⟨0, by omega, rfl, hp, hbel, hl⟩
      case round =>
        obtain ⟨p, hpN, rfl, hP, hB, hL⟩ := hrel
        clear hp hbel hl HL
        have hsz := hB.out.size
        obtain ⟨A, cq, hV⟩ := hP.out.form hqm
        have hcell : wr.cell? ⟨bls, off + q, none⟩ = some (.slice A (N q) cq) := by rw [cell_of_row wr bls (off + q) cls _ (0, 0) hL.out, HC.out q hqm, hV]
        have hNq : N q ≤ 1000000 := HN.out q hqm
        by_cases hpq : p < N q
        · obtain ⟨b, c2, hV2, hbb, hblt, hc2, hth⟩ := hP.out.at_ hqm hpq
          obtain ⟨rfl, rfl⟩ : A = some ⟨b, 0, none⟩ ∧ cq = c2 := by
            rw [hV] at hV2
            simp only [Value.slice.injEq] at hV2
            exact ⟨hV2.1, hV2.2.2⟩
          have HV2 := Lib.hid hV2
          have HS : Hid (∀ w1, Below wr.heap.size wr w1 → w1.there b (p * 4) 4) := Lib.hid fun w1 hb1 => there_below hth hblt hb1
          have hbl2 : bls < wr.heap.size := (Array.getElem?_eq_some_iff.1 hL.out).1
          have hneb : bls ≠ b := by
            intro he
            have h1 := Ak.blk_ne (hP.out q hqm).1 hL.out (by decide)
            rw [hV2] at h1
            exact h1 (by rw [he]; rfl)
          obtain ⟨y, hy⟩ : ∃ y, Hid (mlX q p = y) := ⟨_, Lib.hid rfl⟩
          have hne : ∀ r, (⟨b, p * 4 + r, none⟩ : Addr) ≠ ⟨bls, off + q, none⟩ := by
            intro r he
            simp only [Addr.mk.injEq] at he
            exact hneb he.1.symm
          have hne0 : (⟨b, p * 4, none⟩ : Addr) ≠ ⟨bls, off + q, none⟩ := hne 0
          have hne1 := hne 1
          have hne2 := hne 2
          have hne3 := hne 3
          have HNB := Lib.hid hneb
          have q6 : (q : Int) ≤ 1000000 := by omega
          clear hV hV2 hth hneb hne
          have hp1 : (0 : Int) ≤ (p : Int) := by omega
          have hp2 : (p : Int) < (N q : Int) := by omega
          have hqb : (q : Int) ≤ 100000 := by omega
          go_upto_region 7 with fail
          go_cut [5] (fun s5 wx => s5 = .int .i64 y ∧ wr = wx)
          case first =>
            have z1 : IntKind.i64.wrap (-1000000 * ((q : Int) + 1)) = -1000000 * ((q : Int) + 1) := IntWalk.i64_in _ (by omega)
            have z2 : IntKind.i64.wrap (-1000000 * ((q : Int) + 1) - (p : Int)) = -1000000 * ((q : Int) + 1) - (p : Int) := IntWalk.i64_in _ (by omega)
            go_wp2_with fail
            go_meet
            refine ⟨?_, by first | rfl | trivial⟩
            rw [← hy.out]
            exact congrArg (Value.int .i64) (by unfold mlX; omega)
          case rest =>
          obtain ⟨rfl, rfl⟩ := hcut
          have hb1 : Below wr.heap.size wr wr := Below.refl _ _
          obtain ⟨a0, a1, a2, a3, d0, d1, d2, d3, f0, f1, f2, f3⟩ := cells4 (HS.out wr hb1)
          go_wp2_with fail
          have hmk : mkXn q p = [.int .i64 y, .string ⟨#[]⟩, .slice none 0 0, .slice none 0 0] := by unfold mkXn; rw [hy.out]
          have hP7 := Lib.hid ((hP.out.below hb1).store mkXn_len hqm hpq (HX.out q hqm) HV2.out)
          have hg7 := setCells_grown (mkXn q p) (p * 4) wr b
          have hF7 : Hid (Ak.Fr m V w (wr.setCells b (p * 4) (mkXn q p))) := Lib.hid ((hB.out.below hb1).grown hg7 (fun b' e => .inr ⟨q, hqm, by rw [HV2.out]; exact e⟩))
          have hL7 : Hid ((wr.setCells b (p * 4) (mkXn q p)).heap[bls]? = some (.cells cls 22 (0, 0))) := Lib.hid ((hg7.block bls (Nat.lt_of_lt_of_le hbl2 hb1.size) (fun e => HNB.out (Option.some.inj e))).trans ((hb1.block bls hbl2).trans hL.out))
          rw [hmk] at hP7 hF7 hL7
          clear hg7 d0 d1 d2 d3 f0 f1 f2 f3 hmk
          go_roundw
          case rel => exact ⟨p + 1, by omega, by go_num, hP7, hF7, hL7⟩
          case measure => simp [intOf]; omega
        · obtain rfl : p = N q := by omega
          have hd : decide ((N q : Int) < (N q : Int)) = false := by simp
          go_wp2_with fail
          go_roundw
          case rel => exact ⟨q + 1, by omega, by go_num, Lib.hid (hP.out.next HX.out), hB, hL⟩
          case measure => simp [intOf]; omega
    · obtain rfl : q = m := by omega
      have hsz := hbel.out.size
      have HP2 := Lib.hid (Ak.P2.start (B0 := w.heap.size) hp.out (Nat.le_refl _))
      clear hp HL
      go_wp2_with fail
      go_loopw [6, 7] (fun gs k wr => ∃ (x : Nat) (H : Nat → Value) (C : Nat → Nat) (col2 : Nat → Nat), x ≤ q ∧ k = .int .i64 x ∧ Hid (Ak.P2 base w.heap.size 64 4 q V N mkXn col2 H C wr) ∧ Hid (∀ j, j < x → C j = N j + 64) ∧ Hid (∀ j, x ≤ j → H j = V j ∧ C j = N j) ∧
          wr.ownsRow w.heap.size 22 1 gs x ((List.range x).map H) ∧ Hid (Ak.Fr q V w wr) ∧ Hid (wr.heap[bls]? = some (.cells cls 22 (0, 0)))) (fun _ k _ => q - (intOf k).toNat)
      case atStart => exact ⟨0, V, N, col, by omega, rfl, HP2, Lib.hid (fun j hj => by omega), Lib.hid (fun j _ => ⟨rfl, rfl⟩), World.ownsRow_nil _ _ _ _, hbel, hl⟩
      case round =>
        obtain ⟨x, H, C, col2, hx, rfl, hp, hC1, hC2, hgs, hB, hL⟩ := hrel
        clear HP2 hbel hl
        by_cases hxq : x < q
        · have hx1 : (0 : Int) ≤ (x : Int) := by omega
          have hx2 : (x : Int) < (q : Int) := by omega
          have hx3 : (x : Int) ≤ 1000000 := by omega
          obtain ⟨A, cq, hV⟩ := hp.out.form hxq
          have hcell : wr.cell? ⟨bls, off + x, none⟩ = some (.slice A (N x) cq) := by rw [cell_of_row wr bls (off + x) cls _ (0, 0) hL.out, HC.out x hxq, hV]
          have hVH : H x = .slice A (N x) cq := by rw [(hC2.out x (Nat.le_refl _)).1, hV]
          have hNx : N x ≤ 1000000 := HN.out x hxq
          go_wp2_with fail
          go_loopw [8, 9] (fun g i w2 => ∃ (p : Nat) (H : Nat → Value) (C : Nat → Nat) (col2 : Nat → Nat), p ≤ 64 ∧ i = .int .i64 p ∧ g = H x ∧ Hid (Ak.P2 base w.heap.size 64 4 q V N mkXn col2 H C w2) ∧ Hid (∀ j, j < x → C j = N j + 64) ∧ Hid (C x = N x + p) ∧ Hid (∀ j, x < j → H j = V j ∧ C j = N j) ∧
              w2.ownsRow w.heap.size 22 1 u6 x ((List.range x).map H) ∧ Hid (Ak.Fr q V w w2) ∧ Hid (w2.heap[bls]? = some (.cells cls 22 (0, 0)))) (fun _ i _ => 64 - (intOf i).toNat)
          case atStart => exact ⟨0, H, C, col2, by omega, rfl, hVH.symm, hp, hC1, Lib.hid (by rw [(hC2.out x (Nat.le_refl _)).2]; rfl), Lib.hid (fun j hj => hC2.out j (by omega)), hgs, hB, hL⟩
          case round =>
            clear hp hC1 hC2 hgs hB hL hVH hcell H C col2
            obtain ⟨p, H, C, col2, hp64, rfl, rfl, hp, hC1, hCx, hC2, hgs, hB, hL⟩ := hrel
            have hcell : wr.cell? ⟨bls, off + x, none⟩ = some (.slice A (N x) cq) := by rw [cell_of_row wr bls (off + x) cls _ (0, 0) hL.out, HC.out x hxq, hV]
            have hbl2 : bls < wr.heap.size := (Array.getElem?_eq_some_iff.1 hL.out).1
            have hszw : w.heap.size ≤ wr.heap.size := hB.out.size
            have hbsz : base ≤ wr.heap.size := Nat.le_trans hbase hszw
            have hownx := (hp.out x hxq).1
            rw [hCx.out] at hownx
            obtain ⟨Ag, cg, hHx⟩ := ownk_form hownx
            have HV := Lib.hid hV
            clear hV
            by_cases hp2 : p < 64
            · have hp3 : (p : Int) < 64 := by omega
              rw [hHx] at hownx
              rw [hHx]
              have HHx := Lib.hid hHx
              obtain ⟨y, hy⟩ : ∃ y, Hid (mlX x (N x + p) = y) := ⟨_, Lib.hid rfl⟩
              clear hHx
              have hxb : (x : Int) ≤ 100000 := by omega
              go_upto_region 17 with fail
              go_cut [10] (fun s10 wx => s10 = .int .i64 y ∧ wr = wx)
              case first =>
                have z1 : IntKind.i64.wrap (-1000000 * ((x : Int) + 1)) = -1000000 * ((x : Int) + 1) := IntWalk.i64_in _ (by omega)
                have z2 : IntKind.i64.wrap (-1000000 * ((x : Int) + 1) - (N x : Int)) = -1000000 * ((x : Int) + 1) - (N x : Int) := IntWalk.i64_in _ (by omega)
                have z3 : IntKind.i64.wrap (-1000000 * ((x : Int) + 1) - (N x : Int) - (p : Int)) = -1000000 * ((x : Int) + 1) - (N x : Int) - (p : Int) := IntWalk.i64_in _ (by omega)
                go_wp2_with fail
                go_meet
                refine ⟨?_, by first | rfl | trivial⟩
                rw [← hy.out]
                exact congrArg (Value.int .i64) (by unfold mlX; omega)
              case rest =>
              obtain ⟨rfl, rfl⟩ := hcut
              have hb1 : Below wr.heap.size wr wr := Below.refl _ _
              go_wp2_with (at_builtin; refine Ak.wpList_app_split rfl _ _ _ rfl lineK _ _ _ _ rfl (by exact hownx.alloc _) _ _ _ _ rfl rfl (by exact news_at _ _ (by simp) _ _) (by simp [Value.oneCell']) (by omega) (by omega) (by simp; omega) (by omega) ?_; intro v1 w2 hown2 hs2)
              have hmk : mkXn x (N x + p) = [.int .i64 y, .string ⟨#[]⟩, .slice none 0 0, .slice none 0 0] := by unfold mkXn; rw [hy.out]
              have hbW := (Below.refl wr.heap.size wr).alloc (Nat.le_refl _) (.cells #[.int .i64 y, .string ⟨#[]⟩, .slice none 0 0, .slice none 0 0] 64)
              have hpW := (hp.out.below hb1).below hbW
              obtain ⟨col3, hp3'⟩ := hpW.app (by simp; omega) mkXn_len hxq (by rw [hCx.out, hmk]; exact hown2) (by rw [HHx.out]; exact hs2)
              have hgr := Ak.split_grown hs2
              have hgsW := own_below (own_below hgs hb1) hbW
              have hLW : (wr.alloc (.cells #[.int .i64 y, .string ⟨#[]⟩, .slice none 0 0, .slice none 0 0] 64)).heap[bls]? = some (.cells cls 22 (0, 0)) := (hbW.block bls (by omega)).trans ((hb1.block bls hbl2).trans hL.out)
              go_roundw
              case rel =>
                refine ⟨p + 1, _, _, col3, by omega, by go_num, ?_, Lib.hid hp3', Lib.hid ?_, Lib.hid ?_, Lib.hid ?_, ?_, Lib.hid ?_, Lib.hid ?_⟩
                · rw [if_pos rfl]
                · intro j hj
                  rw [if_neg (by omega)]
                  exact hC1.out j hj
                · rw [if_pos rfl, hCx.out]; rfl
                · intro j hj
                  rw [if_neg (by omega), if_neg (by omega)]
                  exact hC2.out j hj
                · have he : (List.range x).map (fun j => if j = x then v1 else H j) = (List.range x).map H := by
                    refine List.map_congr_left fun j hj => ?_
                    rw [if_neg (by have := List.mem_range.1 hj; omega)]
                  rw [he]
                  refine hgsW.kept hgr ?_
                  rw [← HHx.out]
                  exact Ak.own_ne hgsW (hpW x hxq).1 (by decide)
                · refine ((hB.out.below hb1).below hbW).grown hgr (fun b hb => ?_)
                  rw [← HHx.out] at hb
                  rcases (hp.out x hxq).2.2.2.2.2.2 b hb with h | h
                  · exact .inl h
                  · exact .inr ⟨x, hxq, h⟩
                · rw [hgr.block bls (by simp; omega) (by rw [← HHx.out]; exact Ak.blk_ne (hpW x hxq).1 hLW (by decide))]
                  exact hLW
              case measure => simp [intOf]; omega
            · obtain rfl : p = 64 := by omega
              have hd : decide ((64 : Int) < 64) = false := by decide
              go_wp2_with ((at_builtin; refine Ak.wpList_app_split rfl _ _ _ rfl slicesXn _ _ _ _ rfl (hgs.alloc _) _ _ _ _ rfl rfl (news_alloc _ _ _) (one_of_all rfl) (by omega) (by omega) (by simp; omega) (by omega) ?_; intro v1 w2 hown2 hs2))
              have hbW := (Below.refl wr.heap.size wr).alloc (Nat.le_refl _) (.cells #[.slice Ag (N x + 64) cg] 22)
              have hpW := hp.out.below hbW
              have hgsW := own_below hgs hbW
              have hgr : (wr.alloc (.cells #[.slice Ag (N x + 64) cg] 22)).grownBy w2 u6.ownBlock := Ak.split_grown hs2
              have hLW : (wr.alloc (.cells #[.slice Ag (N x + 64) cg] 22)).heap[bls]? = some (.cells cls 22 (0, 0)) := (hbW.block bls hbl2).trans hL.out
              have HHx := Lib.hid hHx
              clear hHx
              go_roundw
              case rel =>
                refine ⟨x + 1, H, C, col2, by omega, by go_num, Lib.hid ?_, Lib.hid ?_, Lib.hid ?_, ?_, Lib.hid ?_, Lib.hid ?_⟩
                · refine hpW.grown hgr (fun j hj => ⟨Ak.own_ne (hpW j hj).1 hgsW (by decide), ?_⟩)
                  by_cases hn : (V j).ownBlock = none
                  · exact .inl hn
                  · right
                    intro he
                    obtain ⟨b, hb⟩ := Option.ne_none_iff_exists'.1 hn
                    have c1 := HVB.out j hj b hb
                    have c2 := (hgsW.lt b (by rw [← he]; exact hb)).1
                    omega
                · intro j hj
                  by_cases hjx : j = x
                  · subst hjx; rw [hCx.out]
                  · exact hC1.out j (by omega)
                · intro j hj
                  exact hC2.out j (by omega)
                · rw [List.range_succ, List.map_append, List.map_cons, List.map_nil, HHx.out]
                  exact hown2
                · exact (hB.out.below hbW).grown hgr (fun b hb => .inl (hgsW.lt b hb).1)
                · rw [hgr.block bls (by simp; omega) (fun he => by have c2 := (hgsW.lt bls he.symm).1; omega)]
                  exact hLW
              case measure => simp [intOf]; omega
        · obtain rfl : x = q := by omega
          have HCs : Hid (∀ j, j < x → C j = N j + 64) := hC1
          have hszw : w.heap.size ≤ wr.heap.size := hB.out.size
          go_wp2_with fail
          go_loopw [11] (fun k w2 => ∃ y : Nat, y ≤ x ∧ k = .int .i64 y ∧ Hid (Ak.P2 base w.heap.size 64 4 x V N mkXn col2 H C w2) ∧ w2.ownsRow w.heap.size 22 1 u6 x ((List.range x).map H) ∧ Hid (Ak.Fr x V w w2) ∧ Hid (w2.heap[bls]? = some (.cells cls 22 (0, 0)))) (fun k _ => x - (intOf k).toNat)
          case atStart => exact ⟨0, by omega, rfl, hp, hgs, hB, hL⟩
          case round =>
            clear hp hgs hB hL hszw
            obtain ⟨y, hy, rfl, hp, hgs, hB, hL⟩ := hrel
            obtain ⟨wq, rfl⟩ : ∃ wq : World, wq = wr := ⟨_, rfl⟩
            by_cases hyx : y < x
            · have hy1 : (0 : Int) ≤ (y : Int) := by omega
              have hy2 : (y : Int) < (x : Int) := by omega
              have hy3 : (y : Int) ≤ 1000000 := by omega
              obtain ⟨g5, c5, hu5, hg5, hlt5⟩ := hgs.form (by omega)
              have hc5 : x ≤ c5 := by
                rcases hgs.2 with ⟨h', h''⟩ | ⟨g', cap', cur, h', _, _, hn, _⟩
                · omega
                · rw [hu5] at h'
                  simp only [Value.slice.injEq] at h'
                  omega
              subst hu5
              have hownx := (hp.out y hyx).1
              rw [HCs.out y hyx] at hownx
              obtain ⟨g6, c6, hHy, _, hlt6⟩ := hownx.form (by omega)
              rw [hHy] at hownx
              obtain ⟨A, cq, hV⟩ := hp.out.form hyx
              have hbl2 : bls < wq.heap.size := (Array.getElem?_eq_some_iff.1 hL.out).1
              have HF : Hid (∀ w2, Below wq.heap.size wq w2 → w2.cell? ⟨bls, off + y, none⟩ = some (.slice A (N y) cq) ∧ w2.cell? ⟨g5, y, none⟩ = some (.slice (some ⟨g6, 0, none⟩) (N y + 64) c6)) := Lib.hid (by
                intro w2 hb2
                refine ⟨(hb2.cell (p := ⟨bls, off + y, none⟩) hbl2).trans (by rw [cell_of_row wq bls (off + y) cls _ (0, 0) hL.out, HC.out y hyx, hV]), (hb2.cell (p := ⟨g5, y, none⟩) hlt5).trans ?_⟩
                rw [hgs.cellAt y (by omega)]
                simp [hyx, hHy])
              have HF2 : Hid (∀ w2, Below wq.heap.size wq w2 → ∀ i, i < N y + 64 → ∀ r, r < 4 → w2.cell? ⟨g6, i * 4 + r, none⟩ = (mkXn y i)[r]?) := Lib.hid (by
                intro w2 hb2 i hi r hr
                refine (hb2.cell (p := ⟨g6, i * 4 + r, none⟩) hlt6).trans ?_
                rw [hownx.cellAt _ (by omega), Ak.marks_get mkXn_len _ _ _ _ hi hr])
              have HF3 : Hid (∀ w2, Below wq.heap.size wq w2 → ∀ i, i < N y → ∃ b, A = some ⟨b, 0, none⟩ ∧ ∀ r, r < 4 → w2.cell? ⟨b, i * 4 + r, none⟩ = (mkXn y i)[r]?) := Lib.hid (by
                intro w2 hb2 i hi
                obtain ⟨_, _, _, hat, hvb, hform, _⟩ := hp.out y hyx
                rcases hform with ⟨_, h0⟩ | ⟨b, c, hVb⟩
                · omega
                · rw [hV] at hVb
                  simp only [Value.slice.injEq] at hVb
                  refine ⟨b, hVb.1, fun r hr => ?_⟩
                  have hg := Ak.marks_get mkXn_len y (N y) i r hi hr
                  have hsome : (mkXn y i)[r]? = some ((mkXn y i)[r]'(by rw [mkXn_len]; exact hr)) := List.getElem?_eq_getElem _
                  rw [hsome] at hg ⊢
                  obtain ⟨b2, e1, e2⟩ := hat _ _ hg
                  have hvv : (V y).ownBlock = some b := by rw [hV, hVb.1]; rfl
                  rw [hvv] at e1
                  obtain rfl := Option.some.inj e1
                  exact (hb2.cell (p := ⟨b, i * 4 + r, none⟩) (hvb b hvv).2).trans e2)
              have hNy : N y ≤ 1000000 := HN.out y hyx
              clear hHy hV hownx
              have hcells0 := HF.out wq (Below.refl _ _)
              obtain ⟨hcl0, hcl1⟩ := hcells0
              go_wp2_with fail
              go_loopw [12] (fun i w2 => ∃ p : Nat, p ≤ N y + 64 ∧ i = .int .i64 p ∧ Below wq.heap.size wq w2) (fun i _ => N y + 64 - (intOf i).toNat)
              case atStart => exact ⟨0, by omega, rfl, Below.refl _ _⟩
              case round =>
                obtain ⟨p, hp1, rfl, hbw⟩ := hrel
                clear hcl0 hcl1
                obtain ⟨hcl0, hcl1⟩ := HF.out wr hbw
                have hp2 : (0 : Int) ≤ (p : Int) := by omega
                by_cases hpn : p < N y + 64
                · have hp3 : (p : Int) < (N y : Int) + 64 := by omega
                  obtain ⟨m0, hm0⟩ : ∃ m0, Hid (mlX y p = m0) := ⟨_, Lib.hid rfl⟩
                  have HMK : Hid (mkXn y p = [.int .i64 m0, .string ⟨#[]⟩, .slice none 0 0, .slice none 0 0]) := Lib.hid (by unfold mkXn; rw [hm0.out])
                  have hyb : (y : Int) ≤ 100000 := by omega
                  go_upto_region 26 with fail
                  clear hcl0 hcl1
                  go_cut [13] (fun s13 wx => s13 = .int .i64 m0 ∧ wr = wx)
                  case first =>
                    have z1 : IntKind.i64.wrap (-1000000 * ((y : Int) + 1)) = -1000000 * ((y : Int) + 1) := IntWalk.i64_in _ (by omega)
                    have z2 : IntKind.i64.wrap (-1000000 * ((y : Int) + 1) - (p : Int)) = -1000000 * ((y : Int) + 1) - (p : Int) := IntWalk.i64_in _ (by omega)
                    go_wp2_with fail
                    go_meet
                    refine ⟨?_, by first | rfl | trivial⟩
                    rw [← hm0.out]
                    exact congrArg (Value.int .i64) (by unfold mlX; omega)
                  case rest =>
                  obtain ⟨rfl, rfl⟩ := hcut
                  have hbw3 := hbw
                  obtain ⟨e0, e1⟩ := HF.out wr hbw3
                  have hd := HF2.out wr hbw3 p hpn
                  rw [HMK.out] at hd
                  have d0 : wr.cell? ⟨g6, p * 4, none⟩ = some (.int .i64 m0) := hd 0 (by omega)
                  clear hd
                  by_cases hpN : p < N y
                  · have hp4 : (p : Int) < (N y : Int) := by omega
                    have hd : decide ((p : Int) < (N y : Int)) = true := by simpa using hpN
                    obtain ⟨b, rfl, hd2⟩ := HF3.out wr hbw3 p hpN
                    rw [HMK.out] at hd2
                    have g0 : wr.cell? ⟨b, p * 4, none⟩ = some (.int .i64 m0) := hd2 0 (by omega)
                    clear hd2
                    go_upto_region 27 with fail
                    go_cut [126] (fun s112 wx => s112 = .bool false ∧ Below wq.heap.size wq wx)
                    case first =>
                      go_wp2_with fail
                      go_meet
                      exact ⟨rfl, by first | exact hbw3 | exact below_drewN hbw3 _⟩
                    case rest =>
                      obtain ⟨rfl, hbx⟩ := hcut
                      clear d0 g0 e0 e1
                      go_wp2_with fail
                      go_roundw
                      case rel => exact ⟨p + 1, by omega, by go_num, hbx⟩
                      case measure => simp [intOf]; omega
                  · have hd : decide ((p : Int) < (N y : Int)) = false := by simp; omega
                    go_upto_region 27 with fail
                    go_cut [126] (fun s112 wx => s112 = .bool false ∧ Below wq.heap.size wq wx)
                    case first =>
                      go_wp2_with fail
                      go_meet
                      exact ⟨rfl, by first | exact hbw3 | exact below_drewN hbw3 _⟩
                    case rest =>
                      obtain ⟨rfl, hbx⟩ := hcut
                      clear d0 e0 e1
                      go_wp2_with fail
                      go_roundw
                      case rel => exact ⟨p + 1, by omega, by go_num, hbx⟩
                      case measure => simp [intOf]; omega
                · obtain rfl : p = N y + 64 := by omega
                  have hd : decide ((N y : Int) + 64 < (N y : Int) + 64) = false := by simp
                  go_wp2_with fail
                  go_roundw
                  case rel => exact ⟨y + 1, by omega, by go_num, Lib.hid (hp.out.below hbw), own_below hgs hbw, Lib.hid (hB.out.below hbw), Lib.hid (by rw [hbw.block bls (Array.getElem?_eq_some_iff.1 hL.out).1]; exact hL.out)⟩
                  case measure => simp [intOf]; omega
            · go_wp2_with fail
              go_ret
              exact ⟨rfl, hB.out⟩
end Go.Proofs.YtpgnfianffjpnaaGreatDoor
namespace Go.Proofs.YtpgnfianffjpnaaGreatDoor
open Go Go.RowKit
theorem nil_ApartBytes (w : World) : Calls Tryz.prog 48 #[.slice none 0 0] w fun e w' => e = .returned (.bool true) ∧ w = w' := by
  go_enter Tryz.func48, Tryz.ntmps48
  go_wp2_with fail
  go_loopw [3] (fun k wr => k = .int .i64 0 ∧ w = wr) (fun _ _ => 0)
  case atStart => exact ⟨rfl, by first | rfl | trivial⟩
  case round =>
    obtain ⟨rfl, rfl⟩ := hrel
    go_wp2_with fail
    go_loopw [5, 6] (fun g k wr => g = .slice none 0 0 ∧ k = .int .i64 0 ∧ w = wr) (fun _ _ _ => 0)
    case atStart => exact ⟨rfl, rfl, by first | rfl | trivial⟩
    case round =>
      obtain ⟨rfl, rfl, rfl⟩ := hrel
      go_wp2_with fail
      go_loopw [9] (fun k wr => k = .int .i64 0 ∧ w = wr) (fun _ _ => 0)
      case atStart => exact ⟨rfl, by first | rfl | trivial⟩
      case round =>
        obtain ⟨rfl, rfl⟩ := hrel
        go_wp2_with fail
        go_ret
        exact ⟨by first | rfl | trivial, by first | rfl | trivial⟩
theorem nil_ApartTexts (w : World) : Calls Tryz.prog 49 #[.slice none 0 0] w fun e w' => e = .returned (.bool true) ∧ w = w' := by
  go_enter Tryz.func49, Tryz.ntmps49
  go_wp2_with fail
  go_loopw [3] (fun k wr => k = .int .i64 0 ∧ w = wr) (fun _ _ => 0)
  case atStart => exact ⟨rfl, by first | rfl | trivial⟩
  case round =>
    obtain ⟨rfl, rfl⟩ := hrel
    go_wp2_with fail
    go_loopw [5, 6] (fun g k wr => g = .slice none 0 0 ∧ k = .int .i64 0 ∧ w = wr) (fun _ _ _ => 0)
    case atStart => exact ⟨rfl, rfl, by first | rfl | trivial⟩
    case round =>
      obtain ⟨rfl, rfl, rfl⟩ := hrel
      go_wp2_with fail
      go_loopw [9] (fun k wr => k = .int .i64 0 ∧ w = wr) (fun _ _ => 0)
      case atStart => exact ⟨rfl, by first | rfl | trivial⟩
      case round =>
        obtain ⟨rfl, rfl⟩ := hrel
        go_wp2_with fail
        go_ret
        exact ⟨by first | rfl | trivial, by first | rfl | trivial⟩
theorem nil_ApartInts (w : World) : Calls Tryz.prog 50 #[.slice none 0 0] w fun e w' => e = .returned (.bool true) ∧ w = w' := by
  go_enter Tryz.func50, Tryz.ntmps50
  go_wp2_with fail
  go_loopw [3] (fun k wr => k = .int .i64 0 ∧ w = wr) (fun _ _ => 0)
  case atStart => exact ⟨rfl, by first | rfl | trivial⟩
  case round =>
    obtain ⟨rfl, rfl⟩ := hrel
    go_wp2_with fail
    go_loopw [5, 6] (fun g k wr => g = .slice none 0 0 ∧ k = .int .i64 0 ∧ w = wr) (fun _ _ _ => 0)
    case atStart => exact ⟨rfl, rfl, by first | rfl | trivial⟩
    case round =>
      obtain ⟨rfl, rfl, rfl⟩ := hrel
      go_wp2_with fail
      go_loopw [9] (fun k wr => k = .int .i64 0 ∧ w = wr) (fun _ _ => 0)
      case atStart => exact ⟨rfl, by first | rfl | trivial⟩
      case round =>
        obtain ⟨rfl, rfl⟩ := hrel
        go_wp2_with fail
        go_ret
        exact ⟨by first | rfl | trivial, by first | rfl | trivial⟩
theorem nil_ApartEntries (w : World) : Calls Tryz.prog 51 #[.slice none 0 0] w fun e w' => e = .returned (.bool true) ∧ w = w' := by
  go_enter Tryz.func51, Tryz.ntmps51
  go_wp2_with fail
  go_loopw [3] (fun k wr => k = .int .i64 0 ∧ w = wr) (fun _ _ => 0)
  case atStart => exact ⟨rfl, by first | rfl | trivial⟩
  case round =>
    obtain ⟨rfl, rfl⟩ := hrel
    go_wp2_with fail
    go_loopw [5, 6] (fun g k wr => g = .slice none 0 0 ∧ k = .int .i64 0 ∧ w = wr) (fun _ _ _ => 0)
    case atStart => exact ⟨rfl, rfl, by first | rfl | trivial⟩
    case round =>
      obtain ⟨rfl, rfl, rfl⟩ := hrel
      go_wp2_with fail
      go_loopw [9] (fun k wr => k = .int .i64 0 ∧ w = wr) (fun _ _ => 0)
      case atStart => exact ⟨rfl, by first | rfl | trivial⟩
      case round =>
        obtain ⟨rfl, rfl⟩ := hrel
        go_wp2_with fail
        go_ret
        exact ⟨by first | rfl | trivial, by first | rfl | trivial⟩
theorem nil_ApartChanges (w : World) : Calls Tryz.prog 52 #[.slice none 0 0] w fun e w' => e = .returned (.bool true) ∧ w = w' := by
  go_enter Tryz.func52, Tryz.ntmps52
  go_wp2_with fail
  go_loopw [3] (fun k wr => k = .int .i64 0 ∧ w = wr) (fun _ _ => 0)
  case atStart => exact ⟨rfl, by first | rfl | trivial⟩
  case round =>
    obtain ⟨rfl, rfl⟩ := hrel
    go_wp2_with fail
    go_loopw [5, 6] (fun g k wr => g = .slice none 0 0 ∧ k = .int .i64 0 ∧ w = wr) (fun _ _ _ => 0)
    case atStart => exact ⟨rfl, rfl, by first | rfl | trivial⟩
    case round =>
      obtain ⟨rfl, rfl, rfl⟩ := hrel
      go_wp2_with fail
      go_loopw [9] (fun k wr => k = .int .i64 0 ∧ w = wr) (fun _ _ => 0)
      case atStart => exact ⟨rfl, by first | rfl | trivial⟩
      case round =>
        obtain ⟨rfl, rfl⟩ := hrel
        go_wp2_with fail
        go_ret
        exact ⟨by first | rfl | trivial, by first | rfl | trivial⟩
theorem nil_ApartMembers (w : World) : Calls Tryz.prog 53 #[.slice none 0 0] w fun e w' => e = .returned (.bool true) ∧ w = w' := by
  go_enter Tryz.func53, Tryz.ntmps53
  go_wp2_with fail
  go_loopw [3] (fun k wr => k = .int .i64 0 ∧ w = wr) (fun _ _ => 0)
  case atStart => exact ⟨rfl, by first | rfl | trivial⟩
  case round =>
    obtain ⟨rfl, rfl⟩ := hrel
    go_wp2_with fail
    go_loopw [5, 6] (fun g k wr => g = .slice none 0 0 ∧ k = .int .i64 0 ∧ w = wr) (fun _ _ _ => 0)
    case atStart => exact ⟨rfl, rfl, by first | rfl | trivial⟩
    case round =>
      obtain ⟨rfl, rfl, rfl⟩ := hrel
      go_wp2_with fail
      go_loopw [9] (fun k wr => k = .int .i64 0 ∧ w = wr) (fun _ _ => 0)
      case atStart => exact ⟨rfl, by first | rfl | trivial⟩
      case round =>
        obtain ⟨rfl, rfl⟩ := hrel
        go_wp2_with fail
        go_ret
        exact ⟨by first | rfl | trivial, by first | rfl | trivial⟩
theorem nil_ApartPairs (w : World) : Calls Tryz.prog 54 #[.slice none 0 0] w fun e w' => e = .returned (.bool true) ∧ w = w' := by
  go_enter Tryz.func54, Tryz.ntmps54
  go_wp2_with fail
  go_loopw [3] (fun k wr => k = .int .i64 0 ∧ w = wr) (fun _ _ => 0)
  case atStart => exact ⟨rfl, by first | rfl | trivial⟩
  case round =>
    obtain ⟨rfl, rfl⟩ := hrel
    go_wp2_with fail
    go_loopw [5, 6] (fun g k wr => g = .slice none 0 0 ∧ k = .int .i64 0 ∧ w = wr) (fun _ _ _ => 0)
    case atStart => exact ⟨rfl, rfl, by first | rfl | trivial⟩
    case round =>
      obtain ⟨rfl, rfl, rfl⟩ := hrel
      go_wp2_with fail
      go_loopw [9] (fun k wr => k = .int .i64 0 ∧ w = wr) (fun _ _ => 0)
      case atStart => exact ⟨rfl, by first | rfl | trivial⟩
      case round =>
        obtain ⟨rfl, rfl⟩ := hrel
        go_wp2_with fail
        go_ret
        exact ⟨by first | rfl | trivial, by first | rfl | trivial⟩
theorem nil_ApartDigests (w : World) : Calls Tryz.prog 55 #[.slice none 0 0] w fun e w' => e = .returned (.bool true) ∧ w = w' := by
  go_enter Tryz.func55, Tryz.ntmps55
  go_wp2_with fail
  go_loopw [3] (fun k wr => k = .int .i64 0 ∧ w = wr) (fun _ _ => 0)
  case atStart => exact ⟨rfl, by first | rfl | trivial⟩
  case round =>
    obtain ⟨rfl, rfl⟩ := hrel
    go_wp2_with fail
    go_loopw [5, 6] (fun g k wr => g = .slice none 0 0 ∧ k = .int .i64 0 ∧ w = wr) (fun _ _ _ => 0)
    case atStart => exact ⟨rfl, rfl, by first | rfl | trivial⟩
    case round =>
      obtain ⟨rfl, rfl, rfl⟩ := hrel
      go_wp2_with fail
      go_loopw [9] (fun k wr => k = .int .i64 0 ∧ w = wr) (fun _ _ => 0)
      case atStart => exact ⟨rfl, by first | rfl | trivial⟩
      case round =>
        obtain ⟨rfl, rfl⟩ := hrel
        go_wp2_with fail
        go_ret
        exact ⟨by first | rfl | trivial, by first | rfl | trivial⟩
theorem nil_ApartPasts (w : World) : Calls Tryz.prog 56 #[.slice none 0 0] w fun e w' => e = .returned (.bool true) ∧ w = w' := by
  go_enter Tryz.func56, Tryz.ntmps56
  go_wp2_with fail
  go_loopw [3] (fun k wr => k = .int .i64 0 ∧ w = wr) (fun _ _ => 0)
  case atStart => exact ⟨rfl, by first | rfl | trivial⟩
  case round =>
    obtain ⟨rfl, rfl⟩ := hrel
    go_wp2_with fail
    go_loopw [5, 6] (fun g k wr => g = .slice none 0 0 ∧ k = .int .i64 0 ∧ w = wr) (fun _ _ _ => 0)
    case atStart => exact ⟨rfl, rfl, by first | rfl | trivial⟩
    case round =>
      obtain ⟨rfl, rfl, rfl⟩ := hrel
      go_wp2_with fail
      go_loopw [9] (fun k wr => k = .int .i64 0 ∧ w = wr) (fun _ _ => 0)
      case atStart => exact ⟨rfl, by first | rfl | trivial⟩
      case round =>
        obtain ⟨rfl, rfl⟩ := hrel
        go_wp2_with fail
        go_ret
        exact ⟨by first | rfl | trivial, by first | rfl | trivial⟩
theorem nil_ApartWords (w : World) : Calls Tryz.prog 57 #[.slice none 0 0] w fun e w' => e = .returned (.bool true) ∧ w = w' := by
  go_enter Tryz.func57, Tryz.ntmps57
  go_wp2_with fail
  go_loopw [3] (fun k wr => k = .int .i64 0 ∧ w = wr) (fun _ _ => 0)
  case atStart => exact ⟨rfl, by first | rfl | trivial⟩
  case round =>
    obtain ⟨rfl, rfl⟩ := hrel
    go_wp2_with fail
    go_loopw [5, 6] (fun g k wr => g = .slice none 0 0 ∧ k = .int .i64 0 ∧ w = wr) (fun _ _ _ => 0)
    case atStart => exact ⟨rfl, rfl, by first | rfl | trivial⟩
    case round =>
      obtain ⟨rfl, rfl, rfl⟩ := hrel
      go_wp2_with fail
      go_loopw [9] (fun k wr => k = .int .i64 0 ∧ w = wr) (fun _ _ => 0)
      case atStart => exact ⟨rfl, by first | rfl | trivial⟩
      case round =>
        obtain ⟨rfl, rfl⟩ := hrel
        go_wp2_with fail
        go_ret
        exact ⟨by first | rfl | trivial, by first | rfl | trivial⟩
theorem nil_ApartMarks (w : World) : Calls Tryz.prog 58 #[.slice none 0 0] w fun e w' => e = .returned (.bool true) ∧ w = w' := by
  go_enter Tryz.func58, Tryz.ntmps58
  go_wp2_with fail
  go_loopw [3] (fun k wr => k = .int .i64 0 ∧ w = wr) (fun _ _ => 0)
  case atStart => exact ⟨rfl, by first | rfl | trivial⟩
  case round =>
    obtain ⟨rfl, rfl⟩ := hrel
    go_wp2_with fail
    go_loopw [5, 6] (fun g k wr => g = .slice none 0 0 ∧ k = .int .i64 0 ∧ w = wr) (fun _ _ _ => 0)
    case atStart => exact ⟨rfl, rfl, by first | rfl | trivial⟩
    case round =>
      obtain ⟨rfl, rfl, rfl⟩ := hrel
      go_wp2_with fail
      go_loopw [9] (fun k wr => k = .int .i64 0 ∧ w = wr) (fun _ _ => 0)
      case atStart => exact ⟨rfl, by first | rfl | trivial⟩
      case round =>
        obtain ⟨rfl, rfl⟩ := hrel
        go_wp2_with fail
        go_ret
        exact ⟨by first | rfl | trivial, by first | rfl | trivial⟩
theorem nil_ApartDocs (w : World) : Calls Tryz.prog 59 #[.slice none 0 0] w fun e w' => e = .returned (.bool true) ∧ w = w' := by
  go_enter Tryz.func59, Tryz.ntmps59
  go_wp2_with fail
  go_loopw [3] (fun k wr => k = .int .i64 0 ∧ w = wr) (fun _ _ => 0)
  case atStart => exact ⟨rfl, by first | rfl | trivial⟩
  case round =>
    obtain ⟨rfl, rfl⟩ := hrel
    go_wp2_with fail
    go_loopw [5, 6] (fun g k wr => g = .slice none 0 0 ∧ k = .int .i64 0 ∧ w = wr) (fun _ _ _ => 0)
    case atStart => exact ⟨rfl, rfl, by first | rfl | trivial⟩
    case round =>
      obtain ⟨rfl, rfl, rfl⟩ := hrel
      go_wp2_with fail
      go_loopw [9] (fun k wr => k = .int .i64 0 ∧ w = wr) (fun _ _ => 0)
      case atStart => exact ⟨rfl, by first | rfl | trivial⟩
      case round =>
        obtain ⟨rfl, rfl⟩ := hrel
        go_wp2_with fail
        go_ret
        exact ⟨by first | rfl | trivial, by first | rfl | trivial⟩
theorem nil_ApartRefs (w : World) : Calls Tryz.prog 60 #[.slice none 0 0] w fun e w' => e = .returned (.bool true) ∧ w = w' := by
  go_enter Tryz.func60, Tryz.ntmps60
  go_wp2_with fail
  go_loopw [3] (fun k wr => k = .int .i64 0 ∧ w = wr) (fun _ _ => 0)
  case atStart => exact ⟨rfl, by first | rfl | trivial⟩
  case round =>
    obtain ⟨rfl, rfl⟩ := hrel
    go_wp2_with fail
    go_loopw [5, 6] (fun g k wr => g = .slice none 0 0 ∧ k = .int .i64 0 ∧ w = wr) (fun _ _ _ => 0)
    case atStart => exact ⟨rfl, rfl, by first | rfl | trivial⟩
    case round =>
      obtain ⟨rfl, rfl, rfl⟩ := hrel
      go_wp2_with fail
      go_loopw [9] (fun k wr => k = .int .i64 0 ∧ w = wr) (fun _ _ => 0)
      case atStart => exact ⟨rfl, by first | rfl | trivial⟩
      case round =>
        obtain ⟨rfl, rfl⟩ := hrel
        go_wp2_with fail
        go_ret
        exact ⟨by first | rfl | trivial, by first | rfl | trivial⟩
theorem nil_ApartPieces (w : World) : Calls Tryz.prog 61 #[.slice none 0 0] w fun e w' => e = .returned (.bool true) ∧ w = w' := by
  go_enter Tryz.func61, Tryz.ntmps61
  go_wp2_with fail
  go_loopw [3] (fun k wr => k = .int .i64 0 ∧ w = wr) (fun _ _ => 0)
  case atStart => exact ⟨rfl, by first | rfl | trivial⟩
  case round =>
    obtain ⟨rfl, rfl⟩ := hrel
    go_wp2_with fail
    go_loopw [5, 6] (fun g k wr => g = .slice none 0 0 ∧ k = .int .i64 0 ∧ w = wr) (fun _ _ _ => 0)
    case atStart => exact ⟨rfl, rfl, by first | rfl | trivial⟩
    case round =>
      obtain ⟨rfl, rfl, rfl⟩ := hrel
      go_wp2_with fail
      go_loopw [9] (fun k wr => k = .int .i64 0 ∧ w = wr) (fun _ _ => 0)
      case atStart => exact ⟨rfl, by first | rfl | trivial⟩
      case round =>
        obtain ⟨rfl, rfl⟩ := hrel
        go_wp2_with fail
        go_ret
        exact ⟨by first | rfl | trivial, by first | rfl | trivial⟩
theorem nil_ApartKeeps (w : World) : Calls Tryz.prog 62 #[.slice none 0 0] w fun e w' => e = .returned (.bool true) ∧ w = w' := by
  go_enter Tryz.func62, Tryz.ntmps62
  go_wp2_with fail
  go_loopw [3] (fun k wr => k = .int .i64 0 ∧ w = wr) (fun _ _ => 0)
  case atStart => exact ⟨rfl, by first | rfl | trivial⟩
  case round =>
    obtain ⟨rfl, rfl⟩ := hrel
    go_wp2_with fail
    go_loopw [5, 6] (fun g k wr => g = .slice none 0 0 ∧ k = .int .i64 0 ∧ w = wr) (fun _ _ _ => 0)
    case atStart => exact ⟨rfl, rfl, by first | rfl | trivial⟩
    case round =>
      obtain ⟨rfl, rfl, rfl⟩ := hrel
      go_wp2_with fail
      go_loopw [9] (fun k wr => k = .int .i64 0 ∧ w = wr) (fun _ _ => 0)
      case atStart => exact ⟨rfl, by first | rfl | trivial⟩
      case round =>
        obtain ⟨rfl, rfl⟩ := hrel
        go_wp2_with fail
        go_ret
        exact ⟨by first | rfl | trivial, by first | rfl | trivial⟩
theorem nil_ApartDids (w : World) : Calls Tryz.prog 63 #[.slice none 0 0] w fun e w' => e = .returned (.bool true) ∧ w = w' := by
  go_enter Tryz.func63, Tryz.ntmps63
  go_wp2_with fail
  go_loopw [3] (fun k wr => k = .int .i64 0 ∧ w = wr) (fun _ _ => 0)
  case atStart => exact ⟨rfl, by first | rfl | trivial⟩
  case round =>
    obtain ⟨rfl, rfl⟩ := hrel
    go_wp2_with fail
    go_loopw [5, 6] (fun g k wr => g = .slice none 0 0 ∧ k = .int .i64 0 ∧ w = wr) (fun _ _ _ => 0)
    case atStart => exact ⟨rfl, rfl, by first | rfl | trivial⟩
    case round =>
      obtain ⟨rfl, rfl, rfl⟩ := hrel
      go_wp2_with fail
      go_loopw [9] (fun k wr => k = .int .i64 0 ∧ w = wr) (fun _ _ => 0)
      case atStart => exact ⟨rfl, by first | rfl | trivial⟩
      case round =>
        obtain ⟨rfl, rfl⟩ := hrel
        go_wp2_with fail
        go_ret
        exact ⟨by first | rfl | trivial, by first | rfl | trivial⟩
theorem nil_ApartLosts (w : World) : Calls Tryz.prog 64 #[.slice none 0 0] w fun e w' => e = .returned (.bool true) ∧ w = w' := by
  go_enter Tryz.func64, Tryz.ntmps64
  go_wp2_with fail
  go_loopw [3] (fun k wr => k = .int .i64 0 ∧ w = wr) (fun _ _ => 0)
  case atStart => exact ⟨rfl, by first | rfl | trivial⟩
  case round =>
    obtain ⟨rfl, rfl⟩ := hrel
    go_wp2_with fail
    go_loopw [5, 6] (fun g k wr => g = .slice none 0 0 ∧ k = .int .i64 0 ∧ w = wr) (fun _ _ _ => 0)
    case atStart => exact ⟨rfl, rfl, by first | rfl | trivial⟩
    case round =>
      obtain ⟨rfl, rfl, rfl⟩ := hrel
      go_wp2_with fail
      go_loopw [9] (fun k wr => k = .int .i64 0 ∧ w = wr) (fun _ _ => 0)
      case atStart => exact ⟨rfl, by first | rfl | trivial⟩
      case round =>
        obtain ⟨rfl, rfl⟩ := hrel
        go_wp2_with fail
        go_ret
        exact ⟨by first | rfl | trivial, by first | rfl | trivial⟩
theorem nil_apartSteps (w : World) : Calls Tryz.prog 65 #[.slice none 0 0] w fun e w' => e = .returned (.bool true) ∧ w = w' := by
  go_enter Tryz.func65, Tryz.ntmps65
  go_wp2_with fail
  go_loopw [3] (fun k wr => k = .int .i64 0 ∧ w = wr) (fun _ _ => 0)
  case atStart => exact ⟨rfl, by first | rfl | trivial⟩
  case round =>
    obtain ⟨rfl, rfl⟩ := hrel
    go_wp2_with fail
    go_loopw [6, 7] (fun g k wr => g = .slice none 0 0 ∧ k = .int .i64 0 ∧ w = wr) (fun _ _ _ => 0)
    case atStart => exact ⟨rfl, rfl, by first | rfl | trivial⟩
    case round =>
      obtain ⟨rfl, rfl, rfl⟩ := hrel
      go_wp2_with fail
      go_loopw [11] (fun k wr => k = .int .i64 0 ∧ w = wr) (fun _ _ => 0)
      case atStart => exact ⟨rfl, by first | rfl | trivial⟩
      case round =>
        obtain ⟨rfl, rfl⟩ := hrel
        go_wp2_with fail
        go_ret
        exact ⟨by first | rfl | trivial, by first | rfl | trivial⟩
theorem nil_apartStages (w : World) : Calls Tryz.prog 66 #[.slice none 0 0] w fun e w' => e = .returned (.bool true) ∧ w = w' := by
  go_enter Tryz.func66, Tryz.ntmps66
  go_wp2_with fail
  go_loopw [3] (fun k wr => k = .int .i64 0 ∧ w = wr) (fun _ _ => 0)
  case atStart => exact ⟨rfl, by first | rfl | trivial⟩
  case round =>
    obtain ⟨rfl, rfl⟩ := hrel
    go_wp2_with fail
    go_loopw [6, 7] (fun g k wr => g = .slice none 0 0 ∧ k = .int .i64 0 ∧ w = wr) (fun _ _ _ => 0)
    case atStart => exact ⟨rfl, rfl, by first | rfl | trivial⟩
    case round =>
      obtain ⟨rfl, rfl, rfl⟩ := hrel
      go_wp2_with fail
      go_loopw [11] (fun k wr => k = .int .i64 0 ∧ w = wr) (fun _ _ => 0)
      case atStart => exact ⟨rfl, by first | rfl | trivial⟩
      case round =>
        obtain ⟨rfl, rfl⟩ := hrel
        go_wp2_with fail
        go_ret
        exact ⟨by first | rfl | trivial, by first | rfl | trivial⟩
theorem nil_apartItems (w : World) : Calls Tryz.prog 67 #[.slice none 0 0] w fun e w' => e = .returned (.bool true) ∧ w = w' := by
  go_enter Tryz.func67, Tryz.ntmps67
  go_wp2_with fail
  go_loopw [3] (fun k wr => k = .int .i64 0 ∧ w = wr) (fun _ _ => 0)
  case atStart => exact ⟨rfl, by first | rfl | trivial⟩
  case round =>
    obtain ⟨rfl, rfl⟩ := hrel
    go_wp2_with fail
    go_loopw [6, 7] (fun g k wr => g = .slice none 0 0 ∧ k = .int .i64 0 ∧ w = wr) (fun _ _ _ => 0)
    case atStart => exact ⟨rfl, rfl, by first | rfl | trivial⟩
    case round =>
      obtain ⟨rfl, rfl, rfl⟩ := hrel
      go_wp2_with fail
      go_loopw [11] (fun k wr => k = .int .i64 0 ∧ w = wr) (fun _ _ => 0)
      case atStart => exact ⟨rfl, by first | rfl | trivial⟩
      case round =>
        obtain ⟨rfl, rfl⟩ := hrel
        go_wp2_with fail
        go_ret
        exact ⟨by first | rfl | trivial, by first | rfl | trivial⟩
theorem nil_apartNodes (w : World) : Calls Tryz.prog 69 #[.slice none 0 0] w fun e w' => e = .returned (.bool true) ∧ w = w' := by
  go_enter Tryz.func69, Tryz.ntmps69
  go_wp2_with fail
  go_loopw [3] (fun k wr => k = .int .i64 0 ∧ w = wr) (fun _ _ => 0)
  case atStart => exact ⟨rfl, by first | rfl | trivial⟩
  case round =>
    obtain ⟨rfl, rfl⟩ := hrel
    go_wp2_with fail
    go_loopw [6, 7] (fun g k wr => g = .slice none 0 0 ∧ k = .int .i64 0 ∧ w = wr) (fun _ _ _ => 0)
    case atStart => exact ⟨rfl, rfl, by first | rfl | trivial⟩
    case round =>
      obtain ⟨rfl, rfl, rfl⟩ := hrel
      go_wp2_with fail
      go_loopw [11] (fun k wr => k = .int .i64 0 ∧ w = wr) (fun _ _ => 0)
      case atStart => exact ⟨rfl, by first | rfl | trivial⟩
      case round =>
        obtain ⟨rfl, rfl⟩ := hrel
        go_wp2_with fail
        go_ret
        exact ⟨by first | rfl | trivial, by first | rfl | trivial⟩
theorem nil_apartLevels (w : World) : Calls Tryz.prog 70 #[.slice none 0 0] w fun e w' => e = .returned (.bool true) ∧ w = w' := by
  go_enter Tryz.func70, Tryz.ntmps70
  go_wp2_with fail
  go_loopw [3] (fun k wr => k = .int .i64 0 ∧ w = wr) (fun _ _ => 0)
  case atStart => exact ⟨rfl, by first | rfl | trivial⟩
  case round =>
    obtain ⟨rfl, rfl⟩ := hrel
    go_wp2_with fail
    go_loopw [6, 7] (fun g k wr => g = .slice none 0 0 ∧ k = .int .i64 0 ∧ w = wr) (fun _ _ _ => 0)
    case atStart => exact ⟨rfl, rfl, by first | rfl | trivial⟩
    case round =>
      obtain ⟨rfl, rfl, rfl⟩ := hrel
      go_wp2_with fail
      go_loopw [11] (fun k wr => k = .int .i64 0 ∧ w = wr) (fun _ _ => 0)
      case atStart => exact ⟨rfl, by first | rfl | trivial⟩
      case round =>
        obtain ⟨rfl, rfl⟩ := hrel
        go_wp2_with fail
        go_ret
        exact ⟨by first | rfl | trivial, by first | rfl | trivial⟩
theorem nil_apartJsons (w : World) : Calls Tryz.prog 71 #[.slice none 0 0] w fun e w' => e = .returned (.bool true) ∧ w = w' := by
  go_enter Tryz.func71, Tryz.ntmps71
  go_wp2_with fail
  go_loopw [3] (fun k wr => k = .int .i64 0 ∧ w = wr) (fun _ _ => 0)
  case atStart => exact ⟨rfl, by first | rfl | trivial⟩
  case round =>
    obtain ⟨rfl, rfl⟩ := hrel
    go_wp2_with fail
    go_loopw [6, 7] (fun g k wr => g = .slice none 0 0 ∧ k = .int .i64 0 ∧ w = wr) (fun _ _ _ => 0)
    case atStart => exact ⟨rfl, rfl, by first | rfl | trivial⟩
    case round =>
      obtain ⟨rfl, rfl, rfl⟩ := hrel
      go_wp2_with fail
      go_loopw [11] (fun k wr => k = .int .i64 0 ∧ w = wr) (fun _ _ => 0)
      case atStart => exact ⟨rfl, by first | rfl | trivial⟩
      case round =>
        obtain ⟨rfl, rfl⟩ := hrel
        go_wp2_with fail
        go_ret
        exact ⟨by first | rfl | trivial, by first | rfl | trivial⟩
end Go.Proofs.YtpgnfianffjpnaaGreatDoor
namespace Go.Proofs.YtpgnfianffjpnaaGreatDoor
open Go Go.RowKit
/-- the book in memory, at R. -/
structure Bk (w : World) (base R : Nat) (ms ds ls : List Value) (vm vd vl : Value) : Prop where
  box : Blk w R 57 #[.slice none 0 0, .slice none 0 0, .slice none 0 0, .slice none 0 0, .slice none 0 0, .slice none 0 0, .slice none 0 0, .slice none 0 0, .slice none 0 0, .slice none 0 0, vm, vd, .slice none 0 0, .slice none 0 0, .slice none 0 0, .slice none 0 0, .slice none 0 0, .slice none 0 0, .slice none 0 0, .slice none 0 0, vl, .slice none 0 0, .slice none 0 0, .slice none 0 0]
  om : w.ownsRow base 61 1 vm ms.length ms
  od : w.ownsRow base 62 1 vd ds.length ds
  ol : w.ownsRow base 22 1 vl ls.length ls
  hR : base ≤ R
theorem Bk.new {w w' : World} {base R : Nat} {ms ds ls : List Value} {vm vd vl : Value} (h : Bk w base R ms ds ls vm vd vl) (k : Below w.heap.size w w') : Bk w' base R ms ds ls vm vd vl :=
  ⟨h.box.below k h.box.lt, own_below h.om k, own_below h.od k, own_below h.ol k, h.hR⟩
theorem oneSl {A : Option Addr} {n c : Nat} : ∀ u ∈ ([.slice A n c] : List Value), u.oneCell' = true := fun u hu => by rw [List.mem_singleton] at hu; subst hu; rfl
set_option maxRecDepth 100000 in
set_option maxHeartbeats 1000000 in
theorem bookMarks_any (w : World) {base R : Nat} {ms ds ls : List Value} {vm vd vl : Value} (h : Bk w base R ms ds ls vm vd vl) (A : Option Addr) (n c : Nat) (hn : ms.length ≤ 1000000) (hbase : base ≤ w.heap.size) :
    Calls Tryz.prog 110 #[.pointer (some ⟨R, 0, none⟩), .slice A n c] w fun r w' => r = .returned (.tuple #[]) ∧ (∃ v', Bk w' base R (ms ++ [.slice A n c]) ds ls v' vd vl) ∧ Below base w w' ∧ Fx (fun b => b = R ∨ vm.ownBlock = some b) w w' := by
  obtain ⟨Av, cv, rfl⟩ := ownk_form h.om
  have hown := h.om
  have hbox := h.box
  have k0 : w.cell? ⟨R, 10, none⟩ = some (.slice Av ms.length cv) := hbox.cell 10
  have hRl := hbox.lt
  have hR := h.hR
  have hneR := own_blk hown hbox (by decide)
  have hbb := Below.refl base w
  have hba := (Below.refl w.heap.size w).alloc (Nat.le_refl _) (.cells #[.slice A n c] 61)
  have HH := Lib.hid h
  go_enter Tryz.func110, Tryz.ntmps110
  go_wp2_with (at_builtin; refine wpList_appk rfl _ _ _ rfl slicesMn _ _ _ _ rfl (by exact hown.alloc _) _ _ _ _ rfl rfl (by exact news_at _ _ (by simp) _ _) oneSl (by omega) (by omega) (by exact hbb.alloc hbase _) (by simp; omega) ?_; intro v1 w3 ho1 hb1 hg1 hat1; obtain ⟨B1, q1, rfl⟩ := ownk_form ho1; have hbx1 := hg1.block R (by simp; omega) (fun e => hneR e.symm); have hbx2 : Blk w3 R 57 #[.slice none 0 0, .slice none 0 0, .slice none 0 0, .slice none 0 0, .slice none 0 0, .slice none 0 0, .slice none 0 0, .slice none 0 0, .slice none 0 0, .slice none 0 0, .slice Av ms.length cv, vd, .slice none 0 0, .slice none 0 0, .slice none 0 0, .slice none 0 0, .slice none 0 0, .slice none 0 0, .slice none 0 0, .slice none 0 0, vl, .slice none 0 0, .slice none 0 0, .slice none 0 0] := hbx1.trans (Blk.alloc hbox _); have kB : w3.cell? ⟨R, 10, none⟩ = some (.slice Av ms.length cv) := hbx2.cell 10; have fB := hbx2.frozen 10)
  have hgS := setCell_grown w3 ⟨R, 10, none⟩ (.slice B1 (ms.length + 1) q1)
  have hbx4 : Blk (w3.setCell ⟨R, 10, none⟩ (.slice B1 (ms.length + 1) q1)) R 57 #[.slice none 0 0, .slice none 0 0, .slice none 0 0, .slice none 0 0, .slice none 0 0, .slice none 0 0, .slice none 0 0, .slice none 0 0, .slice none 0 0, .slice none 0 0, .slice B1 (ms.length + 1) q1, vd, .slice none 0 0, .slice none 0 0, .slice none 0 0, .slice none 0 0, .slice none 0 0, .slice none 0 0, .slice none 0 0, .slice none 0 0, vl, .slice none 0 0, .slice none 0 0, .slice none 0 0] := by
    have := hbx2.set_ 10 (.slice B1 (ms.length + 1) q1)
    simpa using this
  have hfx : Fx (fun b => b = R ∨ (Value.slice Av ms.length cv).ownBlock = some b) w (w3.setCell ⟨R, 10, none⟩ (.slice B1 (ms.length + 1) q1)) :=
    ((Fx.new hba).trans ((Fx.of_grown hg1).mono (fun b _ e => .inr e))).trans ((Fx.set w3 R 10 _).mono (fun b _ e => .inl e))
  go_end0
  exact ⟨rfl, ⟨_, hbx4, (by rw [List.length_append]; exact (ho1.kept hgS (.inr (own_blk ho1 hbx2 (by decide))))), ((((own_below h.od hba).kept hg1 (own_own (own_below h.od hba) (own_below h.om hba) (by decide))).kept hgS (.inr (own_blk ((own_below h.od hba).kept hg1 (own_own (own_below h.od hba) (own_below h.om hba) (by decide))) hbx2 (by decide))))), ((((own_below h.ol hba).kept hg1 (own_own (own_below h.ol hba) (own_below h.om hba) (by decide))).kept hgS (.inr (own_blk ((own_below h.ol hba).kept hg1 (own_own (own_below h.ol hba) (own_below h.om hba) (by decide))) hbx2 (by decide))))), hR⟩, hb1.setCell (p := ⟨R, 10, none⟩) hR _, hfx⟩
set_option maxRecDepth 100000 in
set_option maxHeartbeats 1000000 in
theorem bookDocs_any (w : World) {base R : Nat} {ms ds ls : List Value} {vm vd vl : Value} (h : Bk w base R ms ds ls vm vd vl) (A : Option Addr) (n c : Nat) (hn : ds.length ≤ 1000000) (hbase : base ≤ w.heap.size) :
    Calls Tryz.prog 111 #[.pointer (some ⟨R, 0, none⟩), .slice A n c] w fun r w' => r = .returned (.tuple #[]) ∧ (∃ v', Bk w' base R ms (ds ++ [.slice A n c]) ls vm v' vl) ∧ Below base w w' ∧ Fx (fun b => b = R ∨ vd.ownBlock = some b) w w' := by
  obtain ⟨Av, cv, rfl⟩ := ownk_form h.od
  have hown := h.od
  have hbox := h.box
  have k0 : w.cell? ⟨R, 11, none⟩ = some (.slice Av ds.length cv) := hbox.cell 11
  have hRl := hbox.lt
  have hR := h.hR
  have hneR := own_blk hown hbox (by decide)
  have hbb := Below.refl base w
  have hba := (Below.refl w.heap.size w).alloc (Nat.le_refl _) (.cells #[.slice A n c] 62)
  have HH := Lib.hid h
  go_enter Tryz.func111, Tryz.ntmps111
  go_wp2_with (at_builtin; refine wpList_appk rfl _ _ _ rfl slicesDn _ _ _ _ rfl (by exact hown.alloc _) _ _ _ _ rfl rfl (by exact news_at _ _ (by simp) _ _) oneSl (by omega) (by omega) (by exact hbb.alloc hbase _) (by simp; omega) ?_; intro v1 w3 ho1 hb1 hg1 hat1; obtain ⟨B1, q1, rfl⟩ := ownk_form ho1; have hbx1 := hg1.block R (by simp; omega) (fun e => hneR e.symm); have hbx2 : Blk w3 R 57 #[.slice none 0 0, .slice none 0 0, .slice none 0 0, .slice none 0 0, .slice none 0 0, .slice none 0 0, .slice none 0 0, .slice none 0 0, .slice none 0 0, .slice none 0 0, vm, .slice Av ds.length cv, .slice none 0 0, .slice none 0 0, .slice none 0 0, .slice none 0 0, .slice none 0 0, .slice none 0 0, .slice none 0 0, .slice none 0 0, vl, .slice none 0 0, .slice none 0 0, .slice none 0 0] := hbx1.trans (Blk.alloc hbox _); have kB : w3.cell? ⟨R, 11, none⟩ = some (.slice Av ds.length cv) := hbx2.cell 11; have fB := hbx2.frozen 11)
  have hgS := setCell_grown w3 ⟨R, 11, none⟩ (.slice B1 (ds.length + 1) q1)
  have hbx4 : Blk (w3.setCell ⟨R, 11, none⟩ (.slice B1 (ds.length + 1) q1)) R 57 #[.slice none 0 0, .slice none 0 0, .slice none 0 0, .slice none 0 0, .slice none 0 0, .slice none 0 0, .slice none 0 0, .slice none 0 0, .slice none 0 0, .slice none 0 0, vm, .slice B1 (ds.length + 1) q1, .slice none 0 0, .slice none 0 0, .slice none 0 0, .slice none 0 0, .slice none 0 0, .slice none 0 0, .slice none 0 0, .slice none 0 0, vl, .slice none 0 0, .slice none 0 0, .slice none 0 0] := by
    have := hbx2.set_ 11 (.slice B1 (ds.length + 1) q1)
    simpa using this
  have hfx : Fx (fun b => b = R ∨ (Value.slice Av ds.length cv).ownBlock = some b) w (w3.setCell ⟨R, 11, none⟩ (.slice B1 (ds.length + 1) q1)) :=
    ((Fx.new hba).trans ((Fx.of_grown hg1).mono (fun b _ e => .inr e))).trans ((Fx.set w3 R 11 _).mono (fun b _ e => .inl e))
  go_end0
  exact ⟨rfl, ⟨_, hbx4, ((((own_below h.om hba).kept hg1 (own_own (own_below h.om hba) (own_below h.od hba) (by decide))).kept hgS (.inr (own_blk ((own_below h.om hba).kept hg1 (own_own (own_below h.om hba) (own_below h.od hba) (by decide))) hbx2 (by decide))))), (by rw [List.length_append]; exact (ho1.kept hgS (.inr (own_blk ho1 hbx2 (by decide))))), ((((own_below h.ol hba).kept hg1 (own_own (own_below h.ol hba) (own_below h.od hba) (by decide))).kept hgS (.inr (own_blk ((own_below h.ol hba).kept hg1 (own_own (own_below h.ol hba) (own_below h.od hba) (by decide))) hbx2 (by decide))))), hR⟩, hb1.setCell (p := ⟨R, 11, none⟩) hR _, hfx⟩
set_option maxRecDepth 100000 in
set_option maxHeartbeats 1000000 in
theorem bookLine_any (w : World) {base R : Nat} {ms ds ls : List Value} {vm vd vl : Value} (h : Bk w base R ms ds ls vm vd vl) (l : Int) (t : ByteArray) (mA dA : Option Addr) (mn mc dn dc : Nat) (hm : ms.length ≤ 999999) (hd : ds.length ≤ 999999) (hbase : base ≤ w.heap.size) :
    Calls Tryz.prog 47 #[.pointer (some ⟨R, 0, none⟩), .agg #[.int .i64 l, .string t, .slice mA mn mc, .slice dA dn dc]] w fun r w' => r = .returned (.tuple #[]) ∧ (∃ vm' vd', Bk w' base R (ms ++ [.slice mA mn mc]) (ds ++ [.slice dA dn dc]) ls vm' vd' vl) ∧ Below base w w' := by
  have hbb := (Below.refl w.heap.size w).alloc (Nat.le_refl _) (.cells #[.int .i64 l, .string t, .slice mA mn mc, .slice dA dn dc] 64)
  have hBx := Blk.new w 64 #[.int .i64 l, .string t, .slice mA mn mc, .slice dA dn dc]
  have h0 := h.new hbb
  have hRl := h.box.lt
  have hol := fun b (e : vm.ownBlock = some b) => (h.om.lt b e).2
  obtain ⟨w0, hw0⟩ : ∃ w0, w.alloc (.cells #[.int .i64 l, .string t, .slice mA mn mc, .slice dA dn dc] 64) = w0 := ⟨_, rfl⟩
  rw [hw0] at hbb hBx h0
  have hz0 : w0.heap.size = w.heap.size + 1 := by rw [← hw0]; simp
  have HW0 := Lib.hid hw0
  have HBX := Lib.hid hBx
  have H0 := Lib.hid h0
  have HBB := Lib.hid (hbb.mono hbase)
  have HOL := Lib.hid hol
  have k2 : w0.cell? ⟨w.heap.size, 2, none⟩ = some (.slice mA mn mc) := hBx.cell 2
  clear hw0 hBx h0 h hbb hol
  go_enter Tryz.func47, Tryz.ntmps47
  go_upto_region 1 with fail
  rw [HW0.out]
  go_wp2_with fail
  refine (bookMarks_any w0 H0.out mA mn mc (by omega) (by omega)).mono ?_
  rintro r w1 ⟨rfl, ⟨vm', h1⟩, b1, f1⟩
  have hBx1 := f1.blk HBX.out (fun e => by
    rcases e with e | e
    · omega
    · have := HOL.out _ e; omega)
  have k3 : w1.cell? ⟨w.heap.size, 3, none⟩ = some (.slice dA dn dc) := hBx1.cell 3
  have hsz1 := b1.size
  have H1 := Lib.hid h1
  have HB1 := Lib.hid (HBB.out.trans b1)
  clear k2 h1 b1 f1 hBx1
  go_wp2_with fail
  refine (bookDocs_any w1 H1.out dA dn dc (by omega) (by omega)).mono ?_
  rintro r w2 ⟨rfl, ⟨vd', h2⟩, b2, f2⟩
  have HB2 := Lib.hid (HB1.out.trans b2)
  clear b2 f2
  go_wp2_with fail
  go_end0
  exact ⟨rfl, ⟨vm', vd', h2⟩, HB2.out⟩
/-- every fourth cell. -/
def pk (r n : Nat) (cs : List Value) : List Value := (List.range n).map fun i => cs.getD (i * 4 + r) undef
theorem pk_succ (r n : Nat) (cs : List Value) : pk r (n + 1) cs = pk r n cs ++ [cs.getD (n * 4 + r) undef] := by simp [pk, List.range_succ]
theorem pk_len (r n : Nat) (cs : List Value) : (pk r n cs).length = n := by simp [pk]
def LnCs (n : Nat) (cs : List Value) : Prop := ∀ i, i < n → ∃ l t mA mn mc dA dn dc, cs[i * 4]? = some (.int .i64 l) ∧ cs[i * 4 + 1]? = some (.string t) ∧ cs[i * 4 + 2]? = some (.slice mA mn mc) ∧ cs[i * 4 + 3]? = some (.slice dA dn dc)
set_option maxRecDepth 100000 in
set_option maxHeartbeats 2000000 in
theorem bookLines_any (w : World) {base R : Nat} {ms ds ls : List Value} {vm vd vl : Value} (h : Bk w base R ms ds ls vm vd vl) (A : Option Addr) (n c : Nat) (cs : List Value) (hr : RdRow w (.slice A n c) n cs) (hf : LnCs n cs) (hlt : ∀ g, (Value.slice A n c).ownBlock = some g → g < base) (hn : n ≤ 100000) (hms : ms.length ≤ 800000) (hds : ds.length ≤ 800000) (hls : ls.length ≤ 800000) (hbase : base ≤ w.heap.size) :
    Calls Tryz.prog 13 #[.pointer (some ⟨R, 0, none⟩), .slice A n c] w fun r w' => r = .returned (.tuple #[]) ∧ (∃ vm' vd' vl', Bk w' base R (ms ++ pk 2 n cs) (ds ++ pk 3 n cs) (ls ++ [.slice A n c]) vm' vd' vl') ∧ Below base w w' := by
  obtain ⟨Av, cv, rfl⟩ := ownk_form h.ol
  have hown := h.ol
  have hbox := h.box
  have k0 : w.cell? ⟨R, 20, none⟩ = some (.slice Av ls.length cv) := hbox.cell 20
  have hRl := hbox.lt
  have hR := h.hR
  have hneR := own_blk hown hbox (by decide)
  have hbb := Below.refl base w
  have hba := (Below.refl w.heap.size w).alloc (Nat.le_refl _) (.cells #[.slice A n c] 22)
  have HR := Lib.hid hr
  have HF := Lib.hid hf
  have HLT := Lib.hid hlt
  clear hr hf hlt
  go_enter Tryz.func13, Tryz.ntmps13
  go_upto_region 1 with (at_builtin; refine wpList_appk rfl _ _ _ rfl slicesXn _ _ _ _ rfl (by exact hown.alloc _) _ _ _ _ rfl rfl (by exact news_at _ _ (by simp) _ _) oneSl (by omega) (by omega) (by exact hbb.alloc hbase _) (by simp; omega) ?_; intro v1 w3 ho1 hb1 hg1 hat1; obtain ⟨B1, q1, rfl⟩ := ownk_form ho1; have hbx1 := hg1.block R (by simp; omega) (fun e => hneR e.symm); have hbx2 : Blk w3 R 57 #[.slice none 0 0, .slice none 0 0, .slice none 0 0, .slice none 0 0, .slice none 0 0, .slice none 0 0, .slice none 0 0, .slice none 0 0, .slice none 0 0, .slice none 0 0, vm, vd, .slice none 0 0, .slice none 0 0, .slice none 0 0, .slice none 0 0, .slice none 0 0, .slice none 0 0, .slice none 0 0, .slice none 0 0, .slice Av ls.length cv, .slice none 0 0, .slice none 0 0, .slice none 0 0] := hbx1.trans (Blk.alloc hbox _); have kB : w3.cell? ⟨R, 20, none⟩ = some (.slice Av ls.length cv) := hbx2.cell 20; have fB := hbx2.frozen 20)
  have hgS := setCell_grown w3 ⟨R, 20, none⟩ (.slice B1 (ls.length + 1) q1)
  have hbx4 : Blk (w3.setCell ⟨R, 20, none⟩ (.slice B1 (ls.length + 1) q1)) R 57 #[.slice none 0 0, .slice none 0 0, .slice none 0 0, .slice none 0 0, .slice none 0 0, .slice none 0 0, .slice none 0 0, .slice none 0 0, .slice none 0 0, .slice none 0 0, vm, vd, .slice none 0 0, .slice none 0 0, .slice none 0 0, .slice none 0 0, .slice none 0 0, .slice none 0 0, .slice none 0 0, .slice none 0 0, .slice B1 (ls.length + 1) q1, .slice none 0 0, .slice none 0 0, .slice none 0 0] := by
    have := hbx2.set_ 20 (.slice B1 (ls.length + 1) q1)
    simpa using this
  have hBk : Bk (w3.setCell ⟨R, 20, none⟩ (.slice B1 (ls.length + 1) q1)) base R ms ds (ls ++ [.slice A n c]) vm vd (.slice B1 (ls.length + 1) q1) := ⟨hbx4, ((((own_below h.om hba).kept hg1 (own_own (own_below h.om hba) (own_below h.ol hba) (by decide))).kept hgS (.inr (own_blk ((own_below h.om hba).kept hg1 (own_own (own_below h.om hba) (own_below h.ol hba) (by decide))) hbx2 (by decide))))), ((((own_below h.od hba).kept hg1 (own_own (own_below h.od hba) (own_below h.ol hba) (by decide))).kept hgS (.inr (own_blk ((own_below h.od hba).kept hg1 (own_own (own_below h.od hba) (own_below h.ol hba) (by decide))) hbx2 (by decide))))), (by rw [List.length_append]; exact (ho1.kept hgS (.inr (own_blk ho1 hbx2 (by decide))))), hR⟩
  have hB4 := hb1.setCell (p := ⟨R, 20, none⟩) hR (.slice B1 (ls.length + 1) q1)
  obtain ⟨w4, hw4⟩ : ∃ w4, w3.setCell ⟨R, 20, none⟩ (.slice B1 (ls.length + 1) q1) = w4 := ⟨_, rfl⟩
  rw [hw4] at hBk hB4
  try rw [hw4]
  have HBk : Hid (Bk w4 base R (ms ++ pk 2 0 cs) (ds ++ pk 3 0 cs) (ls ++ [.slice A n c]) vm vd (.slice B1 (ls.length + 1) q1)) := Lib.hid (by simpa [pk] using hBk)
  have HB4 := Lib.hid hB4
  clear hBk hB4 hw4 hbx4 hgS hbx2 hbx1 kB fB ho1 hb1 hg1 hat1 hba hbb k0 hneR hown hbox h
  go_wp2_with fail
  go_loopw [4] (fun t4 wr => ∃ (i : Nat) (vm' vd' : Value), i ≤ n ∧ t4 = .int .i64 (i : Int) ∧ Hid (Bk wr base R (ms ++ pk 2 i cs) (ds ++ pk 3 i cs) (ls ++ [.slice A n c]) vm' vd' (.slice B1 (ls.length + 1) q1)) ∧ Hid (Below base w wr)) (fun t4 _ => n - (intOf t4).toNat)
  case atStart => exact ⟨0, vm, vd, by omega, rfl, HBk, HB4⟩
  case round =>
    clear HBk HB4
    rename World => wr
    obtain ⟨i, vm', vd', hi, rfl, HK, HB⟩ := hrel
    have j0 : (0 : Int) ≤ (i : Int) := by omega
    rcases Nat.lt_or_ge i n with hin | hin
    · have i0 : decide ((i : Int) < (n : Int)) = true := by rw [decide_eq_true_eq]; omega
      have i1 : (i : Int) < (n : Int) := by omega
      obtain ⟨l, t, mA, mn, mc, dA, dn, dc, q0, q1', q2, q3⟩ := HF.out i hin
      obtain ⟨A', c', hve, hc⟩ := HR.out.fx (Fx.of_below HB.out) (fun g hg => by have := HLT.out g hg; omega)
      injection hve with e1 _ e3
      subst e1
      obtain ⟨b, o, rfl, d0⟩ := hc _ _ q0
      obtain ⟨b1, o1, e1, d1⟩ := hc _ _ q1'
      injection e1 with e1; injection e1 with x1 y1; subst x1 y1
      obtain ⟨b1, o1, e1, d2⟩ := hc _ _ q2
      injection e1 with e1; injection e1 with x1 y1; subst x1 y1
      obtain ⟨b1, o1, e1, d3⟩ := hc _ _ q3
      injection e1 with e1; injection e1 with x1 y1; subst x1 y1
      have p2 : pk 2 (i + 1) cs = pk 2 i cs ++ [.slice mA mn mc] := by rw [pk_succ, List.getD, q2]; rfl
      have p3 : pk 3 (i + 1) cs = pk 3 i cs ++ [.slice dA dn dc] := by rw [pk_succ, List.getD, q3]; rfl
      have HP2 := Lib.hid p2
      have HP3 := Lib.hid p3
      rw [← Nat.add_assoc] at d1 d2 d3
      have hszr := HB.out.size
      have l2 := pk_len 2 i cs
      have l3 := pk_len 3 i cs
      have b2 : (ms ++ pk 2 i cs).length ≤ 999999 := by rw [List.length_append, l2]; omega
      have b3 : (ds ++ pk 3 i cs).length ≤ 999999 := by rw [List.length_append, l3]; omega
      clear hc q0 q1' q2 q3 p2 p3 e3 l2 l3
      go_wp2_with fail
      refine (bookLine_any wr HK.out l t mA dA mn mc dn dc b2 b3 (by omega)).mono ?_
      rintro r w5 ⟨rfl, ⟨vm2, vd2, h5⟩, b5⟩
      have HK5 : Hid (Bk w5 base R (ms ++ pk 2 (i + 1) cs) (ds ++ pk 3 (i + 1) cs) (ls ++ [.slice (some ⟨b, o, none⟩) n c]) vm2 vd2 (.slice B1 (ls.length + 1) q1)) := Lib.hid (by rw [HP2.out, HP3.out, ← List.append_assoc, ← List.append_assoc]; exact h5)
      have HB5 := Lib.hid (HB.out.trans b5)
      clear h5 b5 d0 d1 d2 d3
      go_wp2_with fail
      go_roundw
      case rel => exact ⟨i + 1, vm2, vd2, by omega, by go_num, HK5, HB5⟩
      case measure => simp [intOf]; omega
    · have i0 : decide ((i : Int) < (n : Int)) = false := by rw [decide_eq_false_iff_not]; omega
      obtain rfl : i = n := by omega
      go_wp2_with fail
      go_end0
      exact ⟨rfl, ⟨vm', vd', _, HK.out⟩, HB.out⟩
end Go.Proofs.YtpgnfianffjpnaaGreatDoor
namespace Go.Proofs.YtpgnfianffjpnaaGreatDoor
open Go Go.RowKit
/-- lists that have rows of their own, each its colour. -/
def Rw (w : World) (b0 : Nat) (e : TypeId) (K : Nat) (vs : List Value) (N : Nat → Nat) (X : Nat → List Value) (col : Nat → Nat) : Prop := ∀ j, j < vs.length → w.ownsRow b0 e K (vs.getD j undef) (N j) (X j) ∧ ∀ b, (vs.getD j undef).ownBlock = some b → col b = j
def Sv (vs : List Value) (b : Nat) : Prop := ∃ j, j < vs.length ∧ (vs.getD j undef).ownBlock = some b
section
variable {w w' : World} {b0 base R K : Nat} {e : TypeId} {vs : List Value} {N : Nat → Nat} {X : Nat → List Value} {col : Nat → Nat}
theorem Rw.new (h : Rw w b0 e K vs N X col) (k : Below w.heap.size w w') : Rw w' b0 e K vs N X col := fun j hj => ⟨own_below (h j hj).1 k, (h j hj).2⟩
/-- rows of another kind. -/
theorem Rw.fx {e' : TypeId} {K' : Nat} {vs' : List Value} {N' : Nat → Nat} {X' : Nat → List Value} {col' : Nat → Nat} (h : Rw w b0 e K vs N X col) (h' : Rw w b0 e' K' vs' N' X' col') (k : Fx (Sv vs') w w') (hne : e ≠ e') : Rw w' b0 e K vs N X col := fun j hj => by
  refine ⟨k.own (h j hj).1 fun g hg hs => ?_, (h j hj).2⟩
  obtain ⟨i, hi, he⟩ := hs
  rcases own_own (h j hj).1 (h' i hi).1 hne with h1 | h1
  · rw [h1] at hg; cases hg
  · exact h1 (hg.trans he.symm)
theorem Bk.fx {ms ds ls : List Value} {vm vd vl : Value} (h : Bk w base R ms ds ls vm vd vl) (h' : Rw w b0 e K vs N X col) (k : Fx (Sv vs) w w') (h1 : e ≠ 57) (h2 : e ≠ 61) (h3 : e ≠ 62) (h4 : e ≠ 22) : Bk w' base R ms ds ls vm vd vl := by
  have kr : ∀ {t : TypeId} {n : Nat} {v : Value} {xs : List Value}, w.ownsRow base t 1 v n xs → e ≠ t → w'.ownsRow base t 1 v n xs := fun {t n v xs} ho hne => k.own ho fun g hg hs => by
    obtain ⟨i, hi, he⟩ := hs
    rcases own_own ho (h' i hi).1 (fun q => hne q.symm) with q | q
    · rw [q] at hg; cases hg
    · exact q (hg.trans he.symm)
  refine ⟨k.blk h.box fun hs => ?_, kr h.om h2, kr h.od h3, kr h.ol h4, h.hR⟩
  obtain ⟨i, hi, he⟩ := hs
  exact own_blk (h' i hi).1 h.box h1 he
theorem fr_fx {m : Nat} {V : Nat → Value} (h : Ak.Fr m V w w') (hV : ∀ j, j < m → V j = vs.getD j undef) (hm : m = vs.length) : Fx (Sv vs) w w' :=
  ⟨h.os, h.tape, h.output, h.size, fun b hb hn => h.block b hb fun j hj e => hn ⟨j, by omega, by rw [← hV j hj]; exact e⟩⟩
end
theorem apMarks_any (w : World) {base b0 : Nat} {v : Value} {vs : List Value} {N : Nat → Nat} {X : Nat → List Value} {col : Nat → Nat} (ho : w.ownsRow base 61 1 v vs.length vs) (hr : Rw w b0 136 3 vs N X col) (hm : vs.length ≤ 100000) (hN : ∀ j, j < vs.length → N j ≤ 1000000) (hb : b0 ≤ w.heap.size) :
    Calls Tryz.prog 58 #[v] w fun e w' => e = .returned (.bool true) ∧ Fx (Sv vs) w w' := by
  rcases ho.2 with ⟨rfl, h0⟩ | ⟨g, cap, cur, rfl, _, hg, hn, _, hs, htk⟩
  · refine (nil_ApartMarks w).mono ?_
    rintro e w' ⟨he, rfl⟩
    exact ⟨he, Fx.refl⟩
  · refine (apartMn_any b0 vs.length cap g 0 cur (fun j => vs.getD j undef) N X col w hr hg (fun j hj => ?_) hm hn hN hb).mono ?_
    · rw [Nat.zero_add]
      have e1 : cur.toList[j]? = vs[j]? := by
        rw [← htk, List.getElem?_take, if_pos (by omega)]
      rw [Array.getElem?_toList] at e1
      rw [e1, List.getElem?_eq_getElem hj]
      simp [List.getD, List.getElem?_eq_getElem hj]
    · rintro e w' ⟨he, hf⟩
      exact ⟨he, fr_fx hf (fun j hj => rfl) rfl⟩
theorem apDocs_any (w : World) {base b0 : Nat} {v : Value} {vs : List Value} {N : Nat → Nat} {X : Nat → List Value} {col : Nat → Nat} (ho : w.ownsRow base 62 1 v vs.length vs) (hr : Rw w b0 83 4 vs N X col) (hm : vs.length ≤ 100000) (hN : ∀ j, j < vs.length → N j ≤ 1000000) (hb : b0 ≤ w.heap.size) :
    Calls Tryz.prog 59 #[v] w fun e w' => e = .returned (.bool true) ∧ Fx (Sv vs) w w' := by
  rcases ho.2 with ⟨rfl, h0⟩ | ⟨g, cap, cur, rfl, _, hg, hn, _, hs, htk⟩
  · refine (nil_ApartDocs w).mono ?_
    rintro e w' ⟨he, rfl⟩
    exact ⟨he, Fx.refl⟩
  · refine (apartDn_any b0 vs.length cap g 0 cur (fun j => vs.getD j undef) N X col w hr hg (fun j hj => ?_) hm hn hN hb).mono ?_
    · rw [Nat.zero_add]
      have e1 : cur.toList[j]? = vs[j]? := by
        rw [← htk, List.getElem?_take, if_pos (by omega)]
      rw [Array.getElem?_toList] at e1
      rw [e1, List.getElem?_eq_getElem hj]
      simp [List.getD, List.getElem?_eq_getElem hj]
    · rintro e w' ⟨he, hf⟩
      exact ⟨he, fr_fx hf (fun j hj => rfl) rfl⟩
theorem apLines_any (w : World) {base b0 : Nat} {v : Value} {vs : List Value} {N : Nat → Nat} {X : Nat → List Value} {col : Nat → Nat} (ho : w.ownsRow base 22 1 v vs.length vs) (hr : Rw w b0 64 4 vs N X col) (hpos : 0 < vs.length) (hm : vs.length ≤ 100000) (hN : ∀ j, j < vs.length → N j ≤ 1000000) (hb : b0 ≤ w.heap.size) :
    Calls Tryz.prog 68 #[v] w fun e w' => e = .returned (.bool true) ∧ Fx (Sv vs) w w' := by
  rcases ho.2 with ⟨rfl, h0⟩ | ⟨g, cap, cur, rfl, _, hg, hn, _, hs, htk⟩
  · exfalso
    omega
  · refine (apartXn_any b0 vs.length cap g 0 cur (fun j => vs.getD j undef) N X col w hr hg (fun j hj => ?_) hm hn hN hb).mono ?_
    · rw [Nat.zero_add]
      have e1 : cur.toList[j]? = vs[j]? := by
        rw [← htk, List.getElem?_take, if_pos (by omega)]
      rw [Array.getElem?_toList] at e1
      rw [e1, List.getElem?_eq_getElem hj]
      simp [List.getD, List.getElem?_eq_getElem hj]
    · rintro e w' ⟨he, hf⟩
      exact ⟨he, fr_fx hf (fun j hj => rfl) rfl⟩
set_option maxRecDepth 100000 in
set_option maxHeartbeats 4000000 in
theorem bookApart_any (w : World) {base b0 R : Nat} {ms ds ls : List Value} {vm vd vl : Value} (h : Bk w base R ms ds ls vm vd vl) {NM ND NL : Nat → Nat} {XM XD XL : Nat → List Value} {cM cD cL : Nat → Nat}
    (hM : Rw w b0 136 3 ms NM XM cM) (hD : Rw w b0 83 4 ds ND XD cD) (hL : Rw w b0 64 4 ls NL XL cL) (hb : b0 ≤ w.heap.size) (hpos : 0 < ls.length) (lm : ms.length ≤ 100000) (ld : ds.length ≤ 100000) (ll : ls.length ≤ 100000)
    (nM : ∀ j, j < ms.length → NM j ≤ 1000000) (nD : ∀ j, j < ds.length → ND j ≤ 1000000) (nL : ∀ j, j < ls.length → NL j ≤ 1000000) :
    Calls Tryz.prog 14 #[.pointer (some ⟨R, 0, none⟩)] w fun r w' => r = .returned (.bool true) ∧ Below b0 w w' := by
  obtain ⟨mA, mc, rfl⟩ := ownk_form h.om
  obtain ⟨dA, dc, rfl⟩ := ownk_form h.od
  obtain ⟨lA, lc, rfl⟩ := ownk_form h.ol
  have HH := Lib.hid h
  have HM := Lib.hid hM
  have HD := Lib.hid hD
  have HL := Lib.hid hL
  have hbx := h.box
  have NMH := Lib.hid nM
  have NDH := Lib.hid nD
  have NLH := Lib.hid nL
  have k0 : w.cell? ⟨R, 0, none⟩ = some (.slice none 0 0) := hbx.cell 0
  have k1 : w.cell? ⟨R, 1, none⟩ = some (.slice none 0 0) := hbx.cell 1
  have k2 : w.cell? ⟨R, 2, none⟩ = some (.slice none 0 0) := hbx.cell 2
  have k3 : w.cell? ⟨R, 3, none⟩ = some (.slice none 0 0) := hbx.cell 3
  have k4 : w.cell? ⟨R, 4, none⟩ = some (.slice none 0 0) := hbx.cell 4
  have k5 : w.cell? ⟨R, 5, none⟩ = some (.slice none 0 0) := hbx.cell 5
  have k6 : w.cell? ⟨R, 6, none⟩ = some (.slice none 0 0) := hbx.cell 6
  have k7 : w.cell? ⟨R, 7, none⟩ = some (.slice none 0 0) := hbx.cell 7
  have k8 : w.cell? ⟨R, 8, none⟩ = some (.slice none 0 0) := hbx.cell 8
  clear h hM hD hL hbx nM nD nL
  go_enter Tryz.func14, Tryz.ntmps14
  go_wp2_with fail
  refine (nil_ApartBytes _).mono ?_
  rintro r w9 ⟨rfl, rfl⟩
  go_wp2_with fail
  refine (nil_ApartTexts _).mono ?_
  rintro r w9 ⟨rfl, rfl⟩
  go_wp2_with fail
  refine (nil_ApartInts _).mono ?_
  rintro r w9 ⟨rfl, rfl⟩
  go_wp2_with fail
  refine (nil_ApartEntries _).mono ?_
  rintro r w9 ⟨rfl, rfl⟩
  go_wp2_with fail
  refine (nil_ApartChanges _).mono ?_
  rintro r w9 ⟨rfl, rfl⟩
  go_wp2_with fail
  refine (nil_ApartMembers _).mono ?_
  rintro r w9 ⟨rfl, rfl⟩
  go_wp2_with fail
  refine (nil_ApartPairs _).mono ?_
  rintro r w9 ⟨rfl, rfl⟩
  go_wp2_with fail
  refine (nil_ApartDigests _).mono ?_
  rintro r w9 ⟨rfl, rfl⟩
  go_wp2_with fail
  refine (nil_ApartPasts _).mono ?_
  rintro r w9 ⟨rfl, rfl⟩
  go_upto_region 2 with fail
  clear k0 k1 k2 k3 k4 k5 k6 k7 k8
  have hbx := HH.out.box
  have k9 : w.cell? ⟨R, 9, none⟩ = some (.slice none 0 0) := hbx.cell 9
  have k10 : w.cell? ⟨R, 10, none⟩ = some (.slice mA ms.length mc) := hbx.cell 10
  clear hbx
  go_wp2_with fail
  refine (nil_ApartWords _).mono ?_
  rintro r w9 ⟨rfl, rfl⟩
  go_wp2_with fail
  refine (apMarks_any w HH.out.om HM.out lm NMH.out hb).mono ?_
  rintro r w1 ⟨rfl, f1⟩
  have HH1 := Lib.hid (HH.out.fx HM.out f1 (by decide) (by decide) (by decide) (by decide))
  have HD1 := Lib.hid (HD.out.fx HM.out f1 (by decide))
  have HL1 := Lib.hid (HL.out.fx HM.out f1 (by decide))
  have hb1 : b0 ≤ w1.heap.size := Nat.le_trans hb f1.size
  have HB1 : Hid (Below b0 w w1) := Lib.hid (f1.to_below hb fun b hs => by
    obtain ⟨j, hj, he⟩ := hs
    exact ((HM.out j hj).1.lt b he).1)
  have hbx := HH1.out.box
  have k11 : w1.cell? ⟨R, 11, none⟩ = some (.slice dA ds.length dc) := hbx.cell 11
  clear hbx f1 k9 k10
  go_wp2_with fail
  refine (apDocs_any w1 HH1.out.od HD1.out ld NDH.out hb1).mono ?_
  rintro r w2 ⟨rfl, f2⟩
  have HH2 := Lib.hid (HH1.out.fx HD1.out f2 (by decide) (by decide) (by decide) (by decide))
  have HL2 := Lib.hid (HL1.out.fx HD1.out f2 (by decide))
  have hb2 : b0 ≤ w2.heap.size := Nat.le_trans hb1 f2.size
  have HB2 : Hid (Below b0 w w2) := Lib.hid (HB1.out.trans (f2.to_below hb1 fun b hs => by
    obtain ⟨j, hj, he⟩ := hs
    exact ((HD1.out j hj).1.lt b he).1))
  have hbx := HH2.out.box
  have k12 : w2.cell? ⟨R, 12, none⟩ = some (.slice none 0 0) := hbx.cell 12
  have k13 : w2.cell? ⟨R, 13, none⟩ = some (.slice none 0 0) := hbx.cell 13
  have k14 : w2.cell? ⟨R, 14, none⟩ = some (.slice none 0 0) := hbx.cell 14
  have k15 : w2.cell? ⟨R, 15, none⟩ = some (.slice none 0 0) := hbx.cell 15
  have k16 : w2.cell? ⟨R, 16, none⟩ = some (.slice none 0 0) := hbx.cell 16
  clear hbx f2 k11
  go_wp2_with fail
  refine (nil_ApartRefs _).mono ?_
  rintro r w9 ⟨rfl, rfl⟩
  go_wp2_with fail
  refine (nil_ApartPieces _).mono ?_
  rintro r w9 ⟨rfl, rfl⟩
  go_wp2_with fail
  refine (nil_ApartKeeps _).mono ?_
  rintro r w9 ⟨rfl, rfl⟩
  go_wp2_with fail
  refine (nil_ApartDids _).mono ?_
  rintro r w9 ⟨rfl, rfl⟩
  go_wp2_with fail
  refine (nil_ApartLosts _).mono ?_
  rintro r w9 ⟨rfl, rfl⟩
  go_upto_region 3 with fail
  clear k12 k13 k14 k15 k16
  have hbx := HH2.out.box
  have k17 : w2.cell? ⟨R, 17, none⟩ = some (.slice none 0 0) := hbx.cell 17
  have k18 : w2.cell? ⟨R, 18, none⟩ = some (.slice none 0 0) := hbx.cell 18
  have k19 : w2.cell? ⟨R, 19, none⟩ = some (.slice none 0 0) := hbx.cell 19
  have k20 : w2.cell? ⟨R, 20, none⟩ = some (.slice lA ls.length lc) := hbx.cell 20
  clear hbx
  go_wp2_with fail
  refine (nil_apartSteps _).mono ?_
  rintro r w9 ⟨rfl, rfl⟩
  go_wp2_with fail
  refine (nil_apartStages _).mono ?_
  rintro r w9 ⟨rfl, rfl⟩
  go_wp2_with fail
  refine (nil_apartItems _).mono ?_
  rintro r w9 ⟨rfl, rfl⟩
  go_wp2_with fail
  refine (apLines_any w2 HH2.out.ol HL2.out hpos ll NLH.out hb2).mono ?_
  rintro r w3 ⟨rfl, f3⟩
  have HH3 := Lib.hid (HH2.out.fx HL2.out f3 (by decide) (by decide) (by decide) (by decide))
  have HB3 : Hid (Below b0 w w3) := Lib.hid (HB2.out.trans (f3.to_below hb2 fun b hs => by
    obtain ⟨j, hj, he⟩ := hs
    exact ((HL2.out j hj).1.lt b he).1))
  have hbx := HH3.out.box
  have k21 : w3.cell? ⟨R, 21, none⟩ = some (.slice none 0 0) := hbx.cell 21
  have k22 : w3.cell? ⟨R, 22, none⟩ = some (.slice none 0 0) := hbx.cell 22
  have k23 : w3.cell? ⟨R, 23, none⟩ = some (.slice none 0 0) := hbx.cell 23
  clear hbx f3 k17 k18 k19 k20
  go_wp2_with fail
  refine (nil_apartNodes _).mono ?_
  rintro r w9 ⟨rfl, rfl⟩
  go_wp2_with fail
  refine (nil_apartLevels _).mono ?_
  rintro r w9 ⟨rfl, rfl⟩
  go_wp2_with fail
  refine (nil_apartJsons _).mono ?_
  rintro r w9 ⟨rfl, rfl⟩
  go_wp2_with fail
  go_ret
  exact ⟨rfl, HB3.out⟩
end Go.Proofs.YtpgnfianffjpnaaGreatDoor
