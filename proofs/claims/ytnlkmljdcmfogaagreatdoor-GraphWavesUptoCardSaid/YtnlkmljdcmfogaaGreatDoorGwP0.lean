/- stratakit.ApartInts, walked (printed by wip/genapi.py): of lists that have rows of their own it says yes; what is not theirs stays. stratalaw19.sameWaves: walked. -/
import Derived.Test.YtnlkmljdcmfogaaGreatDoorApartK
import Derived.Test.YtnlkmljdcmfogaaGreatDoorCkLt0
import Derived.Test.YtnlkmljdcmfogaaGreatDoorGwF0
import Derived.Deep.RegionHeld3
import Derived.Deep.RegionLaw
import Derived.Deep.RegionWith
import Derived.Test.YtnlkmljdcmfogaaGreatDoorGwE0
import Derived.Test.YtnlkmljdcmfogaaGreatDoorGwW
import Derived.Test.YtnlkmljdcmfogaaGreatDoorGwH0
namespace Go.Proofs.YtnlkmljdcmfogaaGreatDoor
open Go Go.RowKit
def mkIn (j i : Nat) : List Value := [.int .i64 (mkI (j : Int) (i : Int))]
theorem mkIn_len : ∀ j i, (mkIn j i).length = 1 := fun _ _ => rfl
theorem markIb_any (k i : Int) (hk : 0 ≤ k) (hk2 : k ≤ 1000000) (hi : -1000000000 ≤ i) (hi2 : i ≤ 1000000000) (w : World) {m : Int} (H : Hid (mkI k i = m)) : Calls Tryz.prog 94 #[.int .i64 k, .int .i64 i] w fun e w' => e = .returned (.int .i64 m) ∧ Below w.heap.size w w' :=
  (markInts_any k i hk hk2 hi hi2 w H).mono fun _ _ h => ⟨h.1, by rw [h.2]; exact Below.refl _ _⟩
theorem setCell_grownI (w : World) (a : Addr) (v : Value) : w.grownBy (w.setCell a v) (some a.block) := ⟨rfl, rfl, rfl, by rw [setCell_size]; exact Nat.le_refl _, fun k _ hk => RowKit.Below.heap_setCell _ _ _ _ (fun e => hk (by rw [e]))⟩
theorem setCells_grown : ∀ (l : List Value) (o : Nat) (w : World) (b : Nat), w.grownBy (w.setCells b o l) (some b)
  | [], _, w, _ => Ak.refl_grown w _
  | v :: r, o, w, b => Ak.trans_grown (setCell_grownI w ⟨b, o, none⟩ v) (setCells_grown r (o + 1) _ b)
theorem there_below1 {w w' : World} {b o n : Nat} (h : w.there b o n) (hlt : b < w.heap.size) (hb : Below w.heap.size w w') : w'.there b o n := fun j hj =>
  ⟨by rw [hb.cell (p := ⟨b, o + j, none⟩) hlt]; exact (h j hj).1, by rw [hb.frozen (p := ⟨b, o + j, none⟩) hlt]; exact (h j hj).2⟩
theorem cells1 {w : World} {b o : Nat} (h : w.there b o 1) : ∃ u0, w.cell? ⟨b, o, none⟩ = some u0 ∧ w.frozen? ⟨b, o, none⟩ = false := by
  obtain ⟨u0, e0⟩ := Option.isSome_iff_exists.1 (h 0 (by omega)).1
  exact ⟨u0, e0, (h 0 (by omega)).2⟩
set_option maxRecDepth 100000 in
set_option maxHeartbeats 16000000 in
theorem apartI_any (base m c bls off : Nat) (cls : Array Value) (V : Nat → Value) (N : Nat → Nat) (X : Nat → List Value) (col : Nat → Nat) (w : World)
    (h0 : ∀ j, j < m → w.ownsRow base 3 1 (V j) (N j) (X j) ∧ ∀ b, (V j).ownBlock = some b → col b = j)
    (hls : w.heap[bls]? = some (.cells cls 29 (0, 0))) (hcl : ∀ j, j < m → cls[off + j]? = some (V j)) (hm : m ≤ 100000) (hmc : m ≤ c) (hN : ∀ j, j < m → N j ≤ 1000000) (hbase : base ≤ w.heap.size) :
    Calls Tryz.prog 22 #[.slice (some ⟨bls, off, none⟩) m c] w fun e w' => e = .returned (.bool true) ∧ Ak.Fr m V w w' := by
  have hbl : bls < w.heap.size := (Array.getElem?_eq_some_iff.1 hls).1
  have HX : Hid (∀ j, j < m → (X j).length = N j * 1) := Lib.hid fun j hj => (h0 j hj).1.1
  have HC := Lib.hid hcl
  have HN := Lib.hid hN
  have HP := Lib.hid (Ak.P1.start (mk := mkIn) h0)
  have HVB : Hid (∀ j, j < m → ∀ b, (V j).ownBlock = some b → b < w.heap.size) := Lib.hid fun j hj b hb => ((h0 j hj).1.lt b hb).2
  have HL := Lib.hid hls
  clear h0 hcl hN hls
  go_enter Tryz.func22, Tryz.ntmps22
  go_wp2_with fail
  go_loopw [3] (fun k wr => ∃ q : Nat, q ≤ m ∧ k = .int .i64 q ∧ Hid (Ak.P1 base 3 1 m V N mkIn X col q 0 wr) ∧ Hid (Ak.Fr m V w wr) ∧ Hid (wr.heap[bls]? = some (.cells cls 29 (0, 0)))) (fun k _ => m - (intOf k).toNat)
  case atStart => exact ⟨0, by omega, rfl, HP, Lib.hid Ak.Fr.refl, HL⟩
  case round =>
    obtain ⟨q, hq, rfl, hp, hbel, hl⟩ := hrel
    clear HP
    by_cases hqm : q < m
    · have hq1 : (0 : Int) ≤ (q : Int) := by omega
      have hq2 : (q : Int) < (m : Int) := by omega
      go_wp2_with fail
      go_loopw [4] (fun i w2 => ∃ p : Nat, p ≤ N q ∧ i = .int .i64 p ∧ Hid (Ak.P1 base 3 1 m V N mkIn X col q p w2) ∧ Hid (Ak.Fr m V w w2) ∧ Hid (w2.heap[bls]? = some (.cells cls 29 (0, 0)))) (fun i _ => N q - (intOf i).toNat)
      case atStart => exact ⟨0, by omega, rfl, hp, hbel, hl⟩
      case round =>
        obtain ⟨p, hpN, rfl, hP, hB, hL⟩ := hrel
        clear hp hbel hl HL
        have hsz := hB.out.size
        obtain ⟨A, cq, hV⟩ := hP.out.form hqm
        have hcell : wr.cell? ⟨bls, off + q, none⟩ = some (.slice A (N q) cq) := by rw [cell_of_row wr bls (off + q) cls _ (0, 0) hL.out, HC.out q hqm, hV]
        have hNq : N q ≤ 1000000 := HN.out q hqm
        by_cases hpq : p < N q
        · obtain ⟨b, c2, hV2, hbb, hblt, hc2, hth⟩ := hP.out.at_ hqm hpq
          obtain ⟨rfl, rfl⟩ : A = some ⟨b, 0, none⟩ ∧ cq = c2 := by
            rw [hV] at hV2
            simp only [Value.slice.injEq] at hV2
            exact ⟨hV2.1, hV2.2.2⟩
          have HV2 := Lib.hid hV2
          rw [Nat.mul_one] at hth
          have HS : Hid (∀ w1, Below wr.heap.size wr w1 → w1.there b p 1) := Lib.hid fun w1 hb1 => there_below1 hth hblt hb1
          have hbl2 : bls < wr.heap.size := (Array.getElem?_eq_some_iff.1 hL.out).1
          have hneb : bls ≠ b := by
            intro he
            have h1 := Ak.blk_ne (hP.out q hqm).1 hL.out (by decide)
            rw [hV2] at h1
            exact h1 (by rw [he]; rfl)
          obtain ⟨y, hy⟩ : ∃ y, Hid (mkI (q : Int) (p : Int) = y) := ⟨_, Lib.hid rfl⟩
          have hne0 : (⟨b, p, none⟩ : Addr) ≠ ⟨bls, off + q, none⟩ := by
            intro he
            simp only [Addr.mk.injEq] at he
            exact hneb he.1.symm
          have HNB := Lib.hid hneb
          have q6 : (q : Int) ≤ 1000000 := by omega
          clear hV hV2 hth hneb
          have hp1 : (0 : Int) ≤ (p : Int) := by omega
          have hp2 : (p : Int) < (N q : Int) := by omega
          go_wp2_with fail
          go_region_held3 (fun w' => w'.cell? ⟨bls, off + q, none⟩ = some (.slice (some ⟨b, 0, none⟩) (N q) cq)) (first | with_reducible exact hcell1 | exact (World.cell?_setCell_other _ _ _ _ hne0).trans (hcell1) | exact hcell) (first | (go_at_call 94; refine (markIb_any _ _ hq1 q6 (by omega) (by omega) _ hy).mono ?_; rintro e w1 ⟨rfl, hb0⟩; have hb1 : Below wr.heap.size wr w1 := (Below.refl _ _).drew.trans hb0; have hcell1 := (hb1.cell (p := ⟨bls, off + q, none⟩) hbl2).trans hcell; obtain ⟨a0, d0, f0⟩ := cells1 (HS.out w1 hb1)))
          have hmk : mkIn q p = [.int .i64 y] := by unfold mkIn; rw [hy.out]
          have hP7 := Lib.hid ((hP.out.below hb1).store mkIn_len hqm hpq (HX.out q hqm) HV2.out)
          have hg7 := setCells_grown (mkIn q p) (p * 1) w1 b
          have hF7 : Hid (Ak.Fr m V w (w1.setCells b (p * 1) (mkIn q p))) := Lib.hid ((hB.out.below hb1).grown hg7 (fun b' e => .inr ⟨q, hqm, by rw [HV2.out]; exact e⟩))
          have hL7 : Hid ((w1.setCells b (p * 1) (mkIn q p)).heap[bls]? = some (.cells cls 29 (0, 0))) := Lib.hid ((hg7.block bls (Nat.lt_of_lt_of_le hbl2 hb1.size) (fun e => HNB.out (Option.some.inj e))).trans ((hb1.block bls hbl2).trans hL.out))
          rw [hmk, Nat.mul_one] at hP7 hF7 hL7
          clear hg7 d0 f0 hmk
          go_wp2_with fail
          go_roundw
          case rel => exact ⟨p + 1, by omega, by go_num, hP7, hF7, hL7⟩
          case measure => simp [intOf]; omega
        · obtain rfl : p = N q := by omega
          have hd : decide ((N q : Int) < (N q : Int)) = false := by simp
          go_wp2_with fail
          go_roundw
          case rel => exact ⟨q + 1, by omega, by go_num, Lib.hid (hP.out.next HX.out), hB, hL⟩
          case measure => simp [intOf]; omega
    · obtain rfl : q = m := by omega
      have hsz := hbel.out.size
      have HP2 := Lib.hid (Ak.P2.start (B0 := w.heap.size) hp.out (Nat.le_refl _))
      clear hp HL
      go_wp2_with fail
      go_loopw [5, 6] (fun gs k wr => ∃ (x : Nat) (H : Nat → Value) (C : Nat → Nat) (col2 : Nat → Nat), x ≤ q ∧ k = .int .i64 x ∧ Hid (Ak.P2 base w.heap.size 3 1 q V N mkIn col2 H C wr) ∧ Hid (∀ j, j < x → C j = N j + 64) ∧ Hid (∀ j, x ≤ j → H j = V j ∧ C j = N j) ∧
          wr.ownsRow w.heap.size 29 1 gs x ((List.range x).map H) ∧ Hid (Ak.Fr q V w wr) ∧ Hid (wr.heap[bls]? = some (.cells cls 29 (0, 0)))) (fun _ k _ => q - (intOf k).toNat)
      case atStart => exact ⟨0, V, N, col, by omega, rfl, HP2, Lib.hid (fun j hj => by omega), Lib.hid (fun j _ => ⟨rfl, rfl⟩), World.ownsRow_nil _ _ _ _, hbel, hl⟩
      case round =>
        obtain ⟨x, H, C, col2, hx, rfl, hp, hC1, hC2, hgs, hB, hL⟩ := hrel
        clear HP2 hbel hl
        by_cases hxq : x < q
        · have hx1 : (0 : Int) ≤ (x : Int) := by omega
          have hx2 : (x : Int) < (q : Int) := by omega
          have hx3 : (x : Int) ≤ 1000000 := by omega
          obtain ⟨A, cq, hV⟩ := hp.out.form hxq
          have hcell : wr.cell? ⟨bls, off + x, none⟩ = some (.slice A (N x) cq) := by rw [cell_of_row wr bls (off + x) cls _ (0, 0) hL.out, HC.out x hxq, hV]
          have hVH : H x = .slice A (N x) cq := by rw [(hC2.out x (Nat.le_refl _)).1, hV]
          have hNx : N x ≤ 1000000 := HN.out x hxq
          go_wp2_with fail
          go_loopw [7, 8] (fun g i w2 => ∃ (p : Nat) (H : Nat → Value) (C : Nat → Nat) (col2 : Nat → Nat), p ≤ 64 ∧ i = .int .i64 p ∧ g = H x ∧ Hid (Ak.P2 base w.heap.size 3 1 q V N mkIn col2 H C w2) ∧ Hid (∀ j, j < x → C j = N j + 64) ∧ Hid (C x = N x + p) ∧ Hid (∀ j, x < j → H j = V j ∧ C j = N j) ∧
              w2.ownsRow w.heap.size 29 1 u5 x ((List.range x).map H) ∧ Hid (Ak.Fr q V w w2) ∧ Hid (w2.heap[bls]? = some (.cells cls 29 (0, 0)))) (fun _ i _ => 64 - (intOf i).toNat)
          case atStart => exact ⟨0, H, C, col2, by omega, rfl, hVH.symm, hp, hC1, Lib.hid (by rw [(hC2.out x (Nat.le_refl _)).2]; rfl), Lib.hid (fun j hj => hC2.out j (by omega)), hgs, hB, hL⟩
          case round =>
            clear hp hC1 hC2 hgs hB hL hVH hcell H C col2
            obtain ⟨p, H, C, col2, hp64, rfl, rfl, hp, hC1, hCx, hC2, hgs, hB, hL⟩ := hrel
            have hcell : wr.cell? ⟨bls, off + x, none⟩ = some (.slice A (N x) cq) := by rw [cell_of_row wr bls (off + x) cls _ (0, 0) hL.out, HC.out x hxq, hV]
            have hbl2 : bls < wr.heap.size := (Array.getElem?_eq_some_iff.1 hL.out).1
            have hszw : w.heap.size ≤ wr.heap.size := hB.out.size
            have hbsz : base ≤ wr.heap.size := Nat.le_trans hbase hszw
            have hownx := (hp.out x hxq).1
            rw [hCx.out] at hownx
            obtain ⟨Ag, cg, hHx⟩ := ownk_form hownx
            have HV := Lib.hid hV
            clear hV
            by_cases hp2 : p < 64
            · have hp3 : (p : Int) < 64 := by omega
              rw [hHx] at hownx
              rw [hHx]
              have HHx := Lib.hid hHx
              obtain ⟨y, hy⟩ : ∃ y, Hid (mkI (x : Int) ((N x : Int) + (p : Int)) = y) := ⟨_, Lib.hid rfl⟩
              clear hHx
              go_wp2_with (first | (go_at_call 94; refine (markIb_any _ _ hx1 hx3 (by omega) (by omega) _ hy).mono ?_; rintro e w1 ⟨rfl, hb1⟩; have hownW := own_below hownx hb1; have hsz1 := hb1.size) | (at_builtin; refine Ak.wpList_app_split rfl _ _ _ rfl intK _ _ _ _ rfl (hownW.alloc _) _ _ _ _ rfl rfl (news_at _ _ (by simp) _ _) (by simp [Value.oneCell']) (by omega) (by omega) (by simp; omega) (by omega) ?_; intro v1 w2 hown2 hs2))
              have hmk : mkIn x (N x + p) = [.int .i64 y] := by unfold mkIn; rw [Int.natCast_add, hy.out]
              have hbW := (Below.refl w1.heap.size w1).alloc (Nat.le_refl _) (.cells #[.int .i64 y] 3)
              have hpW := (hp.out.below hb1).below hbW
              obtain ⟨col3, hp3'⟩ := hpW.app (by simp; omega) mkIn_len hxq (by rw [hCx.out, hmk]; exact hown2) (by rw [HHx.out]; exact hs2)
              have hgr := Ak.split_grown hs2
              have hgsW := own_below (own_below hgs hb1) hbW
              have hLW : (w1.alloc (.cells #[.int .i64 y] 3)).heap[bls]? = some (.cells cls 29 (0, 0)) := (hbW.block bls (by omega)).trans ((hb1.block bls hbl2).trans hL.out)
              go_roundw
              case rel =>
                refine ⟨p + 1, _, _, col3, by omega, by go_num, ?_, Lib.hid hp3', Lib.hid ?_, Lib.hid ?_, Lib.hid ?_, ?_, Lib.hid ?_, Lib.hid ?_⟩
                · rw [if_pos rfl]
                · intro j hj
                  rw [if_neg (by omega)]
                  exact hC1.out j hj
                · rw [if_pos rfl, hCx.out]; rfl
                · intro j hj
                  rw [if_neg (by omega), if_neg (by omega)]
                  exact hC2.out j hj
                · have he : (List.range x).map (fun j => if j = x then v1 else H j) = (List.range x).map H := by
                    refine List.map_congr_left fun j hj => ?_
                    rw [if_neg (by have := List.mem_range.1 hj; omega)]
                  rw [he]
                  refine hgsW.kept hgr ?_
                  rw [← HHx.out]
                  exact Ak.own_ne hgsW (hpW x hxq).1 (by decide)
                · refine ((hB.out.below hb1).below hbW).grown hgr (fun b hb => ?_)
                  rw [← HHx.out] at hb
                  rcases (hp.out x hxq).2.2.2.2.2.2 b hb with h | h
                  · exact .inl h
                  · exact .inr ⟨x, hxq, h⟩
                · rw [hgr.block bls (by simp; omega) (by rw [← HHx.out]; exact Ak.blk_ne (hpW x hxq).1 hLW (by decide))]
                  exact hLW
              case measure => simp [intOf]; omega
            · obtain rfl : p = 64 := by omega
              have hd : decide ((64 : Int) < 64) = false := by decide
              go_wp2_with ((at_builtin; refine Ak.wpList_app_split rfl _ _ _ rfl rowsK _ _ _ _ rfl (hgs.alloc _) _ _ _ _ rfl rfl (news_alloc _ _ _) (one_of_all rfl) (by omega) (by omega) (by simp; omega) (by omega) ?_; intro v1 w2 hown2 hs2))
              have hbW := (Below.refl wr.heap.size wr).alloc (Nat.le_refl _) (.cells #[.slice Ag (N x + 64) cg] 29)
              have hpW := hp.out.below hbW
              have hgsW := own_below hgs hbW
              have hgr : (wr.alloc (.cells #[.slice Ag (N x + 64) cg] 29)).grownBy w2 u5.ownBlock := Ak.split_grown hs2
              have hLW : (wr.alloc (.cells #[.slice Ag (N x + 64) cg] 29)).heap[bls]? = some (.cells cls 29 (0, 0)) := (hbW.block bls hbl2).trans hL.out
              have HHx := Lib.hid hHx
              clear hHx
              go_roundw
              case rel =>
                refine ⟨x + 1, H, C, col2, by omega, by go_num, Lib.hid ?_, Lib.hid ?_, Lib.hid ?_, ?_, Lib.hid ?_, Lib.hid ?_⟩
                · refine hpW.grown hgr (fun j hj => ⟨Ak.own_ne (hpW j hj).1 hgsW (by decide), ?_⟩)
                  by_cases hn : (V j).ownBlock = none
                  · exact .inl hn
                  · right
                    intro he
                    obtain ⟨b, hb⟩ := Option.ne_none_iff_exists'.1 hn
                    have c1 := HVB.out j hj b hb
                    have c2 := (hgsW.lt b (by rw [← he]; exact hb)).1
                    omega
                · intro j hj
                  by_cases hjx : j = x
                  · subst hjx; rw [hCx.out]
                  · exact hC1.out j (by omega)
                · intro j hj
                  exact hC2.out j (by omega)
                · rw [List.range_succ, List.map_append, List.map_cons, List.map_nil, HHx.out]
                  exact hown2
                · exact (hB.out.below hbW).grown hgr (fun b hb => .inl (hgsW.lt b hb).1)
                · rw [hgr.block bls (by simp; omega) (fun he => by have c2 := (hgsW.lt bls he.symm).1; omega)]
                  exact hLW
              case measure => simp [intOf]; omega
        · obtain rfl : x = q := by omega
          have HCs : Hid (∀ j, j < x → C j = N j + 64) := hC1
          have hszw : w.heap.size ≤ wr.heap.size := hB.out.size
          go_wp2_with fail
          go_loopw [9] (fun k w2 => ∃ y : Nat, y ≤ x ∧ k = .int .i64 y ∧ Hid (Ak.P2 base w.heap.size 3 1 x V N mkIn col2 H C w2) ∧ w2.ownsRow w.heap.size 29 1 u5 x ((List.range x).map H) ∧ Hid (Ak.Fr x V w w2) ∧ Hid (w2.heap[bls]? = some (.cells cls 29 (0, 0)))) (fun k _ => x - (intOf k).toNat)
          case atStart => exact ⟨0, by omega, rfl, hp, hgs, hB, hL⟩
          case round =>
            clear hp hgs hB hL hszw
            obtain ⟨y, hy, rfl, hp, hgs, hB, hL⟩ := hrel
            obtain ⟨wq, rfl⟩ : ∃ wq : World, wq = wr := ⟨_, rfl⟩
            by_cases hyx : y < x
            · have hy1 : (0 : Int) ≤ (y : Int) := by omega
              have hy2 : (y : Int) < (x : Int) := by omega
              have hy3 : (y : Int) ≤ 1000000 := by omega
              obtain ⟨g5, c5, hu5, hg5, hlt5⟩ := hgs.form (by omega)
              have hc5 : x ≤ c5 := by
                rcases hgs.2 with ⟨h', h''⟩ | ⟨g', cap', cur, h', _, _, hn, _⟩
                · omega
                · rw [hu5] at h'
                  simp only [Value.slice.injEq] at h'
                  omega
              subst hu5
              have hownx := (hp.out y hyx).1
              rw [HCs.out y hyx] at hownx
              obtain ⟨g6, c6, hHy, _, hlt6⟩ := hownx.form (by omega)
              rw [hHy] at hownx
              obtain ⟨A, cq, hV⟩ := hp.out.form hyx
              have hbl2 : bls < wq.heap.size := (Array.getElem?_eq_some_iff.1 hL.out).1
              have HF : Hid (∀ w2, Below wq.heap.size wq w2 → w2.cell? ⟨bls, off + y, none⟩ = some (.slice A (N y) cq) ∧ w2.cell? ⟨g5, y, none⟩ = some (.slice (some ⟨g6, 0, none⟩) (N y + 64) c6)) := Lib.hid (by
                intro w2 hb2
                refine ⟨(hb2.cell (p := ⟨bls, off + y, none⟩) hbl2).trans (by rw [cell_of_row wq bls (off + y) cls _ (0, 0) hL.out, HC.out y hyx, hV]), (hb2.cell (p := ⟨g5, y, none⟩) hlt5).trans ?_⟩
                rw [hgs.cellAt y (by omega)]
                simp [hyx, hHy])
              have HF2 : Hid (∀ w2, Below wq.heap.size wq w2 → ∀ i, i < N y + 64 → w2.cell? ⟨g6, i, none⟩ = some (.int .i64 (mkI (y : Int) (i : Int)))) := Lib.hid (by
                intro w2 hb2 i hi
                refine (hb2.cell (p := ⟨g6, i, none⟩) hlt6).trans ?_
                have h := Ak.marks_get mkIn_len y (N y + 64) i 0 hi (by omega)
                rw [Nat.mul_one, Nat.add_zero] at h
                rw [hownx.cellAt _ (by omega)]
                exact h)
              have HF3 : Hid (∀ w2, Below wq.heap.size wq w2 → ∀ i, i < N y → ∃ b, A = some ⟨b, 0, none⟩ ∧ w2.cell? ⟨b, i, none⟩ = some (.int .i64 (mkI (y : Int) (i : Int)))) := Lib.hid (by
                intro w2 hb2 i hi
                obtain ⟨_, _, _, hat, hvb, hform, _⟩ := hp.out y hyx
                rcases hform with ⟨_, h0⟩ | ⟨b, c, hVb⟩
                · omega
                · rw [hV] at hVb
                  simp only [Value.slice.injEq] at hVb
                  refine ⟨b, hVb.1, ?_⟩
                  have hg := Ak.marks_get mkIn_len y (N y) i 0 hi (by omega)
                  rw [Nat.mul_one, Nat.add_zero] at hg
                  have hg2 : (Ak.marks mkIn y (N y))[i]? = some (.int .i64 (mkI (y : Int) (i : Int))) := hg
                  obtain ⟨b2, e1, e2⟩ := hat _ _ hg2
                  have hvv : (V y).ownBlock = some b := by rw [hV, hVb.1]; rfl
                  rw [hvv] at e1
                  obtain rfl := Option.some.inj e1
                  exact (hb2.cell (p := ⟨b, i, none⟩) (hvb b hvv).2).trans e2)
              have hNy : N y ≤ 1000000 := HN.out y hyx
              clear hHy hV hownx
              have hcells0 := HF.out wq (Below.refl _ _)
              obtain ⟨hcl0, hcl1⟩ := hcells0
              go_wp2_with fail
              go_loopw [10] (fun i w2 => ∃ p : Nat, p ≤ N y + 64 ∧ i = .int .i64 p ∧ Below wq.heap.size wq w2) (fun i _ => N y + 64 - (intOf i).toNat)
              case atStart => exact ⟨0, by omega, rfl, Below.refl _ _⟩
              case round =>
                obtain ⟨p, hp1, rfl, hbw⟩ := hrel
                clear hcl0 hcl1
                obtain ⟨hcl0, hcl1⟩ := HF.out wr hbw
                have hp2 : (0 : Int) ≤ (p : Int) := by omega
                by_cases hpn : p < N y + 64
                · have hp3 : (p : Int) < (N y : Int) + 64 := by omega
                  obtain ⟨m0, hm0⟩ : ∃ m0, Hid (mkI (y : Int) (p : Int) = m0) := ⟨_, Lib.hid rfl⟩
                  by_cases hpN : p < N y
                  · have hp4 : (p : Int) < (N y : Int) := by omega
                    have hd : decide ((p : Int) < (N y : Int)) = true := by simpa using hpN
                    obtain ⟨b, rfl, _⟩ := HF3.out wr hbw p hpN
                    have HF4 : Hid (∀ w2, Below wq.heap.size wq w2 → w2.cell? ⟨b, p, none⟩ = some (.int .i64 m0)) := Lib.hid (by
                      intro w2 hb2
                      obtain ⟨b', he, hc⟩ := HF3.out w2 hb2 p hpN
                      simp only [Option.some.injEq, Addr.mk.injEq] at he
                      rw [he.1, ← hm0.out]
                      exact hc)
                    go_upto_region 25 with (go_at_call 94; refine (markIb_any _ _ hy1 hy3 (by omega) (by omega) _ hm0).mono ?_; rintro e w1 ⟨rfl, hb1⟩; have hbw1 := below_of_below hbw hb1 hbw.size)
                    obtain ⟨hc0, hc1⟩ := HF.out w1 hbw1
                    have hc2 := HF2.out w1 hbw1 p hpn
                    rw [hm0.out] at hc2
                    have hc3 := HF4.out w1 hbw1
                    have xn : (m0 != m0) = false := by simp
                    go_cut [112] (fun s112 wx => s112 = .bool false ∧ Below wq.heap.size wq wx)
                    case first =>
                      go_wp2_with fail
                      go_meet
                      exact ⟨rfl, by first | exact hbw1 | exact below_drewN hbw1 _⟩
                    case rest =>
                      obtain ⟨rfl, hbx⟩ := hcut
                      clear hc0 hc1 hc2 hc3 xn
                      go_wp2_with fail
                      go_roundw
                      case rel => exact ⟨p + 1, by omega, by go_num, hbx⟩
                      case measure => simp [intOf]; omega
                  · have hd : decide ((p : Int) < (N y : Int)) = false := by simp; omega
                    go_upto_region 25 with (go_at_call 94; refine (markIb_any _ _ hy1 hy3 (by omega) (by omega) _ hm0).mono ?_; rintro e w1 ⟨rfl, hb1⟩; have hbw1 := below_of_below hbw hb1 hbw.size)
                    obtain ⟨hc0, hc1⟩ := HF.out w1 hbw1
                    have hc2 := HF2.out w1 hbw1 p hpn
                    rw [hm0.out] at hc2
                    have xn : (m0 != m0) = false := by simp
                    go_cut [112] (fun s112 wx => s112 = .bool false ∧ Below wq.heap.size wq wx)
                    case first =>
                      go_wp2_with fail
                      go_meet
                      exact ⟨rfl, by first | exact hbw1 | exact below_drewN hbw1 _⟩
                    case rest =>
                      obtain ⟨rfl, hbx⟩ := hcut
                      clear hc0 hc1 hc2 xn
                      go_wp2_with fail
                      go_roundw
                      case rel => exact ⟨p + 1, by omega, by go_num, hbx⟩
                      case measure => simp [intOf]; omega
                · obtain rfl : p = N y + 64 := by omega
                  have hd : decide ((N y : Int) + 64 < (N y : Int) + 64) = false := by simp
                  go_wp2_with fail
                  go_roundw
                  case rel => exact ⟨y + 1, by omega, by go_num, Lib.hid (hp.out.below hbw), own_below hgs hbw, Lib.hid (hB.out.below hbw), Lib.hid (by rw [hbw.block bls (Array.getElem?_eq_some_iff.1 hL.out).1]; exact hL.out)⟩
                  case measure => simp [intOf]; omega
            · go_wp2_with fail
              go_ret
              exact ⟨rfl, hB.out⟩
end Go.Proofs.YtnlkmljdcmfogaaGreatDoor
namespace Go.Proofs.YtnlkmljdcmfogaaGreatDoor
open Go Go.RowKit
/-- waves, to be read. -/
def RdW (w : World) (v : Value) (W : List (List Int)) : Prop := ∃ vs : List Value, vs.length = W.length ∧ SlA w v W.length vs ∧ ∀ (j : Nat) (V : Value) (l : List Int), vs[j]? = some V → W[j]? = some l → SlA w V l.length (icC l)
theorem RdW.new {w w' : World} {v : Value} {W : List (List Int)} (h : RdW w v W) (k : Below w.heap.size w w') : RdW w' v W := by
  obtain ⟨vs, h1, h2, h3⟩ := h
  exact ⟨vs, h1, h2.new k, fun j V l a b => (h3 j V l a b).new k⟩
theorem RdW.of_r {w : World} {v : Value} {W : List (List Int)} (h : WvR w v W) : RdW w v W := by
  obtain ⟨vs, X, h1, h2⟩ := h
  exact ⟨vs, h2.1, h1, fun j V l a b => (h2.2 j V l a b).sl⟩
theorem RdW.of_o {w : World} {base : Nat} {v : Value} {W : List (List Int)} (h : WvO w base v W) : RdW w v W := by
  obtain ⟨vs, h1, h2⟩ := h
  exact ⟨vs, h2.1, SlA.own h1, fun j V l a b => SlA.own (h2.2.1 j V l a b)⟩
theorem RdW.form {w : World} {v : Value} {W : List (List Int)} (h : RdW w v W) : ∃ A c, v = .slice A W.length c := by
  obtain ⟨vs, h1, h2, h3⟩ := h
  exact h2.form
theorem RdW.at {w : World} {v : Value} {W : List (List Int)} (h : RdW w v W) {i : Nat} (hi : i < W.length) : ∃ g o c A k, v = .slice (some ⟨g, o, none⟩) W.length c ∧ w.cell? ⟨g, o + i, none⟩ = some (.slice A W[i].length k) ∧ SlA w (.slice A W[i].length k) W[i].length (icC W[i]) := by
  obtain ⟨vs, h1, h2, h3⟩ := h
  have hv : vs[i]? = some vs[i] := List.getElem?_eq_getElem (by omega)
  have h4 := h3 i _ _ hv (List.getElem?_eq_getElem hi)
  obtain ⟨A, k, e⟩ := h4.form
  rcases h2 with ⟨_, h0, _⟩ | ⟨g, o, c, rfl, hc⟩
  · omega
  · refine ⟨g, o, c, A, k, rfl, ?_, by rw [← e]; exact h4⟩
    rw [← e]
    exact hc i _ hv
set_option maxRecDepth 100000 in
set_option maxHeartbeats 4000000 in
theorem sameWaves_any (W : List (List Int)) (A B : Option Addr) (ca cb : Nat) (w : World) (ha : RdW w (.slice A W.length ca) W) (hb : RdW w (.slice B W.length cb) W) (hn : W.length ≤ 1000000) (hl : ∀ l ∈ W, l.length ≤ 1100000) :
    Calls Tryz.prog 20 #[.slice A W.length ca, .slice B W.length cb] w fun e w' => e = .returned (.bool true) ∧ Below w.heap.size w w' := by
  have HA := Lib.hid ha
  have HB := Lib.hid hb
  have HL := Lib.hid hl
  have t0 : ((W.length : Int) != (W.length : Int)) = false := by simp
  clear ha hb hl
  go_enter Tryz.func20, Tryz.ntmps20
  go_wp2_with fail
  go_loopw [5] (fun t5 wr => ∃ i : Nat, i ≤ W.length ∧ t5 = .int .i64 (i : Int) ∧ Hid (Below w.heap.size w wr)) (fun t5 _ => W.length - (intOf t5).toNat)
  case atStart => exact ⟨0, by omega, rfl, Lib.hid (Below.refl _ _)⟩
  case round =>
    rename World => wr
    obtain ⟨i, hi, rfl, HBL⟩ := hrel
    have j0 : (0 : Int) ≤ (i : Int) := by omega
    rcases Nat.lt_or_ge i W.length with hin | hin
    · have i0 : decide ((i : Int) < (W.length : Int)) = true := by rw [decide_eq_true_eq]; omega
      have i1 : (i : Int) < (W.length : Int) := by omega
      obtain ⟨g, o, c, A1, k1, hv, d0, s0⟩ := (HA.out.new HBL.out).at hin
      injection hv with e1 _ e3
      subst e1 e3
      obtain ⟨g', o', c', A2, k2, hv, f0, s1⟩ := (HB.out.new HBL.out).at hin
      injection hv with e1 _ e4
      subst e1 e4
      have hli := HL.out _ (List.getElem_mem hin)
      obtain ⟨x, hx⟩ : ∃ x, W[i] = x := ⟨_, rfl⟩
      rw [hx] at d0 f0 s0 s1 hli
      have HD := Lib.hid d0
      have HF := Lib.hid f0
      have HS0 := Lib.hid s0
      have HS1 := Lib.hid s1
      clear hx d0 f0 s0 s1
      go_upto_region 6 with fail
      refine' wp_region_rely_tail 8 (fun wx => Below wr.heap.size wr wx) (VL [.slice (some ⟨g, o, none⟩) W.length ca, .int .i64 (i : Int), .pointer (some ⟨g, o + i, none⟩), .slice A1 x.length k1, .slice (some ⟨g', o', none⟩) W.length cb, .int .i64 (i : Int), .pointer (some ⟨g', o' + i, none⟩), .slice A2 x.length k2]) ?F2 ?hF2 (by kernel_rfl) (by kernel_rfl) (by kernel_rfl) (by decide) (by kernel_rfl) (by kernel_rfl) (by kernel_rfl) (Below.refl _ _).drew ?hsteps2 ?hT2
      case hF2 =>
        intro xs
        refine (frameX_eq _ _ _).trans ?_
        simp only [frameL, Act.put, List.setIfInBounds_toArray, List.set_cons_zero, List.set_cons_succ, Nat.reduceAdd, Nat.zero_add]
        exact rfl
      case hsteps2 =>
        as_aux_lemma =>
        simp only [List.take_succ_cons, List.take_zero]
        refine Steps.cons (n := []) (k := 1) rfl (by kernel_rfl) (fun xs wx hS hV K hK => ?_) ?_
        · clear hV
          go_simp
          exact hK.out _ _ hS rfl (fun _ _ h => h)
        refine Steps.cons (n := []) (k := 2) rfl (by kernel_rfl) (fun xs wx hS hV K hK => ?_) ?_
        · clear hV
          go_simp
          exact hK.out _ _ hS rfl (fun _ _ h => h)
        refine Steps.cons (n := [0, 1]) (k := 3) rfl (by kernel_rfl) (fun xs wx hS hV K hK => ?_) ?_
        · obtain ⟨d0, d1, -⟩ := hV
          replace d0 : xs 0 = .slice (some ⟨g, o, none⟩) W.length ca := (Option.some.inj d0).symm
          replace d1 : xs 1 = .int .i64 (i : Int) := (Option.some.inj d1).symm
          rw [d0, d1] at hK ⊢
          go_simp
          exact hK.out _ _ hS rfl (fun _ _ h => h)
        refine Steps.cons (n := [2]) (k := 4) rfl (by kernel_rfl) (fun xs wx hS hV K hK => ?_) ?_
        · obtain ⟨d2, -⟩ := hV
          replace d2 : xs 2 = .pointer (some ⟨g, o + i, none⟩) := (Option.some.inj d2).symm
          rw [d2] at hK ⊢
          have q0 : wx.cell? ⟨g, o + i, none⟩ = some (.slice A1 x.length k1) := (hS.cell (World.block_lt_of_cell? wr _ HD.out)).trans HD.out
          go_simp
          exact hK.out _ _ hS rfl (fun _ _ h => h)
        refine Steps.cons (n := []) (k := 5) rfl (by kernel_rfl) (fun xs wx hS hV K hK => ?_) ?_
        · clear hV
          go_simp
          exact hK.out _ _ hS rfl (fun _ _ h => h)
        refine Steps.cons (n := []) (k := 6) rfl (by kernel_rfl) (fun xs wx hS hV K hK => ?_) ?_
        · clear hV
          go_simp
          exact hK.out _ _ hS rfl (fun _ _ h => h)
        refine Steps.cons (n := [4, 5]) (k := 7) rfl (by kernel_rfl) (fun xs wx hS hV K hK => ?_) ?_
        · obtain ⟨d4, d5, -⟩ := hV
          replace d4 : xs 4 = .slice (some ⟨g', o', none⟩) W.length cb := (Option.some.inj d4).symm
          replace d5 : xs 5 = .int .i64 (i : Int) := (Option.some.inj d5).symm
          rw [d4, d5] at hK ⊢
          go_simp
          exact hK.out _ _ hS rfl (fun _ _ h => h)
        refine Steps.cons (n := [6]) (k := 8) rfl (by kernel_rfl) (fun xs wx hS hV K hK => ?_) ?_
        · obtain ⟨d6, -⟩ := hV
          replace d6 : xs 6 = .pointer (some ⟨g', o' + i, none⟩) := (Option.some.inj d6).symm
          rw [d6] at hK ⊢
          have q0 : wx.cell? ⟨g', o' + i, none⟩ = some (.slice A2 x.length k2) := (hS.cell (World.block_lt_of_cell? wr _ HF.out)).trans HF.out
          go_simp
          exact hK.out _ _ hS rfl (fun _ _ h => h)
        exact Steps.nil
      case hT2 =>
        intro xs w8 hS hV
        have d3 : xs 3 = .slice A1 x.length k1 := (Option.some.inj (hV 3 (by decide))).symm
        have d7 : xs 7 = .slice A2 x.length k2 := (Option.some.inj (hV 7 (by decide))).symm
        simp only [List.drop_succ_cons, List.drop_zero]
        rw [d3, d7]
        have HC := Lib.hid (sameInts_any _ x A1 A2 k1 k2 (HS0.out.new hS) (HS1.out.new hS) hli)
        have HB8 := Lib.hid (HBL.out.trans (hS.mono HBL.out.size))
        clear hV d3 d7 hS HD HF HS0 HS1 HBL
        go_wp2_with fail
        refine HC.out.mono ?_
        rintro a w9 ⟨rfl, hb⟩
        have HB9 := Lib.hid (HB8.out.trans (hb.mono HB8.out.size))
        clear HC hb HB8
        go_wp2_with fail
        go_roundw
        case rel => exact ⟨i + 1, by omega, by go_num, HB9⟩
        case measure => simp [intOf]; omega
    · have i0 : decide ((i : Int) < (W.length : Int)) = false := by rw [decide_eq_false_iff_not]; omega
      go_wp2_with fail
      go_ret
      exact ⟨by first | rfl | trivial, HBL.out⟩
end Go.Proofs.YtnlkmljdcmfogaaGreatDoor
