/- stratakit.ApartEntries, walked: of lists of entries that have rows of their own it says yes; what is not theirs stays. -/
import Derived.Test.YtdjfakampjbgeaaGreatDoorApartK
import Derived.Test.YtdjfakampjbgeaaGreatDoorMarkE
import Derived.Test.YtdjfakampjbgeaaGreatDoorGtA
import Derived.Deep.RegionHeld3
import Derived.Deep.RegionLaw
import Derived.Deep.RegionWith
namespace Go.Proofs.YtdjfakampjbgeaaGreatDoor
open Go Go.RowKit

def mkEn (j i : Nat) : List Value := enL (mkE (j : Int) (i : Int))
theorem mkEn_len : ∀ j i, (mkEn j i).length = 5 := fun _ _ => rfl
theorem slicesE : ElemK Tryz.prog 40 22 (.slice none 0 0) 1 24 := ⟨Tryz.underlying40, by kernel_rfl, rfl, by decide⟩
/-- the mark as its cells. -/
theorem markEn_hid (k i : Int) (h0 : 0 ≤ k) (h1 : k ≤ 1000000) (w : World) {y : En} (hy : Hid (mkE k i = y)) :
    Calls Tryz.prog 33 #[.int .i64 k, .int .i64 i] w fun e w' => e = .returned (.agg #[.string (bs y.path), .int .i64 y.kind, .int .i64 y.mode, .string (bs y.data), .string (bs y.link)]) ∧ Below w.heap.size w w' := by
  have := markEntries_any k i h0 h1 w
  rw [hy.out] at this
  exact this
theorem enL_one (x : En) : ∀ v ∈ enL x, v.oneCell' = true := by simp [enL, Value.oneCell']
theorem setCells_grown : ∀ (l : List Value) (o : Nat) (w : World) (b : Nat), w.grownBy (w.setCells b o l) (some b)
  | [], _, w, _ => Ak.refl_grown w _
  | v :: r, o, w, b => Ak.trans_grown (setCell_grown w ⟨b, o, none⟩ v) (setCells_grown r (o + 1) _ b)
theorem five {w : World} {b o : Nat} (h : w.there b o 5) : ∃ u0 u1 u2 u3 u4, w.cell? ⟨b, o, none⟩ = some u0 ∧ w.cell? ⟨b, o + 1, none⟩ = some u1 ∧ w.cell? ⟨b, o + 2, none⟩ = some u2 ∧ w.cell? ⟨b, o + 3, none⟩ = some u3 ∧ w.cell? ⟨b, o + 4, none⟩ = some u4 ∧
    w.frozen? ⟨b, o, none⟩ = false ∧ w.frozen? ⟨b, o + 1, none⟩ = false ∧ w.frozen? ⟨b, o + 2, none⟩ = false ∧ w.frozen? ⟨b, o + 3, none⟩ = false ∧ w.frozen? ⟨b, o + 4, none⟩ = false := by
  obtain ⟨u0, e0⟩ := Option.isSome_iff_exists.1 (h 0 (by omega)).1
  obtain ⟨u1, e1⟩ := Option.isSome_iff_exists.1 (h 1 (by omega)).1
  obtain ⟨u2, e2⟩ := Option.isSome_iff_exists.1 (h 2 (by omega)).1
  obtain ⟨u3, e3⟩ := Option.isSome_iff_exists.1 (h 3 (by omega)).1
  obtain ⟨u4, e4⟩ := Option.isSome_iff_exists.1 (h 4 (by omega)).1
  exact ⟨u0, u1, u2, u3, u4, e0, e1, e2, e3, e4, (h 0 (by omega)).2, (h 1 (by omega)).2, (h 2 (by omega)).2, (h 3 (by omega)).2, (h 4 (by omega)).2⟩
theorem there_below {w w' : World} {b o n : Nat} (h : w.there b o n) (hlt : b < w.heap.size) (hb : Below w.heap.size w w') : w'.there b o n := fun j hj =>
  ⟨by rw [hb.cell (p := ⟨b, o + j, none⟩) hlt]; exact (h j hj).1, by rw [hb.frozen (p := ⟨b, o + j, none⟩) hlt]; exact (h j hj).2⟩

set_option maxRecDepth 100000 in
set_option maxHeartbeats 16000000 in
theorem apartE_any (base m c bls off : Nat) (cls : Array Value) (V : Nat → Value) (N : Nat → Nat) (X : Nat → List Value) (col : Nat → Nat) (w : World)
    (h0 : ∀ j, j < m → w.ownsRow base 38 5 (V j) (N j) (X j) ∧ ∀ b, (V j).ownBlock = some b → col b = j)
    (hls : w.heap[bls]? = some (.cells cls 22 (0, 0))) (hcl : ∀ j, j < m → cls[off + j]? = some (V j)) (hm : m ≤ 1000) (hmc : m ≤ c) (hN : ∀ j, j < m → N j ≤ 1000000) (hbase : base ≤ w.heap.size) :
    Calls Tryz.prog 15 #[.slice (some ⟨bls, off, none⟩) m c] w fun e w' => e = .returned (.bool true) ∧ Ak.Fr m V w w' := by
  have hbl : bls < w.heap.size := (Array.getElem?_eq_some_iff.1 hls).1
  have HX : Hid (∀ j, j < m → (X j).length = N j * 5) := Lib.hid fun j hj => (h0 j hj).1.1
  have HC := Lib.hid hcl
  have HN := Lib.hid hN
  have HP := Lib.hid (Ak.P1.start (mk := mkEn) h0)
  have HVB : Hid (∀ j, j < m → ∀ b, (V j).ownBlock = some b → b < w.heap.size) := Lib.hid fun j hj b hb => ((h0 j hj).1.lt b hb).2
  have HL := Lib.hid hls
  clear h0 hcl hN hls
  go_enter Tryz.func15, Tryz.ntmps15
  go_wp2_with fail
  go_loopw [3] (fun k wr => ∃ q : Nat, q ≤ m ∧ k = .int .i64 q ∧ Hid (Ak.P1 base 38 5 m V N mkEn X col q 0 wr) ∧ Hid (Ak.Fr m V w wr) ∧ Hid (wr.heap[bls]? = some (.cells cls 22 (0, 0)))) (fun k _ => m - (intOf k).toNat)
  case atStart => exact ⟨0, by omega, rfl, HP, Lib.hid Ak.Fr.refl, HL⟩
  case round =>
    obtain ⟨q, hq, rfl, hp, hbel, hl⟩ := hrel
    clear HP
    by_cases hqm : q < m
    · have hq1 : (0 : Int) ≤ (q : Int) := by omega
      have hq2 : (q : Int) < (m : Int) := by omega
      go_wp2_with fail
      go_loopw [4] (fun i w2 => ∃ p : Nat, p ≤ N q ∧ i = .int .i64 p ∧ Hid (Ak.P1 base 38 5 m V N mkEn X col q p w2) ∧ Hid (Ak.Fr m V w w2) ∧ Hid (w2.heap[bls]? = some (.cells cls 22 (0, 0)))) (fun i _ => N q - (intOf i).toNat)
      case atStart => exact ⟨0, by omega, rfl, hp, hbel, hl⟩
      case round =>
        obtain ⟨p, hpN, rfl, hP, hB, hL⟩ := hrel
        clear hp hbel hl HL
        have hsz := hB.out.size
        obtain ⟨A, cq, hV⟩ := hP.out.form hqm
        have hcell : wr.cell? ⟨bls, off + q, none⟩ = some (.slice A (N q) cq) := by rw [cell_of_row wr bls (off + q) cls _ (0, 0) hL.out, HC.out q hqm, hV]
        have hNq : N q ≤ 1000000 := HN.out q hqm
        by_cases hpq : p < N q
        · obtain ⟨b, c2, hV2, hbb, hblt, hc2, hth⟩ := hP.out.at_ hqm hpq
          obtain ⟨rfl, rfl⟩ : A = some ⟨b, 0, none⟩ ∧ cq = c2 := by
            rw [hV] at hV2
            simp only [Value.slice.injEq] at hV2
            exact ⟨hV2.1, hV2.2.2⟩
          have HV2 := Lib.hid hV2
          have HS : Hid (∀ w1, Below wr.heap.size wr w1 → w1.there b (p * 5) 5) := Lib.hid fun w1 hb1 => there_below hth hblt hb1
          have hbl2 : bls < wr.heap.size := (Array.getElem?_eq_some_iff.1 hL.out).1
          have hneb : bls ≠ b := by
            intro he
            have h1 := Ak.blk_ne (hP.out q hqm).1 hL.out (by decide)
            rw [hV2] at h1
            exact h1 (by rw [he]; rfl)
          obtain ⟨y, hy⟩ : ∃ y, Hid (mkE (q : Int) (p : Int) = y) := ⟨_, Lib.hid rfl⟩
          have hne : ∀ r, (⟨b, p * 5 + r, none⟩ : Addr) ≠ ⟨bls, off + q, none⟩ := by
            intro r he
            simp only [Addr.mk.injEq] at he
            exact hneb he.1.symm
          have hne0 : (⟨b, p * 5, none⟩ : Addr) ≠ ⟨bls, off + q, none⟩ := hne 0
          have hne1 := hne 1
          have hne2 := hne 2
          have hne3 := hne 3
          have hne4 := hne 4
          have HNB := Lib.hid hneb
          have q6 : (q : Int) ≤ 1000000 := by omega
          clear hV hV2 hth hneb hne
          have hp1 : (0 : Int) ≤ (p : Int) := by omega
          have hp2 : (p : Int) < (N q : Int) := by omega
          go_wp2_with fail
          go_region_held3 (fun w' => w'.cell? ⟨bls, off + q, none⟩ = some (.slice (some ⟨b, 0, none⟩) (N q) cq)) (first | with_reducible exact hcell1 | exact (World.cell?_setCell_other _ _ _ _ hne4).trans ((World.cell?_setCell_other _ _ _ _ hne3).trans ((World.cell?_setCell_other _ _ _ _ hne2).trans ((World.cell?_setCell_other _ _ _ _ hne1).trans ((World.cell?_setCell_other _ _ _ _ hne0).trans hcell1)))) | exact hcell) (first | (go_at_call 33; refine (markEn_hid _ _ hq1 q6 _ hy).mono ?_; rintro e w1 ⟨rfl, hb0⟩; have hb1 : Below wr.heap.size wr w1 := (Below.refl _ _).drew.trans hb0; have hcell1 := (hb1.cell (p := ⟨bls, off + q, none⟩) hbl2).trans hcell; obtain ⟨a0, a1, a2, a3, a4, d0, d1, d2, d3, d4, f0, f1, f2, f3, f4⟩ := five (HS.out w1 hb1)))
          have hmk : mkEn q p = [.string (bs y.path), .int .i64 y.kind, .int .i64 y.mode, .string (bs y.data), .string (bs y.link)] := by unfold mkEn; rw [hy.out]; rfl
          have hP7 := Lib.hid ((hP.out.below hb1).store mkEn_len hqm hpq (HX.out q hqm) HV2.out)
          have hg7 := setCells_grown (mkEn q p) (p * 5) w1 b
          have hF7 : Hid (Ak.Fr m V w (w1.setCells b (p * 5) (mkEn q p))) := Lib.hid ((hB.out.below hb1).grown hg7 (fun b' e => .inr ⟨q, hqm, by rw [HV2.out]; exact e⟩))
          have hL7 : Hid ((w1.setCells b (p * 5) (mkEn q p)).heap[bls]? = some (.cells cls 22 (0, 0))) := Lib.hid ((hg7.block bls (Nat.lt_of_lt_of_le hbl2 hb1.size) (fun e => HNB.out (Option.some.inj e))).trans ((hb1.block bls hbl2).trans hL.out))
          rw [hmk] at hP7 hF7 hL7
          clear hg7 d0 d1 d2 d3 d4 f0 f1 f2 f3 f4 hmk
          go_wp2_with fail
          go_roundw
          case rel => exact ⟨p + 1, by omega, by go_num, hP7, hF7, hL7⟩
          case measure => simp [intOf]; omega
        · obtain rfl : p = N q := by omega
          have hd : decide ((N q : Int) < (N q : Int)) = false := by simp
          go_wp2_with fail
          go_roundw
          case rel => exact ⟨q + 1, by omega, by go_num, Lib.hid (hP.out.next HX.out), hB, hL⟩
          case measure => simp [intOf]; omega
    · obtain rfl : q = m := by omega
      have hsz := hbel.out.size
      have HP2 := Lib.hid (Ak.P2.start (B0 := w.heap.size) hp.out (Nat.le_refl _))
      clear hp HL
      go_wp2_with fail
      go_loopw [5, 6] (fun gs k wr => ∃ (x : Nat) (H : Nat → Value) (C : Nat → Nat) (col2 : Nat → Nat), x ≤ q ∧ k = .int .i64 x ∧ Hid (Ak.P2 base w.heap.size 38 5 q V N mkEn col2 H C wr) ∧ Hid (∀ j, j < x → C j = N j + 64) ∧ Hid (∀ j, x ≤ j → H j = V j ∧ C j = N j) ∧
          wr.ownsRow w.heap.size 22 1 gs x ((List.range x).map H) ∧ Hid (Ak.Fr q V w wr) ∧ Hid (wr.heap[bls]? = some (.cells cls 22 (0, 0)))) (fun _ k _ => q - (intOf k).toNat)
      case atStart => exact ⟨0, V, N, col, by omega, rfl, HP2, Lib.hid (fun j hj => by omega), Lib.hid (fun j _ => ⟨rfl, rfl⟩), World.ownsRow_nil _ _ _ _, hbel, hl⟩
      case round =>
        obtain ⟨x, H, C, col2, hx, rfl, hp, hC1, hC2, hgs, hB, hL⟩ := hrel
        clear HP2 hbel hl
        by_cases hxq : x < q
        · have hx1 : (0 : Int) ≤ (x : Int) := by omega
          have hx2 : (x : Int) < (q : Int) := by omega
          have hx3 : (x : Int) ≤ 1000000 := by omega
          obtain ⟨A, cq, hV⟩ := hp.out.form hxq
          have hcell : wr.cell? ⟨bls, off + x, none⟩ = some (.slice A (N x) cq) := by rw [cell_of_row wr bls (off + x) cls _ (0, 0) hL.out, HC.out x hxq, hV]
          have hVH : H x = .slice A (N x) cq := by rw [(hC2.out x (Nat.le_refl _)).1, hV]
          have hNx : N x ≤ 1000000 := HN.out x hxq
          go_wp2_with fail
          go_loopw [7, 8] (fun g i w2 => ∃ (p : Nat) (H : Nat → Value) (C : Nat → Nat) (col2 : Nat → Nat), p ≤ 64 ∧ i = .int .i64 p ∧ g = H x ∧ Hid (Ak.P2 base w.heap.size 38 5 q V N mkEn col2 H C w2) ∧ Hid (∀ j, j < x → C j = N j + 64) ∧ Hid (C x = N x + p) ∧ Hid (∀ j, x < j → H j = V j ∧ C j = N j) ∧
              w2.ownsRow w.heap.size 22 1 u5 x ((List.range x).map H) ∧ Hid (Ak.Fr q V w w2) ∧ Hid (w2.heap[bls]? = some (.cells cls 22 (0, 0)))) (fun _ i _ => 64 - (intOf i).toNat)
          case atStart => exact ⟨0, H, C, col2, by omega, rfl, hVH.symm, hp, hC1, Lib.hid (by rw [(hC2.out x (Nat.le_refl _)).2]; rfl), Lib.hid (fun j hj => hC2.out j (by omega)), hgs, hB, hL⟩
          case round =>
            clear hp hC1 hC2 hgs hB hL hVH hcell H C col2
            obtain ⟨p, H, C, col2, hp64, rfl, rfl, hp, hC1, hCx, hC2, hgs, hB, hL⟩ := hrel
            have hcell : wr.cell? ⟨bls, off + x, none⟩ = some (.slice A (N x) cq) := by rw [cell_of_row wr bls (off + x) cls _ (0, 0) hL.out, HC.out x hxq, hV]
            have hbl2 : bls < wr.heap.size := (Array.getElem?_eq_some_iff.1 hL.out).1
            have hszw : w.heap.size ≤ wr.heap.size := hB.out.size
            have hbsz : base ≤ wr.heap.size := Nat.le_trans hbase hszw
            have hownx := (hp.out x hxq).1
            rw [hCx.out] at hownx
            obtain ⟨Ag, cg, hHx⟩ := ownk_form hownx
            have HV := Lib.hid hV
            clear hV
            by_cases hp2 : p < 64
            · have hp3 : (p : Int) < 64 := by omega
              rw [hHx] at hownx
              rw [hHx]
              have HHx := Lib.hid hHx
              obtain ⟨y, hy⟩ : ∃ y, Hid (mkE (x : Int) ((N x : Int) + (p : Int)) = y) := ⟨_, Lib.hid rfl⟩
              clear hHx
              go_wp2_with (first | (go_at_call 33; refine (markEn_hid _ _ hx1 hx3 _ hy).mono ?_; rintro e w1 ⟨rfl, hb1⟩; have hownW := own_below hownx hb1; have hsz1 := hb1.size) | (at_builtin; refine Ak.wpList_app_split rfl _ _ _ rfl entryK _ _ _ _ rfl (hownW.alloc _) _ _ _ _ rfl rfl (news_at _ _ (by simp) _ _) (by simp [Value.oneCell']) (by omega) (by omega) (by simp; omega) (by omega) ?_; intro v1 w2 hown2 hs2))
              have hmk : mkEn x (N x + p) = [.string (bs y.path), .int .i64 y.kind, .int .i64 y.mode, .string (bs y.data), .string (bs y.link)] := by unfold mkEn; rw [Int.natCast_add, hy.out]; rfl
              have hbW := (Below.refl w1.heap.size w1).alloc (Nat.le_refl _) (.cells #[.string (bs y.path), .int .i64 y.kind, .int .i64 y.mode, .string (bs y.data), .string (bs y.link)] 38)
              have hpW := (hp.out.below hb1).below hbW
              obtain ⟨col3, hp3'⟩ := hpW.app (by simp; omega) mkEn_len hxq (by rw [hCx.out, hmk]; exact hown2) (by rw [HHx.out]; exact hs2)
              have hgr := Ak.split_grown hs2
              have hgsW := own_below (own_below hgs hb1) hbW
              have hLW : (w1.alloc (.cells #[.string (bs y.path), .int .i64 y.kind, .int .i64 y.mode, .string (bs y.data), .string (bs y.link)] 38)).heap[bls]? = some (.cells cls 22 (0, 0)) := (hbW.block bls (by omega)).trans ((hb1.block bls hbl2).trans hL.out)
              go_roundw
              case rel =>
                refine ⟨p + 1, _, _, col3, by omega, by go_num, ?_, Lib.hid hp3', Lib.hid ?_, Lib.hid ?_, Lib.hid ?_, ?_, Lib.hid ?_, Lib.hid ?_⟩
                · rw [if_pos rfl]
                · intro j hj
                  rw [if_neg (by omega)]
                  exact hC1.out j hj
                · rw [if_pos rfl, hCx.out]; rfl
                · intro j hj
                  rw [if_neg (by omega), if_neg (by omega)]
                  exact hC2.out j hj
                · have he : (List.range x).map (fun j => if j = x then v1 else H j) = (List.range x).map H := by
                    refine List.map_congr_left fun j hj => ?_
                    rw [if_neg (by have := List.mem_range.1 hj; omega)]
                  rw [he]
                  refine hgsW.kept hgr ?_
                  rw [← HHx.out]
                  exact Ak.own_ne hgsW (hpW x hxq).1 (by decide)
                · refine ((hB.out.below hb1).below hbW).grown hgr (fun b hb => ?_)
                  rw [← HHx.out] at hb
                  rcases (hp.out x hxq).2.2.2.2.2.2 b hb with h | h
                  · exact .inl h
                  · exact .inr ⟨x, hxq, h⟩
                · rw [hgr.block bls (by simp; omega) (by rw [← HHx.out]; exact Ak.blk_ne (hpW x hxq).1 hLW (by decide))]
                  exact hLW
              case measure => simp [intOf]; omega
            · obtain rfl : p = 64 := by omega
              have hd : decide ((64 : Int) < 64) = false := by decide
              go_wp2_with ((at_builtin; refine Ak.wpList_app_split rfl _ _ _ rfl slicesE _ _ _ _ rfl (hgs.alloc _) _ _ _ _ rfl rfl (news_alloc _ _ _) (one_of_all rfl) (by omega) (by omega) (by simp; omega) (by omega) ?_; intro v1 w2 hown2 hs2))
              have hbW := (Below.refl wr.heap.size wr).alloc (Nat.le_refl _) (.cells #[.slice Ag (N x + 64) cg] 22)
              have hpW := hp.out.below hbW
              have hgsW := own_below hgs hbW
              have hgr : (wr.alloc (.cells #[.slice Ag (N x + 64) cg] 22)).grownBy w2 u5.ownBlock := Ak.split_grown hs2
              have hLW : (wr.alloc (.cells #[.slice Ag (N x + 64) cg] 22)).heap[bls]? = some (.cells cls 22 (0, 0)) := (hbW.block bls hbl2).trans hL.out
              have HHx := Lib.hid hHx
              clear hHx
              go_roundw
              case rel =>
                refine ⟨x + 1, H, C, col2, by omega, by go_num, Lib.hid ?_, Lib.hid ?_, Lib.hid ?_, ?_, Lib.hid ?_, Lib.hid ?_⟩
                · refine hpW.grown hgr (fun j hj => ⟨Ak.own_ne (hpW j hj).1 hgsW (by decide), ?_⟩)
                  by_cases hn : (V j).ownBlock = none
                  · exact .inl hn
                  · right
                    intro he
                    obtain ⟨b, hb⟩ := Option.ne_none_iff_exists'.1 hn
                    have c1 := HVB.out j hj b hb
                    have c2 := (hgsW.lt b (by rw [← he]; exact hb)).1
                    omega
                · intro j hj
                  by_cases hjx : j = x
                  · subst hjx; rw [hCx.out]
                  · exact hC1.out j (by omega)
                · intro j hj
                  exact hC2.out j (by omega)
                · rw [List.range_succ, List.map_append, List.map_cons, List.map_nil, HHx.out]
                  exact hown2
                · exact (hB.out.below hbW).grown hgr (fun b hb => .inl (hgsW.lt b hb).1)
                · rw [hgr.block bls (by simp; omega) (fun he => by have c2 := (hgsW.lt bls he.symm).1; omega)]
                  exact hLW
              case measure => simp [intOf]; omega
        · obtain rfl : x = q := by omega
          have HCs : Hid (∀ j, j < x → C j = N j + 64) := hC1
          have hszw : w.heap.size ≤ wr.heap.size := hB.out.size
          go_wp2_with fail
          go_loopw [9] (fun k w2 => ∃ y : Nat, y ≤ x ∧ k = .int .i64 y ∧ Hid (Ak.P2 base w.heap.size 38 5 x V N mkEn col2 H C w2) ∧ w2.ownsRow w.heap.size 22 1 u5 x ((List.range x).map H) ∧ Hid (Ak.Fr x V w w2) ∧ Hid (w2.heap[bls]? = some (.cells cls 22 (0, 0)))) (fun k _ => x - (intOf k).toNat)
          case atStart => exact ⟨0, by omega, rfl, hp, hgs, hB, hL⟩
          case round =>
            clear hp hgs hB hL hszw
            obtain ⟨y, hy, rfl, hp, hgs, hB, hL⟩ := hrel
            obtain ⟨wq, rfl⟩ : ∃ wq : World, wq = wr := ⟨_, rfl⟩
            by_cases hyx : y < x
            · have hy1 : (0 : Int) ≤ (y : Int) := by omega
              have hy2 : (y : Int) < (x : Int) := by omega
              have hy3 : (y : Int) ≤ 1000000 := by omega
              obtain ⟨g5, c5, hu5, hg5, hlt5⟩ := hgs.form (by omega)
              have hc5 : x ≤ c5 := by
                rcases hgs.2 with ⟨h', h''⟩ | ⟨g', cap', cur, h', _, _, hn, _⟩
                · omega
                · rw [hu5] at h'
                  simp only [Value.slice.injEq] at h'
                  omega
              subst hu5
              have hownx := (hp.out y hyx).1
              rw [HCs.out y hyx] at hownx
              obtain ⟨g6, c6, hHy, _, hlt6⟩ := hownx.form (by omega)
              rw [hHy] at hownx
              obtain ⟨A, cq, hV⟩ := hp.out.form hyx
              have hbl2 : bls < wq.heap.size := (Array.getElem?_eq_some_iff.1 hL.out).1
              have HF : Hid (∀ w2, Below wq.heap.size wq w2 → w2.cell? ⟨bls, off + y, none⟩ = some (.slice A (N y) cq) ∧ w2.cell? ⟨g5, y, none⟩ = some (.slice (some ⟨g6, 0, none⟩) (N y + 64) c6)) := Lib.hid (by
                intro w2 hb2
                refine ⟨(hb2.cell (p := ⟨bls, off + y, none⟩) hbl2).trans (by rw [cell_of_row wq bls (off + y) cls _ (0, 0) hL.out, HC.out y hyx, hV]), (hb2.cell (p := ⟨g5, y, none⟩) hlt5).trans ?_⟩
                rw [hgs.cellAt y (by omega)]
                simp [hyx, hHy])
              have HF2 : Hid (∀ w2, Below wq.heap.size wq w2 → ∀ i, i < N y + 64 → ∀ r, r < 5 → w2.cell? ⟨g6, i * 5 + r, none⟩ = (mkEn y i)[r]?) := Lib.hid (by
                intro w2 hb2 i hi r hr
                refine (hb2.cell (p := ⟨g6, i * 5 + r, none⟩) hlt6).trans ?_
                rw [hownx.cellAt _ (by omega), Ak.marks_get mkEn_len _ _ _ _ hi hr])
              have HF3 : Hid (∀ w2, Below wq.heap.size wq w2 → ∀ i, i < N y → ∃ b, A = some ⟨b, 0, none⟩ ∧ ∀ r, r < 5 → w2.cell? ⟨b, i * 5 + r, none⟩ = (mkEn y i)[r]?) := Lib.hid (by
                intro w2 hb2 i hi
                obtain ⟨_, _, _, hat, hvb, hform, _⟩ := hp.out y hyx
                rcases hform with ⟨_, h0⟩ | ⟨b, c, hVb⟩
                · omega
                · rw [hV] at hVb
                  simp only [Value.slice.injEq] at hVb
                  refine ⟨b, hVb.1, fun r hr => ?_⟩
                  have hg := Ak.marks_get mkEn_len y (N y) i r hi hr
                  have hsome : (mkEn y i)[r]? = some ((mkEn y i)[r]'(by rw [mkEn_len]; exact hr)) := List.getElem?_eq_getElem _
                  rw [hsome] at hg ⊢
                  obtain ⟨b2, e1, e2⟩ := hat _ _ hg
                  have hvv : (V y).ownBlock = some b := by rw [hV, hVb.1]; rfl
                  rw [hvv] at e1
                  obtain rfl := Option.some.inj e1
                  exact (hb2.cell (p := ⟨b, i * 5 + r, none⟩) (hvb b hvv).2).trans e2)
              have hNy : N y ≤ 1000000 := HN.out y hyx
              clear hHy hV hownx
              have hcells0 := HF.out wq (Below.refl _ _)
              obtain ⟨hcl0, hcl1⟩ := hcells0
              go_wp2_with fail
              go_loopw [10] (fun i w2 => ∃ p : Nat, p ≤ N y + 64 ∧ i = .int .i64 p ∧ Below wq.heap.size wq w2) (fun i _ => N y + 64 - (intOf i).toNat)
              case atStart => exact ⟨0, by omega, rfl, Below.refl _ _⟩
              case round =>
                obtain ⟨p, hp1, rfl, hbw⟩ := hrel
                clear hcl0 hcl1
                obtain ⟨hcl0, hcl1⟩ := HF.out wr hbw
                have hp2 : (0 : Int) ≤ (p : Int) := by omega
                by_cases hpn : p < N y + 64
                · have hp3 : (p : Int) < (N y : Int) + 64 := by omega
                  obtain ⟨m0, hm0⟩ : ∃ m0, Hid (mkE (y : Int) (p : Int) = m0) := ⟨_, Lib.hid rfl⟩
                  have HMK : Hid (mkEn y p = [.string (bs m0.path), .int .i64 m0.kind, .int .i64 m0.mode, .string (bs m0.data), .string (bs m0.link)]) := Lib.hid (by unfold mkEn; rw [hm0.out]; rfl)
                  have xn : ∀ wz, (binOp .neq 38 (.agg (enC m0)) (.agg (enC m0))).run Tryz.prog wz = .ok (.bool false) wz := fun wz => by rw [run_neq_en, enEq_iff]; simp
                  unfold enC at xn
                  go_upto_region 25 with (first | (go_at_call 33; refine (markEn_hid _ _ hy1 hy3 _ hm0).mono ?_; rintro e w1 ⟨rfl, hb1⟩; have hbw1 := below_of_below hbw hb1 hbw.size) | (refine wpList_store_en rfl _ _ rfl w1.heap.size m0 rfl rfl _ (Blk.new _ _ _) rfl ?_; intro w3 hB3 hb3 hz3; have hbw3 := below_of_below hbw1 (((Below.refl _ _).alloc (Nat.le_refl _) _).trans hb3) hbw1.size))
                  obtain ⟨e0, e1⟩ := HF.out w3 hbw3
                  have hd := HF2.out w3 hbw3 p hpn
                  rw [HMK.out] at hd
                  have d0 : w3.cell? ⟨g6, p * 5, none⟩ = some (.string (bs m0.path)) := hd 0 (by omega)
                  have d1 : w3.cell? ⟨g6, p * 5 + 1, none⟩ = some (.int .i64 m0.kind) := hd 1 (by omega)
                  have d2 : w3.cell? ⟨g6, p * 5 + 2, none⟩ = some (.int .i64 m0.mode) := hd 2 (by omega)
                  have d3 : w3.cell? ⟨g6, p * 5 + 3, none⟩ = some (.string (bs m0.data)) := hd 3 (by omega)
                  have d4 : w3.cell? ⟨g6, p * 5 + 4, none⟩ = some (.string (bs m0.link)) := hd 4 (by omega)
                  have f0 : w3.cell? ⟨w1.heap.size, 0, none⟩ = some (.string (bs m0.path)) := hB3.cell 0
                  have f1 : w3.cell? ⟨w1.heap.size, 1, none⟩ = some (.int .i64 m0.kind) := hB3.cell 1
                  have f2 : w3.cell? ⟨w1.heap.size, 2, none⟩ = some (.int .i64 m0.mode) := hB3.cell 2
                  have f3 : w3.cell? ⟨w1.heap.size, 3, none⟩ = some (.string (bs m0.data)) := hB3.cell 3
                  have f4 : w3.cell? ⟨w1.heap.size, 4, none⟩ = some (.string (bs m0.link)) := hB3.cell 4
                  clear hd hcl0 hcl1 hB3 hb3 hz3 hb1 hbw1
                  simp only [Act.put]
                  by_cases hpN : p < N y
                  · have hp4 : (p : Int) < (N y : Int) := by omega
                    have hd : decide ((p : Int) < (N y : Int)) = true := by simpa using hpN
                    obtain ⟨b, rfl, hd2⟩ := HF3.out w3 hbw3 p hpN
                    rw [HMK.out] at hd2
                    have g0 : w3.cell? ⟨b, p * 5, none⟩ = some (.string (bs m0.path)) := hd2 0 (by omega)
                    have g1 : w3.cell? ⟨b, p * 5 + 1, none⟩ = some (.int .i64 m0.kind) := hd2 1 (by omega)
                    have g2 : w3.cell? ⟨b, p * 5 + 2, none⟩ = some (.int .i64 m0.mode) := hd2 2 (by omega)
                    have g3 : w3.cell? ⟨b, p * 5 + 3, none⟩ = some (.string (bs m0.data)) := hd2 3 (by omega)
                    have g4 : w3.cell? ⟨b, p * 5 + 4, none⟩ = some (.string (bs m0.link)) := hd2 4 (by omega)
                    clear hd2
                    go_cut [112] (fun s112 wx => s112 = .bool false ∧ Below wq.heap.size wq wx)
                    case first =>
                      go_quiet (fail)
                      go_wp2_with fail
                      go_meet
                      exact ⟨rfl, by first | exact hbw3 | exact below_drewN hbw3 _⟩
                    case rest =>
                      obtain ⟨rfl, hbx⟩ := hcut
                      clear d0 d1 d2 d3 d4 f0 f1 f2 f3 f4 g0 g1 g2 g3 g4 e0 e1 xn
                      go_wp2_with fail
                      go_roundw
                      case rel => exact ⟨p + 1, by omega, by go_num, hbx⟩
                      case measure => simp [intOf]; omega
                  · have hd : decide ((p : Int) < (N y : Int)) = false := by simp; omega
                    go_cut [112] (fun s112 wx => s112 = .bool false ∧ Below wq.heap.size wq wx)
                    case first =>
                      go_quiet (fail)
                      go_wp2_with fail
                      go_meet
                      exact ⟨rfl, by first | exact hbw3 | exact below_drewN hbw3 _⟩
                    case rest =>
                      obtain ⟨rfl, hbx⟩ := hcut
                      clear d0 d1 d2 d3 d4 f0 f1 f2 f3 f4 e0 e1 xn
                      go_wp2_with fail
                      go_roundw
                      case rel => exact ⟨p + 1, by omega, by go_num, hbx⟩
                      case measure => simp [intOf]; omega
                · obtain rfl : p = N y + 64 := by omega
                  have hd : decide ((N y : Int) + 64 < (N y : Int) + 64) = false := by simp
                  go_wp2_with fail
                  go_roundw
                  case rel => exact ⟨y + 1, by omega, by go_num, Lib.hid (hp.out.below hbw), own_below hgs hbw, Lib.hid (hB.out.below hbw), Lib.hid (by rw [hbw.block bls (Array.getElem?_eq_some_iff.1 hL.out).1]; exact hL.out)⟩
                  case measure => simp [intOf]; omega
            · go_wp2_with fail
              go_ret
              exact ⟨rfl, hB.out⟩
end Go.Proofs.YtdjfakampjbgeaaGreatDoor
