/- stratakit.ApartTexts, walked: of lists of texts that have rows of their own it says yes. -/
import Derived.Test.YtkbigejknkamiaaDoorApart0
import Derived.Test.YtkbigejknkamiaaDoorDkS
import Derived.Deep.RegionHeld3
import Derived.Deep.RegionLaw
import Derived.Deep.RegionWith
namespace Go.Proofs.YtkbigejknkamiaaDoor
open Go.RowKit

/-- the mark of a place. -/
def markS (k i : Int) : ByteArray := strOfNums [35, k % 256, k / 256 % 256, i % 256, i / 256 % 256]
theorem cells_nums (w : World) (e : TypeId) (xs : List Int) : ∀ i, i < xs.length → (w.alloc (.cells (xs.map (Value.int .u8)).toArray e)).cell? ⟨w.heap.size, 0 + i, none⟩ = some (.int .u8 (xs.getD i 0)) := by
  intro i hi
  have := news_alloc w (xs.map (Value.int .u8)) e i (.int .u8 (xs.getD i 0)) (by simp [List.getD, hi])
  rwa [Addr.add_lit] at this
set_option maxRecDepth 100000 in
theorem markText_any (k i : Int) (w : World) :
    Calls Tryd.prog 23 #[.int .i64 k, .int .i64 i] w fun e w' => e = .returned (.string (markS k i)) ∧ Below w.heap.size w w' := by
  have hcv := run_convert_bytes_arg (P := Tryd.prog) (w.alloc (.cells #[.int .u8 35, .int .u8 (k % 256), .int .u8 (k / 256 % 256), .int .u8 (i % 256), .int .u8 (i / 256 % 256)] 5)) 48 5 Tryd.underlying48 Tryd.underlying5 w.heap.size 0 5 5 [35, k % 256, k / 256 % 256, i % 256, i / 256 % 256] rfl (cells_nums w _ [35, k % 256, k / 256 % 256, i % 256, i / 256 % 256]) 9 Tryd.underlying9
  go_enter Tryd.func23, Tryd.ntmps23
  go_wp2_with fail
  go_ret
  exact ⟨rfl, (Below.refl _ _).alloc (Nat.le_refl _) _⟩
theorem markTexts_any (k i : Int) (w : World) :
    Calls Tryd.prog 15 #[.int .i64 k, .int .i64 i] w fun e w' => e = .returned (.string (markS k i)) ∧ Below w.heap.size w w' := by
  go_enter Tryd.func15, Tryd.ntmps15
  go_wp2_with (go_at_call 23; refine (markText_any _ _ _).mono ?_; rintro e w1 ⟨rfl, hb1⟩)
  go_ret
  exact ⟨rfl, hb1⟩
def mkT (k i : Nat) : Value := .string (markS k i)

/-- the slice's address. -/
def addrOf (v : Value) : Option Addr := match v with | .slice A _ _ => A | _ => none
theorem strSliceA : ElemT Tryd.prog 22 9 (.string ⟨#[]⟩) 16 := ⟨Tryd.underlying22, by kernel_rfl, rfl⟩
theorem sliceSliceA : ElemT Tryd.prog 32 22 (.slice none 0 0) 24 := ⟨Tryd.underlying32, by kernel_rfl, rfl⟩

set_option maxRecDepth 100000 in
set_option maxHeartbeats 8000000 in
theorem apart_any (base m c bls off : Nat) (cls : Array Value) (V : Nat → Value) (N : Nat → Nat) (X : Nat → List Value) (col : Nat → Nat) (w : World)
    (h0 : ∀ j, j < m → w.ownsRow base 9 1 (V j) (N j) (X j) ∧ ∀ b, (V j).ownBlock = some b → col b = j) (hX : ∀ j, j < m → (X j).length = N j)
    (hls : w.heap[bls]? = some (.cells cls 22 (0, 0))) (hcl : ∀ j, j < m → cls[off + j]? = some (V j)) (hm : m ≤ 1000) (hmc : m ≤ c) (hN : ∀ j, j < m → N j ≤ 1000000000) (hbase : base ≤ w.heap.size) :
    Calls Tryd.prog 8 #[.slice (some ⟨bls, off, none⟩) m c] w fun e w' => e = .returned (.bool true) ∧ Below base w w' := by
  have hbl : bls < w.heap.size := (Array.getElem?_eq_some_iff.1 hls).1
  have HX := Lib.hid hX
  have HC := Lib.hid hcl
  have HN := Lib.hid hN
  have HP := Lib.hid (Ap.P1.start (mk := mkT) h0)
  have HVB : Hid (∀ j, j < m → ∀ b, (V j).ownBlock = some b → b < w.heap.size) := fun j hj b hb => ((h0 j hj).1.lt b hb).2
  have HL := Lib.hid hls
  clear h0 hX hcl hN hls
  go_enter Tryd.func8, Tryd.ntmps8
  go_wp2_with fail
  go_loopw [3] (fun k wr => ∃ q : Nat, q ≤ m ∧ k = .int .i64 q ∧ Hid (Ap.P1 base 9 m V N mkT X col q 0 wr) ∧ Below base w wr ∧ Hid (wr.heap[bls]? = some (.cells cls 22 (0, 0)))) (fun k _ => m - (intOf k).toNat)
  case atStart => exact ⟨0, by omega, rfl, HP, Below.refl _ _, HL⟩
  case round =>
    obtain ⟨q, hq, rfl, hp, hbel, hl⟩ := hrel
    clear HP
    by_cases hqm : q < m
    · have hq1 : (0 : Int) ≤ (q : Int) := by omega
      have hq2 : (q : Int) < (m : Int) := by omega
      go_wp2_with fail
      go_loopw [4] (fun i w2 => ∃ p : Nat, p ≤ N q ∧ i = .int .i64 p ∧ Hid (Ap.P1 base 9 m V N mkT X col q p w2) ∧ Below base w w2 ∧ Hid (w2.heap[bls]? = some (.cells cls 22 (0, 0)))) (fun i _ => N q - (intOf i).toNat)
      case atStart => exact ⟨0, by omega, rfl, hp, hbel, hl⟩
      case round =>
        obtain ⟨p, hpN, rfl, hP, hB, hL⟩ := hrel
        clear hp hbel hl HL
        have hsz := hB.size
        obtain ⟨A, cq, hV⟩ := hP.out.form hqm
        have hcell : wr.cell? ⟨bls, off + q, none⟩ = some (.slice A (N q) cq) := by rw [cell_of_row wr bls (off + q) cls _ (0, 0) hL.out, HC.out q hqm, hV]
        have hNq : N q ≤ 1000000000 := HN.out q hqm
        by_cases hpq : p < N q
        · obtain ⟨b, c2, u, hV2, hbb, hblt, hc2, hcu, hfu⟩ := hP.out.at_ hqm hpq (HX.out q hqm)
          obtain ⟨rfl, rfl⟩ : A = some ⟨b, 0, none⟩ ∧ cq = c2 := by
            rw [hV] at hV2
            simp only [Value.slice.injEq] at hV2
            exact ⟨hV2.1, hV2.2.2⟩
          have HV2 := Lib.hid hV2
          have HS : Hid (∀ w1, Below wr.heap.size wr w1 → w1.cell? ⟨b, p, none⟩ = some u ∧ w1.frozen? ⟨b, p, none⟩ = false) := fun w1 hb1 =>
            ⟨(hb1.cell (p := ⟨b, p, none⟩) hblt).trans hcu, (hb1.frozen (p := ⟨b, p, none⟩) hblt).trans hfu⟩
          have hbl2 : bls < wr.heap.size := (Array.getElem?_eq_some_iff.1 hL.out).1
          have hneb : bls ≠ b := by
            intro he
            have h1 := Ap.blk_ne (hP.out q hqm).1 hL.out (by decide)
            rw [hV2] at h1
            exact h1 (by rw [he]; rfl)
          have hne : (⟨b, p, none⟩ : Addr) ≠ ⟨bls, off + q, none⟩ := by
            intro he
            simp only [Addr.mk.injEq] at he
            exact hneb he.1.symm
          clear hV hV2 hcu hfu
          have hp1 : (0 : Int) ≤ (p : Int) := by omega
          have hp2 : (p : Int) < (N q : Int) := by omega
          go_wp2_with fail
          go_region_held3 (fun w' => w'.cell? ⟨bls, off + q, none⟩ = some (.slice (some ⟨b, 0, none⟩) (N q) cq)) (first | exact hcell1 | assumption | exact (World.cell?_setCell_other _ _ _ _ hne).trans hcell1) (first | (go_at_call 15; refine (markTexts_any _ _ _).mono ?_; rintro e w1 ⟨rfl, hb0⟩; have hb1 : Below wr.heap.size wr w1 := (Below.refl _ _).drew.trans hb0; have hcell1 := (hb1.cell (p := ⟨bls, off + q, none⟩) hbl2).trans hcell; obtain ⟨hcu, hfu⟩ := HS.out w1 hb1))
          go_wp2_with fail
          go_roundw
          case rel =>
            refine ⟨p + 1, by omega, by go_num, ?_, ?_, ?_⟩
            · exact (hP.out.below hb1).store hqm hpq (HX.out q hqm) HV2.out
            · exact (below_of_below hB hb1 (Nat.le_trans hbase hB.size)).setCell hbb _
            · show _ = _
              rw [Below.heap_setCell _ _ _ _ hneb]
              exact (hb1.block bls hbl2).trans hL.out
          case measure => simp [intOf]; omega
        · obtain rfl : p = N q := by omega
          have hd : decide ((N q : Int) < (N q : Int)) = false := by simp
          go_wp2_with fail
          go_roundw
          case rel => exact ⟨q + 1, by omega, by go_num, hP.out.next HX.out, hB, hL⟩
          case measure => simp [intOf]; omega
    · obtain rfl : q = m := by omega
      have hsz := hbel.size
      have HP2 := Lib.hid (Ap.P2.start hp.out (Nat.le_refl _))
      clear hp HL
      go_wp2_with fail
      go_loopw [5, 6] (fun gs k wr => ∃ (x : Nat) (H : Nat → Value) (C : Nat → Nat) (col2 : Nat → Nat), x ≤ q ∧ k = .int .i64 x ∧ Hid (Ap.P2 base 9 q V N mkT col2 H C wr) ∧ Hid (∀ j, j < x → C j = N j + 64) ∧ Hid (∀ j, x ≤ j → H j = V j ∧ C j = N j) ∧
          wr.ownsRow w.heap.size 22 1 gs x ((List.range x).map H) ∧ Below base w wr ∧ Hid (wr.heap[bls]? = some (.cells cls 22 (0, 0)))) (fun _ k _ => q - (intOf k).toNat)
      case atStart => exact ⟨0, V, N, col, by omega, rfl, HP2, fun j hj => by omega, fun j _ => ⟨rfl, rfl⟩, World.ownsRow_nil _ _ _ _, hbel, hl⟩
      case round =>
        obtain ⟨x, H, C, col2, hx, rfl, hp, hC1, hC2, hgs, hB, hL⟩ := hrel
        clear HP2 hbel hl
        by_cases hxq : x < q
        · have hx1 : (0 : Int) ≤ (x : Int) := by omega
          have hx2 : (x : Int) < (q : Int) := by omega
          obtain ⟨A, cq, hV⟩ := (hp.out x hxq).2.2.2.2.2.1
          have hcell : wr.cell? ⟨bls, off + x, none⟩ = some (.slice A (N x) cq) := by rw [cell_of_row wr bls (off + x) cls _ (0, 0) hL.out, HC.out x hxq, hV]
          have hVH : H x = .slice A (N x) cq := by rw [(hC2.out x (Nat.le_refl _)).1, hV]
          have hNx : N x ≤ 1000000000 := HN.out x hxq
          go_wp2_with fail
          go_loopw [7, 8] (fun g i w2 => ∃ (p : Nat) (H : Nat → Value) (C : Nat → Nat) (col2 : Nat → Nat), p ≤ 64 ∧ i = .int .i64 p ∧ g = H x ∧ Hid (Ap.P2 base 9 q V N mkT col2 H C w2) ∧ Hid (∀ j, j < x → C j = N j + 64) ∧ Hid (C x = N x + p) ∧ Hid (∀ j, x < j → H j = V j ∧ C j = N j) ∧
              w2.ownsRow w.heap.size 22 1 u5 x ((List.range x).map H) ∧ Below base w w2 ∧ Hid (w2.heap[bls]? = some (.cells cls 22 (0, 0)))) (fun _ i _ => 64 - (intOf i).toNat)
          case atStart => exact ⟨0, H, C, col2, by omega, rfl, hVH.symm, hp, hC1, by show _ = _; rw [(hC2.out x (Nat.le_refl _)).2]; rfl, fun j hj => hC2.out j (by omega), hgs, hB, hL⟩
          case round =>
            clear hp hC1 hC2 hgs hB hL hVH hcell H C col2
            obtain ⟨p, H, C, col2, hp64, rfl, rfl, hp, hC1, hCx, hC2, hgs, hB, hL⟩ := hrel
            have hcell : wr.cell? ⟨bls, off + x, none⟩ = some (.slice A (N x) cq) := by rw [cell_of_row wr bls (off + x) cls _ (0, 0) hL.out, HC.out x hxq, hV]
            have hbl2 : bls < wr.heap.size := (Array.getElem?_eq_some_iff.1 hL.out).1
            have hbsz : base ≤ wr.heap.size := Nat.le_trans hbase hB.size
            have hszw : w.heap.size ≤ wr.heap.size := hB.size
            have hownx := (hp.out x hxq).1
            rw [hCx.out] at hownx
            obtain ⟨Ag, cg, hHx⟩ := own_form hownx
            have HV := Lib.hid hV
            clear hV
            by_cases hp2 : p < 64
            · have hp3 : (p : Int) < 64 := by omega
              rw [hHx] at hownx
              rw [hHx]
              have HHx := Lib.hid hHx
              clear hHx
              go_wp2_with (first | (go_at_call 15; refine (markTexts_any _ _ _).mono ?_; rintro e w1 ⟨rfl, hb1⟩; have hownW := own_below hownx hb1; have hsz1 := hb1.size) | (at_builtin; refine Ap.wpList_app_split rfl _ _ _ rfl strSliceA _ _ _ _ rfl (hownW.alloc _) _ _ _ _ rfl rfl (news_alloc _ _ _) (one_of_all rfl) (by omega) (by omega) (by simp; omega) (by omega) ?_; intro v1 w2 hown2 hs2))
              have hmk : mkT x (N x + p) = .string (markS (x : Int) ((N x : Int) + (p : Int))) := by unfold mkT; rw [Int.natCast_add]
              have hbW := (Below.refl w1.heap.size w1).alloc (Nat.le_refl _) (.cells #[.string (markS (x : Int) ((N x : Int) + (p : Int)))] 9)
              have hpW := (hp.out.below hb1).below hbW
              obtain ⟨col3, hp3'⟩ := hpW.app hxq (by rw [hCx.out, hmk]; exact hown2) (by rw [HHx.out]; exact hs2)
              have hgr := Ap.split_grown hs2
              have hgsW := own_below (own_below hgs hb1) hbW
              have hLW : (w1.alloc (.cells #[.string (markS (x : Int) ((N x : Int) + (p : Int)))] 9)).heap[bls]? = some (.cells cls 22 (0, 0)) := (hbW.block bls (by omega)).trans ((hb1.block bls hbl2).trans hL.out)
              have hbase1 : base ≤ w1.heap.size := by omega
              go_roundw
              case rel =>
                refine ⟨p + 1, _, _, col3, by omega, by go_num, ?_, hp3', ?_, ?_, ?_, ?_, ?_, ?_⟩
                · rw [if_pos rfl]
                · intro j hj
                  rw [if_neg (by omega)]
                  exact hC1.out j hj
                · show _ = _
                  rw [if_pos rfl, hCx.out]; rfl
                · intro j hj
                  rw [if_neg (by omega), if_neg (by omega)]
                  exact hC2.out j hj
                · have he : (List.range x).map (fun j => if j = x then v1 else H j) = (List.range x).map H := by
                    refine List.map_congr_left fun j hj => ?_
                    rw [if_neg (by have := List.mem_range.1 hj; omega)]
                  rw [he]
                  refine hgsW.kept hgr ?_
                  rw [← HHx.out]
                  exact Ap.own_ne hgsW (hpW x hxq).1 (by decide)
                · refine ((hB.trans (hb1.mono hbsz)).trans (hbW.mono hbase1)).grown hgr (by simp; omega) (fun b hb => ?_)
                  rw [← HHx.out] at hb
                  exact ((hp.out x hxq).1.lt b hb).1
                · show _ = _
                  rw [hgr.block bls (by simp; omega) (by rw [← HHx.out]; exact Ap.blk_ne (hpW x hxq).1 hLW (by decide))]
                  exact hLW
              case measure => simp [intOf]; omega
            · obtain rfl : p = 64 := by omega
              have hd : decide ((64 : Int) < 64) = false := by decide
              go_wp2_with ((at_builtin; refine Ap.wpList_app_split rfl _ _ _ rfl sliceSliceA _ _ _ _ rfl (hgs.alloc _) _ _ _ _ rfl rfl (news_alloc _ _ _) (one_of_all rfl) (by omega) (by omega) (by simp; omega) (by omega) ?_; intro v1 w2 hown2 hs2))
              have hbW := (Below.refl wr.heap.size wr).alloc (Nat.le_refl _) (.cells #[.slice Ag (N x + 64) cg] 22)
              have hpW := hp.out.below hbW
              have hgsW := own_below hgs hbW
              have hgr : (wr.alloc (.cells #[.slice Ag (N x + 64) cg] 22)).grownBy w2 u5.ownBlock := Ap.split_grown hs2
              have hLW : (wr.alloc (.cells #[.slice Ag (N x + 64) cg] 22)).heap[bls]? = some (.cells cls 22 (0, 0)) := (hbW.block bls hbl2).trans hL.out
              have HHx := Lib.hid hHx
              clear hHx
              go_roundw
              case rel =>
                refine ⟨x + 1, H, C, col2, by omega, by go_num, ?_, ?_, ?_, ?_, ?_, ?_⟩
                · refine hpW.grown hgr (fun j hj => ⟨Ap.own_ne (hpW j hj).1 hgsW (by decide), ?_⟩)
                  by_cases hn : (V j).ownBlock = none
                  · exact .inl hn
                  · right
                    intro he
                    obtain ⟨b, hb⟩ := Option.ne_none_iff_exists'.1 hn
                    have c1 := HVB.out j hj b hb
                    have c2 := (hgsW.lt b (by rw [← he]; exact hb)).1
                    omega
                · intro j hj
                  by_cases hjx : j = x
                  · subst hjx; rw [hCx.out]
                  · exact hC1.out j (by omega)
                · intro j hj
                  exact hC2.out j (by omega)
                · rw [List.range_succ, List.map_append, List.map_cons, List.map_nil, HHx.out]
                  exact hown2
                · refine ((hB.trans (hbW.mono hbsz))).grown hgr (by simp; omega) (fun b hb => ?_)
                  have c2 := (hgsW.lt b hb).1
                  omega
                · show _ = _
                  rw [hgr.block bls (by simp; omega) (fun he => by have c2 := (hgsW.lt bls he.symm).1; omega)]
                  exact hLW
              case measure => simp [intOf]; omega
        · obtain rfl : x = q := by omega
          have HCs : Hid (∀ j, j < x → C j = N j + 64) := hC1
          have hszw : w.heap.size ≤ wr.heap.size := hB.size
          go_wp2_with fail
          go_loopw [9] (fun k w2 => ∃ y : Nat, y ≤ x ∧ k = .int .i64 y ∧ Hid (Ap.P2 base 9 x V N mkT col2 H C w2) ∧ w2.ownsRow w.heap.size 22 1 u5 x ((List.range x).map H) ∧ Below base w w2 ∧ Hid (w2.heap[bls]? = some (.cells cls 22 (0, 0)))) (fun k _ => x - (intOf k).toNat)
          case atStart => exact ⟨0, by omega, rfl, hp, hgs, hB, hL⟩
          case round =>
            clear hp hgs hB hL hszw
            obtain ⟨y, hy, rfl, hp, hgs, hB, hL⟩ := hrel
            obtain ⟨wq, rfl⟩ : ∃ wq : World, wq = wr := ⟨_, rfl⟩
            by_cases hyx : y < x
            · have hy1 : (0 : Int) ≤ (y : Int) := by omega
              have hy2 : (y : Int) < (x : Int) := by omega
              obtain ⟨g5, c5, hu5, hg5, hlt5⟩ := hgs.form (by omega)
              have hc5 : x ≤ c5 := by
                rcases hgs.2 with ⟨h', h''⟩ | ⟨g', cap', cur, h', _, _, hn, _⟩
                · omega
                · rw [hu5] at h'
                  simp only [Value.slice.injEq] at h'
                  omega
              subst hu5
              have hownx := (hp.out y hyx).1
              rw [HCs.out y hyx] at hownx
              obtain ⟨g6, c6, hHy, _, hlt6⟩ := hownx.form (by omega)
              rw [hHy] at hownx
              obtain ⟨A, cq, hV⟩ := (hp.out y hyx).2.2.2.2.2.1
              have HF : Hid (∀ w2, Below wq.heap.size wq w2 → w2.cell? ⟨bls, off + y, none⟩ = some (.slice A (N y) cq) ∧ w2.cell? ⟨g5, y, none⟩ = some (.slice (some ⟨g6, 0, none⟩) (N y + 64) c6)) := by
                intro w2 hb2
                have hbl2 : bls < wq.heap.size := (Array.getElem?_eq_some_iff.1 hL.out).1
                refine ⟨(hb2.cell (p := ⟨bls, off + y, none⟩) hbl2).trans (by rw [cell_of_row wq bls (off + y) cls _ (0, 0) hL.out, HC.out y hyx, hV]), (hb2.cell (p := ⟨g5, y, none⟩) hlt5).trans ?_⟩
                rw [hgs.cellAt y (by omega)]
                simp [hyx, hHy]
              have HF2 : Hid (∀ w2, Below wq.heap.size wq w2 → ∀ i, i < N y + 64 → w2.cell? ⟨g6, i, none⟩ = some (.string (markS (y : Int) (i : Int)))) := by
                intro w2 hb2 i hi
                refine (hb2.cell (p := ⟨g6, i, none⟩) hlt6).trans ?_
                rw [hownx.cellAt i (by omega), Ap.marks_get _ _ _ _ hi]
                rfl
              have HF3 : Hid (∀ w2, Below wq.heap.size wq w2 → ∀ i, i < N y → ∃ b, A = some ⟨b, 0, none⟩ ∧ w2.cell? ⟨b, i, none⟩ = some (.string (markS (y : Int) (i : Int)))) := by
                intro w2 hb2 i hi
                have hrd := (hp.out y hyx).2.2.2.1
                rw [hV] at hrd
                obtain ⟨b, o, u, hA, hblt, hu, hc⟩ := hrd.at_ hi
                have h7 := (hp.out y hyx).2.2.2.2.2.2 b o
                rw [hV] at h7
                obtain ⟨rfl, _⟩ := h7 hA
                refine ⟨b, hA, (hb2.cell (p := ⟨b, i, none⟩) hblt).trans ?_⟩
                rw [Ap.marks_get _ _ _ _ hi] at hu
                rw [Nat.zero_add] at hc
                rw [hc, ← hu]
                rfl
              have hNy : N y ≤ 1000000000 := HN.out y hyx
              clear hHy hV hownx
              have hcells0 := HF.out wq (Below.refl _ _)
              obtain ⟨hcl0, hcl1⟩ := hcells0
              go_wp2_with fail
              go_loopw [10] (fun i w2 => ∃ p : Nat, p ≤ N y + 64 ∧ i = .int .i64 p ∧ Below wq.heap.size wq w2) (fun i _ => N y + 64 - (intOf i).toNat)
              case atStart => exact ⟨0, by omega, rfl, Below.refl _ _⟩
              case round =>
                obtain ⟨p, hp1, rfl, hbw⟩ := hrel
                clear hcl0 hcl1
                obtain ⟨hcl0, hcl1⟩ := HF.out wr hbw
                have hp2 : (0 : Int) ≤ (p : Int) := by omega
                by_cases hpn : p < N y + 64
                · have hp3 : (p : Int) < (N y : Int) + 64 := by omega
                  by_cases hpN : p < N y
                  · have hp4 : (p : Int) < (N y : Int) := by omega
                    have hd : decide ((p : Int) < (N y : Int)) = true := by simpa using hpN
                    obtain ⟨b, rfl, _⟩ := HF3.out wr hbw p hpN
                    have HF4 : Hid (∀ w2, Below wq.heap.size wq w2 → w2.cell? ⟨b, p, none⟩ = some (.string (markS (y : Int) (p : Int)))) := by
                      intro w2 hb2
                      obtain ⟨b', he, hc⟩ := HF3.out w2 hb2 p hpN
                      simp only [Option.some.injEq, Addr.mk.injEq] at he
                      rw [he.1]
                      exact hc
                    go_wp2_with (go_at_call 15; refine (markTexts_any _ _ _).mono ?_; rintro e w1 ⟨rfl, hb1⟩; have hbw1 := below_of_below hbw hb1 hbw.size; obtain ⟨hc0, hc1⟩ := HF.out w1 hbw1; have hc2 := HF2.out w1 hbw1 p hpn; have hc3 := HF4.out w1 hbw1)
                    go_roundw
                    case rel => exact ⟨p + 1, by omega, by go_num, hbw1⟩
                    case measure => simp [intOf]; omega
                  · have hd : decide ((p : Int) < (N y : Int)) = false := by simp; omega
                    go_wp2_with (go_at_call 15; refine (markTexts_any _ _ _).mono ?_; rintro e w1 ⟨rfl, hb1⟩; have hbw1 := below_of_below hbw hb1 hbw.size; obtain ⟨hc0, hc1⟩ := HF.out w1 hbw1; have hc2 := HF2.out w1 hbw1 p hpn; skip)
                    go_roundw
                    case rel => exact ⟨p + 1, by omega, by go_num, hbw1⟩
                    case measure => simp [intOf]; omega
                · obtain rfl : p = N y + 64 := by omega
                  have hd : decide ((N y : Int) + 64 < (N y : Int) + 64) = false := by simp
                  go_wp2_with fail
                  go_roundw
                  case rel => exact ⟨y + 1, by omega, by go_num, hp.out.below hbw, own_below hgs hbw, below_of_below hB hbw (Nat.le_trans hbase hB.size), by show _ = _; rw [hbw.block bls (Array.getElem?_eq_some_iff.1 hL.out).1]; exact hL.out⟩
                  case measure => simp [intOf]; omega
            · go_wp2_with fail
              go_ret
              exact ⟨rfl, hB⟩
end Go.Proofs.YtkbigejknkamiaaDoor
