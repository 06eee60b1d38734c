/- strataref19.Waves, walked. Library calls of graph.Waves: slices.Clone, DeleteFunc, Sort, Compact at numbers. -/
import Derived.Test.YtnlkmljdcmfogaaGreatDoorGwE0
import Derived.Test.YtnlkmljdcmfogaaGreatDoorGwN
import Derived.Test.YtnlkmljdcmfogaaGreatDoorApartK
import Derived.Test.YtnlkmljdcmfogaaGreatDoorCkM0
import Derived.Ground.NamesProg
import Derived.Ground.Names2Prog
import Derived.Ground.SlgfProg
import Derived.Shelf.Slices.Clone
import Derived.Shelf.Slices.CompactI
import Derived.Shelf.SlicesE.DeleteFunc
import Derived.Shelf.Slices.In.SortNone
import Derived.Shelf.Sort.Plain
import Derived.Lib.OwnBridge
import Derived.Test.YtnlkmljdcmfogaaGreatDoorProg
namespace Go.Proofs.YtnlkmljdcmfogaaGreatDoor
open Go Go.RowKit
def toI (l : List Nat) : List Int := l.map fun i : Nat => (i : Int)
theorem toI_len (l : List Nat) : (toI l).length = l.length := by simp [toI]
theorem toI_has (l : List Nat) (i : Nat) : (toI l).contains (i : Int) = l.contains i := by
  rw [Bool.eq_iff_iff, List.contains_iff_mem, List.contains_iff_mem, toI, List.mem_map]
  constructor
  · rintro ⟨a, ha, e⟩
    have : a = i := by omega
    exact this ▸ ha
  · exact fun h => ⟨i, h, rfl⟩
theorem toI_any (l : List Nat) (x : Int) : (toI l).contains x = l.any fun k => (k : Int) == x := by
  rw [Bool.eq_iff_iff, List.contains_iff_mem, toI, List.mem_map, List.any_eq_true]
  constructor
  · rintro ⟨a, ha, e⟩
    exact ⟨a, ha, by rw [e]; exact beq_self_eq_true _⟩
  · rintro ⟨a, ha, e⟩
    exact ⟨a, ha, eq_of_beq e⟩
theorem toI_app (a b : List Nat) : toI (a ++ b) = toI a ++ toI b := by simp [toI]
theorem ready_toI (ns : List Gw.Nd) (dn : List Nat) (i : Nat) (n : Gw.Nd) (h : ns[i]? = some n) : Gw.ready ns dn i = ((n.base :: n.froms).all fun r => !(r.kind == 1) || (toI dn).contains r.stage) := by
  unfold Gw.ready Gw.refs
  rw [h]
  dsimp only
  congr 1
  funext r
  rw [toI_any]
  rfl
def wavesI (ns : List Gw.Nd) (need : List Int) (f : Nat) (dn : List Nat) : List (List Int) := (Gw.waves ns need f dn).map toI
/-- a slice that reads as a list of cells, in a block that is not of X. -/
def SlX (w : World) (X : Nat → Prop) (v : Value) (n : Nat) (xs : List Value) : Prop := ∃ g o c, v = .slice (some ⟨g, o, none⟩) n c ∧ ¬ X g ∧ g < w.heap.size ∧ ∀ (j : Nat) (u : Value), xs[j]? = some u → w.cell? ⟨g, o + j, none⟩ = some u
section
variable {w w' : World} {X X' S : Nat → Prop} {v : Value} {n : Nat} {cs : List Value}
theorem SlX.fx (h : SlX w X v n cs) (k : Fx S w w') (hX : ∀ b, b < w.heap.size → S b ∨ X' b → X b) : SlX w' X' v n cs := by
  obtain ⟨g, o, c, e, hg, hl, hx⟩ := h
  exact ⟨g, o, c, e, fun h2 => hg (hX g hl (.inr h2)), Nat.lt_of_lt_of_le hl k.size, fun j u hu => k.cell (hx j u hu) fun hs => hg (hX g hl (.inl hs))⟩
theorem SlX.sl (h : SlX w X v n cs) : SlA w v n cs := by
  obtain ⟨g, o, c, e, _, _, hx⟩ := h
  exact .inr ⟨g, o, c, e, hx⟩
theorem SlX.own {base k : Nat} {e : TypeId} (h : w.ownsRow base e k v n cs) (hn : 0 < n) (hX : ∀ b, base ≤ b → b < w.heap.size → ¬ X b) : SlX w X v n cs := by
  obtain ⟨g, c, hv, _⟩ := h.form hn
  subst hv
  exact ⟨g, 0, c, rfl, hX g (h.lt g rfl).1 (h.lt g rfl).2, (h.lt g rfl).2, fun j u hu => by have := h.cells (g := g) rfl j u hu; rwa [Addr.add_lit] at this⟩
end
/-- rows of numbers. -/
def WvX (w : World) (X : Nat → Prop) (vs : List Value) (ls : List (List Int)) : Prop := vs.length = ls.length ∧ ∀ (j : Nat) (v : Value) (l : List Int), vs[j]? = some v → ls[j]? = some l → SlX w X v l.length (icC l)
theorem WvX.fx {w w' : World} {X X' S : Nat → Prop} {vs : List Value} {ls : List (List Int)} (h : WvX w X vs ls) (k : Fx S w w') (hX : ∀ b, b < w.heap.size → S b ∨ X' b → X b) : WvX w' X' vs ls := ⟨h.1, fun j v l hv hl => (h.2 j v l hv hl).fx k hX⟩
theorem WvX.nil (w : World) (X : Nat → Prop) : WvX w X [] [] := ⟨rfl, fun j v l hv => by simp at hv⟩
theorem WvX.snoc {w : World} {X : Nat → Prop} {vs : List Value} {ls : List (List Int)} {v : Value} {l : List Int} (h : WvX w X vs ls) (hv : SlX w X v l.length (icC l)) : WvX w X (vs ++ [v]) (ls ++ [l]) := by
  refine ⟨by rw [List.length_append, List.length_append, h.1]; rfl, fun j u m hu hm => ?_⟩
  rcases Nat.lt_or_ge j vs.length with hj | hj
  · rw [List.getElem?_append_left hj] at hu
    rw [List.getElem?_append_left (by rw [← h.1]; exact hj)] at hm
    exact h.2 j u m hu hm
  · rw [List.getElem?_append_right hj] at hu
    rw [List.getElem?_append_right (by rw [← h.1]; exact hj)] at hm
    have h0 : j - vs.length = 0 := by
      have := (List.getElem?_eq_some_iff.1 hu).1
      simp only [List.length_singleton] at this
      omega
    rw [h0] at hu
    rw [show j - ls.length = 0 by rw [← h.1]; exact h0] at hm
    obtain rfl := Option.some.inj hu
    obtain rfl := Option.some.inj hm
    exact hv
/-- a list of rows, to be read. -/
def WvR (w : World) (v : Value) (ls : List (List Int)) : Prop := ∃ vs X, SlA w v ls.length vs ∧ WvX w X vs ls
theorem WvR.new {w w' : World} {v : Value} {ls : List (List Int)} (h : WvR w v ls) (k : Below w.heap.size w w') : WvR w' v ls := by
  obtain ⟨vs, X, h1, h2⟩ := h
  exact ⟨vs, X, h1.new k, h2.fx (S := fun _ => False) (Fx.new k) fun b _ h => h.elim False.elim id⟩
theorem rowsK : ElemK Tryz.prog 47 29 (.slice none 0 0) 1 24 := ⟨Tryz.underlying47, by kernel_rfl, rfl, by decide⟩
/-- a wave, as far as it is looked for. -/
def wvN (ns : List Gw.Nd) (need : List Int) (dn : List Nat) (i : Nat) : List Nat := (List.range i).filter fun j : Nat => need.contains (j : Int) && !dn.contains j && Gw.ready ns dn j
theorem wvN_succ (ns : List Gw.Nd) (need : List Int) (dn : List Nat) (i : Nat) {q : Bool} (hq : (need.contains (i : Int) && !dn.contains i && Gw.ready ns dn i) = q) : wvN ns need dn (i + 1) = if q then wvN ns need dn i ++ [i] else wvN ns need dn i := by
  unfold wvN
  rw [List.range_succ, List.filter_append, List.filter_cons, hq]
  cases q <;> simp
theorem wvN_le (ns : List Gw.Nd) (need : List Int) (dn : List Nat) (i : Nat) : (wvN ns need dn i).length ≤ i := by
  have := (List.filter_sublist (l := List.range i) (p := fun j : Nat => need.contains (j : Int) && !dn.contains j && Gw.ready ns dn j)).length_le
  rw [List.length_range] at this
  exact this
theorem wvN_all (ns : List Gw.Nd) (need : List Int) (dn : List Nat) : wvN ns need dn ns.length = Gw.wave ns need dn := Gw.wave_is.symm
theorem wavesI_stop {ns : List Gw.Nd} {need : List Int} {f : Nat} {dn : List Nat} (h : Gw.wave ns need dn = []) : wavesI ns need f dn = [] := by
  rw [wavesI, Gw.waves_stop h]; rfl
theorem wavesI_go {ns : List Gw.Nd} {need : List Int} {f : Nat} {dn : List Nat} (h : Gw.wave ns need dn ≠ []) : wavesI ns need (f + 1) dn = toI (Gw.wave ns need dn) :: wavesI ns need f (dn ++ Gw.wave ns need dn) := by
  rw [wavesI, Gw.waves, if_neg h]; rfl
set_option maxRecDepth 100000 in
set_option maxHeartbeats 2000000 in
theorem waves19_any (p : PM) (w : World) (hok : p.Ok w) (hn : p.nodes.length ≤ 300) (hnf : ∀ n ∈ p.nodes, n.froms.length ≤ 1050000) (hd : p.need.length ≤ 1050000) {W : List (List Int)} (hW : Hid (wavesI (p.nodes.map NdM.nd) p.need (p.nodes.length + 1) [] = W)) :
    Calls Tryz.prog 17 #[.agg #[p.vn, .int .i64 p.target, p.vd, p.vi]] w fun r w' => (∃ v, r = .returned v ∧ WvR w' v W) ∧ Below w.heap.size w w' := by
  obtain ⟨vn, nodes, target, vd, need, vi, images⟩ := p
  have hcn : NdsA w vn nodes := hok.n
  have hcd : SlA w vd need.length (icC need) := hok.d
  dsimp only at hn hnf hd hW ⊢
  clear hok
  obtain ⟨An, kn, rfl⟩ := hcn.1.form
  obtain ⟨Ad, kd, rfl⟩ := hcd.form
  have HK := Lib.hid (Blk.new w 32 #[.slice An nodes.length kn, .int .i64 target, .slice Ad need.length kd, vi])
  have HB := Lib.hid ((Below.refl w.heap.size w).alloc (Nat.le_refl _) (.cells #[.slice An nodes.length kn, .int .i64 target, .slice Ad need.length kd, vi] 32))
  have HN := Lib.hid (hcn.new HB.out)
  have HD := Lib.hid (hcd.new HB.out)
  have HNF := Lib.hid hnf
  clear hcn hcd hnf
  obtain ⟨w1, hw1⟩ : ∃ y, w.alloc (.cells #[.slice An nodes.length kn, .int .i64 target, .slice Ad need.length kd, vi] 32) = y := ⟨_, rfl⟩
  rw [hw1] at HK HB HN HD
  have HW1 := Lib.hid hw1
  clear hw1
  go_enter Tryz.func17, Tryz.ntmps17
  go_upto_region 1 with fail
  rw [HW1.out]
  clear HW1
  have HP := Lib.hid HK.out.lt
  obtain ⟨P, hP⟩ : ∃ P, w.heap.size = P := ⟨_, rfl⟩
  rw [hP] at HK HP ⊢
  go_wp2_with fail
  go_loopw [3, 4, 5] (fun t3 t4 t5 wr => ∃ (k : Nat) (ls : List (List Int)) (vs : List Value) (dn : List Nat), k ≤ nodes.length + 1 ∧ t5 = .int .i64 (k : Int) ∧ Hid (wr.ownsRow w1.heap.size 29 1 t3 ls.length vs) ∧ Hid (wr.ownsRow w1.heap.size 3 1 t4 (toI dn).length (icC (toI dn))) ∧ Hid (WvX wr (fun b => t3.ownBlock = some b ∨ t4.ownBlock = some b) vs ls) ∧ Hid (ls ++ wavesI (nodes.map NdM.nd) need (nodes.length + 1 - k) dn = W) ∧ Hid (ls.length ≤ k ∧ dn.length ≤ k * 300) ∧ Hid (Below w1.heap.size w1 wr)) (fun _ _ t5 _ => nodes.length + 1 - (intOf t5).toNat)
  case atStart => exact ⟨0, [], [], [], by omega, rfl, Lib.hid (World.ownsRow_nil _ _ _ _), Lib.hid (World.ownsRow_nil _ _ _ _), Lib.hid (WvX.nil _ _), hW, Lib.hid ⟨by simp, by simp⟩, Lib.hid (Below.refl _ _)⟩
  case round =>
    rename World => wr
    clear hW
    obtain ⟨k, ls, vs, dn, hk, rfl, HO3, HO4, HX, HS, HL, HBL⟩ := hrel
    obtain ⟨A3, c3, rfl⟩ := ownk_form HO3.out
    obtain ⟨A4, c4, rfl⟩ := ownk_form HO4.out
    have HK1 := Lib.hid (HK.out.below HBL.out HP.out)
    have HN1 := Lib.hid (HN.out.new HBL.out)
    have HD1 := Lib.hid (HD.out.new HBL.out)
    have HSD := Lib.hid (SlA.own HO4.out)
    have b0 : wr.cell? ⟨P, 0, none⟩ = some (.slice An nodes.length kn) := HK1.out.cell 0
    have j0 : (0 : Int) ≤ (k : Int) := by omega
    rcases Nat.lt_or_ge k (nodes.length + 1) with hkn | hkn
    · have i0 : decide ((k : Int) ≤ (nodes.length : Int)) = true := by rw [decide_eq_true_eq]; omega
      have i0n : decide (k ≤ nodes.length) = true := by rw [decide_eq_true_eq]; omega
      have hdl : dn.length ≤ 90300 := by have := HL.out.2; omega
      have HDL := Lib.hid hdl
      have hr0 := HBL.out.size
      go_wp2_with fail
      go_loopw [6, 7] (fun t6 t7 wx => ∃ i : Nat, i ≤ nodes.length ∧ t7 = .int .i64 (i : Int) ∧ Hid (wx.ownsRow wr.heap.size 3 1 t6 (toI (wvN (nodes.map NdM.nd) need dn i)).length (icC (toI (wvN (nodes.map NdM.nd) need dn i)))) ∧ Hid (Below wr.heap.size wr wx)) (fun _ t7 _ => nodes.length - (intOf t7).toNat)
      case atStart => exact ⟨0, by omega, rfl, Lib.hid (World.ownsRow_nil _ _ _ _), Lib.hid (Below.refl _ _)⟩
      case round =>
        rename World => wx
        obtain ⟨i, hi, rfl, HO6, HBX⟩ := hrel
        obtain ⟨A6, c6, rfl⟩ := ownk_form HO6.out
        have HK2 := Lib.hid (HK1.out.below HBX.out HK1.out.lt)
        have b1 : wx.cell? ⟨P, 0, none⟩ = some (.slice An nodes.length kn) := HK2.out.cell 0
        have b2 : wx.cell? ⟨P, 2, none⟩ = some (.slice Ad need.length kd) := HK2.out.cell 2
        clear b0
        have j1 : (0 : Int) ≤ (i : Int) := by omega
        rcases Nat.lt_or_ge i nodes.length with hin | hin
        · have k0 : decide ((i : Int) < (nodes.length : Int)) = true := by rw [decide_eq_true_eq]; omega
          have k1 : (i : Int) < (nodes.length : Int) := by omega
          obtain ⟨a, ha⟩ : ∃ a, Hid (need.contains (i : Int) = a) := ⟨_, Lib.hid rfl⟩
          obtain ⟨b, hb⟩ : ∃ b, Hid ((toI dn).contains (i : Int) = b) := ⟨_, Lib.hid rfl⟩
          have hnode : (nodes.map NdM.nd)[i]? = some (nodes[i].nd) := by simp [hin]
          obtain ⟨c, hc⟩ : ∃ c, Hid (((nodes[i].base :: nodes[i].froms).all fun r => !(r.kind == 1) || (toI dn).contains r.stage) = c) := ⟨_, Lib.hid rfl⟩
          have HQ : Hid (wvN (nodes.map NdM.nd) need dn (i + 1) = if (a && !b && c) then wvN (nodes.map NdM.nd) need dn i ++ [i] else wvN (nodes.map NdM.nd) need dn i) := Lib.hid (wvN_succ _ _ _ _ (by rw [ha.out, ← toI_has, hb.out, ready_toI _ _ _ _ hnode]; rw [show (nodes[i].nd.base :: nodes[i].nd.froms) = nodes[i].base :: nodes[i].froms from rfl, hc.out]))
          have hwl := wvN_le (nodes.map NdM.nd) need dn i
          have HWL := Lib.hid hwl
          have hnfi := HNF.out _ (List.getElem_mem hin)
          have HC1 := Lib.hid (has_any need (i : Int) Ad kd wx ha (HD1.out.new HBX.out) (by omega))
          have HC2 := Lib.hid (fun w5 (h5 : Below wx.heap.size wx w5) => has_any (toI dn) (i : Int) A4 c4 w5 hb ((HSD.out.new HBX.out).new h5) (by rw [toI_len]; have := HDL.out; omega))
          have HND := Lib.hid (fun w5 (h5 : Below wx.heap.size wx w5) => nd_full ((HN1.out.new HBX.out).new h5) hin)
          obtain ⟨G, hG⟩ : ∃ G, nodes[i] = G := ⟨_, rfl⟩
          rw [hG] at hc hnfi
          have HC3 := Lib.hid (fun w5 (h5 : Below wx.heap.size wx w5) (hok : G.Ok w5) => ready19_any G (toI dn) A4 c4 w5 hc hok (by omega) ((HSD.out.new HBX.out).new h5) (by rw [toI_len]; have := HDL.out; omega))
          have HG := Lib.hid hG
          clear ha hb hc hnode hwl hG
          have hx0 := HBX.out.size
          go_upto_region 10 with fail
          go_cut [8] (fun s8 wz => s8 = .bool (a && !b && c) ∧ Hid (Below wx.heap.size wx wz))
          case first =>
            go_wp2_with fail
            refine HC1.out.mono ?_
            rintro e w5 ⟨rfl, hb5⟩
            have HB5 := Lib.hid hb5
            clear b1 b2 hb5
            cases a with
            | false =>
              go_wp2_with fail
              go_meet
              exact ⟨by first | rfl | trivial, HB5⟩
            | true =>
              have HK5 := Lib.hid (HK2.out.below HB5.out HK2.out.lt)
              go_wp2_with fail
              refine (HC2.out _ HB5.out).mono ?_
              rintro e w6 ⟨rfl, hb6⟩
              have HB6 := Lib.hid (below_of_below HB5.out hb6 HB5.out.size)
              clear hb6
              cases b with
              | true =>
                go_wp2_with fail
                go_meet
                exact ⟨by first | rfl | trivial, HB6⟩
              | false =>
                have HK6 := Lib.hid (HK2.out.below HB6.out HK2.out.lt)
                have b1 : w6.cell? ⟨P, 0, none⟩ = some (.slice An nodes.length kn) := HK6.out.cell 0
                obtain ⟨g, o, cc, G', A, kk, hv, hG', hGv, hGs, c0, c1, c2, c3⟩ := HND.out w6 HB6.out
                injection hv with hA _ hcc
                subst hA hcc
                rw [HG.out] at hG'
                subst hG'
                have HCR := HC3.out w6 HB6.out hGs
                rw [hGv] at HCR
                have HR := Lib.hid HCR
                clear HCR hGv hGs
                go_wp2_with fail
                refine HR.out.mono ?_
                rintro e w7 ⟨rfl, hb7⟩
                have HB7 := Lib.hid (below_of_below HB6.out hb7 HB6.out.size)
                clear hb7 c0 c1 c2 c3 b1
                go_wp2_with fail
                go_meet
                exact ⟨by first | rfl | trivial | simp, HB7⟩
          case rest =>
            rename World => wz
            obtain ⟨rfl, HBZ⟩ := hcut
            clear b1 b2 HC1 HC2 HC3 HND
            obtain ⟨q, hq⟩ : ∃ q, (a && !b && c) = q := ⟨_, rfl⟩
            rw [hq] at HQ ⊢
            have HBW := Lib.hid (below_of_below HBX.out HBZ.out HBX.out.size)
            have HOZ := Lib.hid (own_below HO6.out HBZ.out)
            have hw0 := HBW.out.size
            have hwl := HWL.out
            have hti := toI_len (wvN (nodes.map NdM.nd) need dn i)
            have HTI := Lib.hid hti
            clear hq HO6 HBZ hti
            cases q with
            | false =>
              have hQ := HQ.out
              rw [if_neg (by decide)] at hQ
              go_wp2_with fail
              go_roundw
              case rel => exact ⟨i + 1, by omega, by go_num, Lib.hid (by rw [hQ]; exact HOZ.out), HBW⟩
              case measure => simp [intOf]; omega
            | true =>
              have HT : Hid (toI (wvN (nodes.map NdM.nd) need dn (i + 1)) = toI (wvN (nodes.map NdM.nd) need dn i) ++ [(i : Int)]) := Lib.hid (by rw [HQ.out, if_pos rfl, toI_app]; rfl)
              obtain ⟨L, hL⟩ : ∃ L, toI (wvN (nodes.map NdM.nd) need dn i) = L := ⟨_, rfl⟩
              rw [hL] at HOZ HT HTI
              rw [hL]
              have hLn : L.length ≤ i := by rw [HTI.out]; exact hwl
              clear hL hwl HWL HQ
              go_wp2_with (at_builtin; refine wpList_appk rfl _ _ _ rfl intK wr.heap.size _ _ _ rfl (HOZ.out.alloc _) _ _ _ [.int .i64 (i : Int)] rfl rfl (news_at _ _ rfl _ _) (by simp [Value.oneCell']) (by omega) (by omega) (HBW.out.alloc hw0 _) (by rw [World.size_alloc]; omega) ?_; intro v1 w8 ho1 hb1 hg1 hat1; obtain ⟨B1, q1, rfl⟩ := ownk_form ho1)
              go_roundw
              case rel => exact ⟨i + 1, by omega, by go_num, Lib.hid (by rw [HT.out, List.length_append, icC_snoc]; exact ho1), Lib.hid hb1⟩
              case measure => simp [intOf]; omega
        · obtain rfl : i = nodes.length := by omega
          have k0 : decide ((nodes.length : Int) < (nodes.length : Int)) = false := by simp
          have HWA : Hid (wvN (nodes.map NdM.nd) need dn nodes.length = Gw.wave (nodes.map NdM.nd) need dn) := Lib.hid (by have h := wvN_all (nodes.map NdM.nd) need dn; rwa [List.length_map] at h)
          have hwl := wvN_le (nodes.map NdM.nd) need dn nodes.length
          have hti := toI_len (wvN (nodes.map NdM.nd) need dn nodes.length)
          have HTI := Lib.hid hti
          rw [HWA.out] at HO6 hwl hti HTI ⊢
          clear HWA
          obtain ⟨f, hf⟩ : ∃ f, nodes.length + 1 - k = f + 1 := ⟨nodes.length - k, by omega⟩
          have HSS := HS.out
          rw [hf] at HSS
          have HBW1 := Lib.hid (below_of_below HBL.out HBX.out HBL.out.size)
          cases hwv : Gw.wave (nodes.map NdM.nd) need dn with
          | nil =>
            rw [wavesI_stop hwv, List.append_nil] at HSS
            have HLN : Hid (ls = W) := Lib.hid HSS
            have hz : toI ([] : List Nat) = [] := rfl
            rw [hwv, hz] at HO6
            rw [hz]
            have HR := Lib.hid (SlA.own HO3.out)
            clear HSS hwv hti hwl HTI
            go_wp2_with fail
            go_ret
            exact ⟨⟨_, rfl, by rw [← HLN.out]; exact WvR.new (w := wr) ⟨vs, _, HR.out, HX.out⟩ HBX.out⟩, HB.out.trans (HBW1.out.mono HB.out.size)⟩
          | cons x0 xs0 =>
            have hne : Gw.wave (nodes.map NdM.nd) need dn ≠ [] := by rw [hwv]; exact List.cons_ne_nil _ _
            rw [wavesI_go hne] at HSS
            have hpos : 0 < (toI (Gw.wave (nodes.map NdM.nd) need dn)).length := by rw [toI_len, hwv]; simp
            rw [← hwv] at *
            obtain ⟨L, hL⟩ : ∃ L, toI (Gw.wave (nodes.map NdM.nd) need dn) = L := ⟨_, rfl⟩
            have HDN : Hid (toI (dn ++ Gw.wave (nodes.map NdM.nd) need dn) = toI dn ++ L) := Lib.hid (by rw [toI_app, hL])
            have HDL2 : Hid ((dn ++ Gw.wave (nodes.map NdM.nd) need dn).length ≤ (k + 1) * 300) := Lib.hid (by rw [List.length_append]; have := HL.out.2; omega)
            rw [hL] at HO6 HSS hpos hti HTI ⊢
            have hLn : L.length ≤ 300 := by rw [HTI.out]; omega
            obtain ⟨g6, c6', hv6, _⟩ := HO6.out.form hpos
            injection hv6 with hA6 _ hc6
            subst hA6 hc6
            have HLX := Lib.hid (SlX.own (X := fun b => (Value.slice A3 ls.length c3).ownBlock = some b ∨ (Value.slice A4 (toI dn).length c4).ownBlock = some b) HO6.out hpos (fun b h1 _ h => by rcases h with h | h; exact absurd (HO3.out.lt b h).2 (by omega); exact absurd (HO4.out.lt b h).2 (by omega)))
            have HX1 := Lib.hid ((HX.out.fx (S := fun _ => False) (X' := fun b => (Value.slice A3 ls.length c3).ownBlock = some b ∨ (Value.slice A4 (toI dn).length c4).ownBlock = some b) (Fx.new HBX.out) (fun b _ h => h.elim False.elim id)).snoc HLX.out)
            have HO3x := Lib.hid (own_below HO3.out HBX.out)
            have HO4x := Lib.hid (own_below HO4.out HBX.out)
            have hd0 := HDL.out
            have htd := toI_len dn
            have HTD := Lib.hid htd
            have hl0 := HL.out.1
            have hw0 := HBW1.out.size
            have z0 : ((L.length : Int) == 0) = false := by rw [beq_eq_false_iff_ne]; omega
            have hlp : 0 < L.length := hpos
            clear htd hwv hne hwl hti HBX HX HO3 HO4 HO6
            go_upto_region 16 with (at_builtin; refine wpList_appk rfl _ _ _ rfl rowsK w1.heap.size _ _ _ rfl (HO3x.out.alloc _) _ _ _ [.slice (some ⟨g6, 0, none⟩) L.length c6] rfl rfl (news_at _ _ rfl _ _) (by simp [Value.oneCell']) (by omega) (by omega) (Below.refl _ _) (by rw [World.size_alloc]; omega) ?_; intro v1 wy ho1 hb1 hg1 hat1)
            have ka : Fx (fun _ => False) wx (wx.alloc (.cells #[.slice (some ⟨g6, 0, none⟩) L.length c6] 29)) := Fx.new ((Below.refl _ _).alloc (Nat.le_refl _) _)
            have ky : Fx (fun b => (Value.slice A3 ls.length c3).ownBlock = some b) (wx.alloc (.cells #[.slice (some ⟨g6, 0, none⟩) L.length c6] 29)) wy := Fx.of_grown hg1
            have HO4y := Lib.hid (ky.own (HO4x.out.alloc _) (fun g h1 h2 => by rcases Ak.own_ne HO4x.out HO3x.out (by decide) with q | q; rw [h1] at q; cases q; exact q (h1.trans h2.symm)))
            have hX3 : ∀ b, b < (wx.alloc (.cells #[.slice (some ⟨g6, 0, none⟩) L.length c6] 29)).heap.size → v1.ownBlock = some b → (Value.slice A3 ls.length c3).ownBlock = some b := fun b hb h => by
              rcases hat1 with e | e
              · exact e ▸ h
              · rw [e] at h; injection h with h; omega
            have HX2 := Lib.hid ((HX1.out.fx (X' := fun b => (Value.slice A3 ls.length c3).ownBlock = some b ∨ (Value.slice A4 (toI dn).length c4).ownBlock = some b) ka (fun b _ h => h.elim False.elim id)).fx (X' := fun b => v1.ownBlock = some b ∨ (Value.slice A4 (toI dn).length c4).ownBlock = some b) ky (fun b hb h => by
              rcases h with h | h | h
              · exact .inl h
              · exact .inl (hX3 b hb h)
              · exact .inr h))
            have HSY := Lib.hid (((HLX.out.fx (X' := fun b => (Value.slice A3 ls.length c3).ownBlock = some b ∨ (Value.slice A4 (toI dn).length c4).ownBlock = some b) ka (fun b _ h => h.elim False.elim id)).fx (X' := fun _ => False) ky (fun b hb h => h.elim .inl False.elim)).sl)
            have HO3y := Lib.hid ho1
            have hy0 : wx.heap.size ≤ wy.heap.size := Nat.le_trans ka.size ky.size
            have HBY := Lib.hid (HBW1.out.trans ((Below.refl w1.heap.size wx).alloc hw0 (.cells #[.slice (some ⟨g6, 0, none⟩) L.length c6] 29) |>.trans hb1))
            obtain ⟨B1, q1, rfl⟩ := ownk_form ho1
            clear ho1 hb1 hg1 hat1 ka ky hX3 HX1 HLX HO3x HO4x
            go_wp2_with (at_builtin; refine wpList_appS rfl _ _ _ rfl intK w1.heap.size _ _ _ rfl HO4y.out (.slice (some ⟨g6, 0, none⟩) L.length c6) L.length (icC L) rfl HSY.out (by simp [icC]) (icC_one _) (by have := HTD.out; omega) (by have := HTD.out; omega) (Below.refl _ _) (by omega) ?_; intro v2 wz ho2 hb2 hg2 hat2)
            have kz : Fx (fun b => (Value.slice A4 (toI dn).length c4).ownBlock = some b) wy wz := Fx.of_grown hg2
            have hX4 : ∀ b, b < wy.heap.size → v2.ownBlock = some b → (Value.slice A4 (toI dn).length c4).ownBlock = some b := fun b hb h => by
              rcases hat2 with e | e
              · exact e ▸ h
              · rw [e] at h; injection h with h; omega
            have HX3 := Lib.hid (HX2.out.fx (X' := fun b => (Value.slice B1 (ls.length + 1) q1).ownBlock = some b ∨ v2.ownBlock = some b) kz (fun b hb h => by
              rcases h with h | h | h
              · exact .inr h
              · exact .inl h
              · exact .inr (hX4 b hb h)))
            have HO3z := Lib.hid (kz.own HO3y.out (fun g h1 h2 => by rcases Ak.own_ne HO3y.out HO4y.out (by decide) with q | q; rw [h1] at q; cases q; exact q (h1.trans h2.symm)))
            have HBZ := Lib.hid (HBY.out.trans hb2)
            have HO4z := Lib.hid ho2
            obtain ⟨B2, q2, rfl⟩ := ownk_form ho2
            have hf2 : nodes.length + 1 - (k + 1) = f := by omega
            have HSS2 : Hid ((ls ++ [L]) ++ wavesI (nodes.map NdM.nd) need (nodes.length + 1 - (k + 1)) (dn ++ Gw.wave (nodes.map NdM.nd) need dn) = W) := Lib.hid (by rw [hf2, List.append_assoc]; exact HSS)
            clear ho2 hb2 hg2 hat2 kz hX4 HX2 HO3y HO4y hf2 HSS hL hf
            go_roundw
            case rel => exact ⟨k + 1, ls ++ [L], vs ++ [.slice (some ⟨g6, 0, none⟩) L.length c6], dn ++ Gw.wave (nodes.map NdM.nd) need dn, by omega, by go_num, Lib.hid (by rw [List.length_append]; exact HO3z.out), Lib.hid (by rw [HDN.out, List.length_append, icC_app]; exact HO4z.out), HX3, HSS2, Lib.hid ⟨by rw [List.length_append]; show ls.length + 1 ≤ _; omega, HDL2.out⟩, HBZ⟩
            case measure => simp [intOf]; omega
    · obtain rfl : k = nodes.length + 1 := by omega
      have i0 : decide (((nodes.length + 1 : Nat) : Int) ≤ (nodes.length : Int)) = false := by rw [decide_eq_false_iff_not]; omega
      have i0n : decide (nodes.length + 1 ≤ nodes.length) = false := by rw [decide_eq_false_iff_not]; omega
      have HLN : Hid (ls = W) := Lib.hid (by have h := HS.out; rwa [Nat.sub_self, show wavesI (nodes.map NdM.nd) need 0 dn = [] from rfl, List.append_nil] at h)
      have HR := Lib.hid (SlA.own HO3.out)
      go_wp2_with fail
      go_ret
      exact ⟨⟨_, rfl, by rw [← HLN.out]; exact ⟨vs, _, HR.out, HX.out⟩⟩, HB.out.trans (HBL.out.mono HB.out.size)⟩
end Go.Proofs.YtnlkmljdcmfogaaGreatDoor
namespace Go.Proofs.YtnlkmljdcmfogaaGreatDoor
open Go Go.RowKit Go.Shelf
def Tryz.laysClone_ren : Go.Shelf.Ren := ⟨fun | 15 => 86 | n => n, fun | 22 => 29 | 3 => 3 | 4 => 4 | n => n, fun | n => n⟩
theorem Tryz.laysClone : Go.Proofs.Lays2.n15 Tryz.prog Tryz.laysClone_ren := {
  mixed := by kernel_rfl
  f15 := Tryz.func86.trans (congrArg some (by kernel_rfl))
  t3 := Tryz.underlying3
  a3 := Tryz.isAgg3
  z3 := Tryz.sizeOf3
  v3 := Tryz.zeroValue3
  t4 := Tryz.underlying4
  a4 := Tryz.isAgg4
  z4 := Tryz.sizeOf4
  v4 := Tryz.zeroValue4
  t22 := Tryz.underlying29
  a22 := Tryz.isAgg29
  z22 := Tryz.sizeOf29
  v22 := Tryz.zeroValue29
  i3 := by kernel_rfl }
def Tryz.laysCompact_ren : Go.Shelf.Ren := ⟨fun | 20 => 89 | n => n, fun | 22 => 29 | 3 => 3 | 4 => 4 | 0 => 0 | n => n, fun | n => n⟩
theorem Tryz.laysCompact : Go.Proofs.Lays2.n20 Tryz.prog Tryz.laysCompact_ren := {
  mixed := by kernel_rfl
  f20 := Tryz.func89.trans (congrArg some (by kernel_rfl))
  t0 := Tryz.underlying0
  a0 := Tryz.isAgg0
  z0 := Tryz.sizeOf0
  v0 := Tryz.zeroValue0
  t3 := Tryz.underlying3
  a3 := Tryz.isAgg3
  z3 := Tryz.sizeOf3
  v3 := Tryz.zeroValue3
  t4 := Tryz.underlying4
  a4 := Tryz.isAgg4
  z4 := Tryz.sizeOf4
  v4 := Tryz.zeroValue4
  t22 := Tryz.underlying29
  a22 := Tryz.isAgg29
  z22 := Tryz.sizeOf29
  v22 := Tryz.zeroValue29
  i3 := by kernel_rfl }
def Tryz.laysSort_ren : Go.Shelf.Ren := ⟨fun | 189 => 88 | 125 => 151 | 257 => 150 | 128 => 206 | 129 => 207 | 294 => 197 | 295 => 198 | 296 => 199 | 297 => 200 | 298 => 201 | 299 => 202 | 216 => 203 | 300 => 204 | 301 => 205 | 328 => 249 | 329 => 250 | 330 => 251 | 331 => 252 | 332 => 253 | 215 => 254 | 343 => 273 | n => n, fun | 28 => 29 | 3 => 3 | 46 => 277 | 0 => 0 | 51 => 340 | 53 => 342 | 4 => 4 | 183 => 332 | 182 => 331 | 131 => 337 | 5 => 5 | 9 => 9 | 218 => 387 | 222 => 391 | 228 => 408 | 229 => 89 | n => n, fun | n => n⟩
theorem Tryz.laysSort : Go.Proofs.Lays.n189 Tryz.prog Tryz.laysSort_ren := {
  mixed := by kernel_rfl
  f125 := Tryz.func151.trans (congrArg some (by kernel_rfl))
  f128 := Tryz.func206.trans (congrArg some (by kernel_rfl))
  f129 := Tryz.func207.trans (congrArg some (by kernel_rfl))
  f189 := Tryz.func88.trans (congrArg some (by kernel_rfl))
  f215 := Tryz.func254.trans (congrArg some (by kernel_rfl))
  f216 := Tryz.func203.trans (congrArg some (by kernel_rfl))
  f257 := Tryz.func150.trans (congrArg some (by kernel_rfl))
  f294 := Tryz.func197.trans (congrArg some (by kernel_rfl))
  f295 := Tryz.func198.trans (congrArg some (by kernel_rfl))
  f296 := Tryz.func199.trans (congrArg some (by kernel_rfl))
  f297 := Tryz.func200.trans (congrArg some (by kernel_rfl))
  f298 := Tryz.func201.trans (congrArg some (by kernel_rfl))
  f299 := Tryz.func202.trans (congrArg some (by kernel_rfl))
  f300 := Tryz.func204.trans (congrArg some (by kernel_rfl))
  f301 := Tryz.func205.trans (congrArg some (by kernel_rfl))
  f328 := Tryz.func249.trans (congrArg some (by kernel_rfl))
  f329 := Tryz.func250.trans (congrArg some (by kernel_rfl))
  f330 := Tryz.func251.trans (congrArg some (by kernel_rfl))
  f331 := Tryz.func252.trans (congrArg some (by kernel_rfl))
  f332 := Tryz.func253.trans (congrArg some (by kernel_rfl))
  f343 := Tryz.func273.trans (congrArg some (by kernel_rfl))
  t0 := Tryz.underlying0
  a0 := Tryz.isAgg0
  z0 := Tryz.sizeOf0
  v0 := Tryz.zeroValue0
  t3 := Tryz.underlying3
  a3 := Tryz.isAgg3
  z3 := Tryz.sizeOf3
  v3 := Tryz.zeroValue3
  t4 := Tryz.underlying4
  a4 := Tryz.isAgg4
  z4 := Tryz.sizeOf4
  v4 := Tryz.zeroValue4
  t5 := Tryz.underlying5
  a5 := Tryz.isAgg5
  z5 := Tryz.sizeOf5
  v5 := Tryz.zeroValue5
  t9 := Tryz.underlying9
  a9 := Tryz.isAgg9
  z9 := Tryz.sizeOf9
  v9 := Tryz.zeroValue9
  t28 := Tryz.underlying29
  a28 := Tryz.isAgg29
  z28 := Tryz.sizeOf29
  v28 := Tryz.zeroValue29
  t46 := Tryz.underlying277
  a46 := Tryz.isAgg277
  z46 := Tryz.sizeOf277
  v46 := Tryz.zeroValue277
  t51 := Tryz.underlying340
  a51 := Tryz.isAgg340
  z51 := Tryz.sizeOf340
  v51 := Tryz.zeroValue340
  t53 := Tryz.underlying342
  a53 := Tryz.isAgg342
  z53 := Tryz.sizeOf342
  v53 := Tryz.zeroValue342
  t131 := Tryz.underlying337
  a131 := Tryz.isAgg337
  z131 := Tryz.sizeOf337
  v131 := Tryz.zeroValue337
  t182 := Tryz.underlying331
  a182 := Tryz.isAgg331
  z182 := Tryz.sizeOf331
  v182 := Tryz.zeroValue331
  t183 := Tryz.underlying332
  a183 := Tryz.isAgg332
  z183 := Tryz.sizeOf332
  v183 := Tryz.zeroValue332
  t218 := Tryz.underlying387
  a218 := Tryz.isAgg387
  z218 := Tryz.sizeOf387
  v218 := Tryz.zeroValue387
  t222 := Tryz.underlying391
  a222 := Tryz.isAgg391
  z222 := Tryz.sizeOf391
  v222 := Tryz.zeroValue391
  t228 := Tryz.underlying408
  a228 := Tryz.isAgg408
  z228 := Tryz.sizeOf408
  v228 := Tryz.zeroValue408
  t229 := Tryz.underlying89
  a229 := Tryz.isAgg89
  z229 := Tryz.sizeOf89
  v229 := Tryz.zeroValue89 }
def Tryz.laysDel_ren : Go.Shelf.Ren := ⟨fun | 10 => 85 | 6 => 149 | n => n, fun | 22 => 29 | 23 => 3 | 25 => 160 | 3 => 3 | 4 => 4 | 0 => 0 | n => n, fun | n => n⟩
theorem Tryz.laysDel : Go.Proofs.SlLaysH.n10 Tryz.prog Tryz.laysDel_ren := {
  mixed := by kernel_rfl
  f6 := ⟨Tryz.f149.name, by decide, Tryz.func149.trans (congrArg some (by kernel_rfl))⟩
  f10 := ⟨Tryz.f85.name, by decide, Tryz.func85.trans (congrArg some (by kernel_rfl))⟩
  t0 := Tryz.underlying0
  a0 := Tryz.isAgg0
  z0 := Tryz.sizeOf0
  v0 := Tryz.zeroValue0
  t3 := Tryz.underlying3
  a3 := Tryz.isAgg3
  z3 := Tryz.sizeOf3
  v3 := Tryz.zeroValue3
  t4 := Tryz.underlying4
  a4 := Tryz.isAgg4
  z4 := Tryz.sizeOf4
  v4 := Tryz.zeroValue4
  t22 := Tryz.underlying29
  a22 := Tryz.isAgg29
  z22 := Tryz.sizeOf29
  v22 := Tryz.zeroValue29
  a23 := Tryz.isAgg3
  z23 := Tryz.sizeOf3
  t25 := Tryz.underlying160
  a25 := Tryz.isAgg160
  z25 := Tryz.sizeOf160
  v25 := Tryz.zeroValue160 }
theorem cloneI_any (l : List Int) (v : Value) (w : World) (h : SlA w v l.length (icC l)) (hn : l.length ≤ 1100000) :
    Calls Tryz.prog 86 #[v] w fun e w' => (∃ v', e = .returned v' ∧ w'.ownsRow w.heap.size 3 1 v' l.length (icC l)) ∧ Below w.heap.size w w' := by
  rcases h with ⟨⟨A, c, rfl, hA⟩, h0, hx⟩ | ⟨g, o, c, rfl, hc⟩
  · have hl : l = [] := List.eq_nil_of_length_eq_zero h0
    subst hl
    cases A with
    | none =>
      obtain rfl := hA rfl
      exact (Any.slices_Clone_int_nil Tryz.laysClone 0 0 w).mono fun e w' ⟨he, hw⟩ => by subst hw; exact ⟨⟨_, he, World.ownsRow_nil _ _ _ _⟩, Below.refl _ _⟩
    | some a => exact (Any.slices_Clone_int_zero Tryz.laysClone a c w).mono fun e w' ⟨v', he, ho, _, hb⟩ => ⟨⟨v', he, ho⟩, hb⟩
  · refine (Any.slices_Clone_int Tryz.laysClone g o l.length c l w (Nat.le_refl _) (by omega) (fun j hj => hc j _ (by simp [icC, hj]))).mono fun e w' ⟨v', he, ho, _, hb⟩ => ⟨⟨v', he, ?_⟩, hb⟩
    rw [List.take_length] at ho
    exact ho
theorem own_nil_or {w : World} {base n : Nat} {e : TypeId} {v : Value} {l : List Int} (h : w.ownsRow base e 1 v n (icC l)) : (v = .slice none 0 0 ∧ n = 0 ∧ l = []) ∨ v ≠ .slice none 0 0 := by
  by_cases hv : v = .slice none 0 0
  · left
    subst hv
    rcases h.2 with ⟨_, h0⟩ | ⟨g, cap, cur, e1, _⟩
    · refine ⟨rfl, h0, List.eq_nil_of_length_eq_zero ?_⟩
      have := h.1
      rw [h0] at this
      simpa [icC] using this
    · cases e1
  · exact .inr hv
theorem sortI_any (l : List Int) (v : Value) (base : Nat) (w : World) (h : w.ownsRow base 3 1 v l.length (icC l)) (hn : l.length ≤ 1100000) :
    Calls Tryz.prog 88 #[v] w fun e w' => (e = .returned (.tuple #[]) ∧ w'.ownsRow base 3 1 v l.length (icC (l.mergeSort fun x y => decide (x ≤ y)))) ∧ Below base w w' := by
  rcases own_nil_or h with ⟨rfl, _, rfl⟩ | hv
  · exact (Any.slices_Sort_int_none Tryz.laysSort none 0 w).mono fun e w' ⟨he, hw⟩ => by subst hw; rw [List.mergeSort_nil]; exact ⟨⟨he, World.ownsRow_nil _ _ _ _⟩, Below.refl _ _⟩
  · obtain ⟨g, cap, rfl, hb, hlt, hc, hm, _, hH⟩ := Lib.holds_of_ownsRow (enc := Value.int .i64) (zs := l) h hv
    refine (Any.slices_Sort_int Tryz.laysSort g 0 cap l w hH hlt (by omega)).mono fun e w' ⟨he, n, os, hw⟩ => ?_
    subst hw
    have hl : (l.mergeSort fun x y => decide (x ≤ y)).length = l.length := List.length_mergeSort _
    have ho := Lib.ownsRow_putRow (q := n) (k := l.length) (ys := l.mergeSort fun x y => decide (x ≤ y)) h hl (Nat.le_refl _)
    rw [List.take_of_length_le (by omega)] at ho
    have hbel := Lib.below_putRow (enc := Value.int .i64) (q := n) (d := (l.mergeSort fun x y => decide (x ≤ y)).toArray) (Below.refl base w) hb
    have hg := below_grown (Go.Sort.putRow (Value.int .i64) (Go.Sort.ahead w n) g 0 (l.mergeSort fun x y => decide (x ≤ y)).toArray) 0 os
    rw [Go.Sort.ahead_zero] at hg
    refine ⟨⟨he, own_below ho hg⟩, hbel.trans (hg.mono ?_)⟩
    simp
    omega
theorem compactI_any (l : List Int) (v : Value) (base : Nat) (w : World) (h : w.ownsRow base 3 1 v l.length (icC l)) (hn : l.length ≤ 1100000) :
    Calls Tryz.prog 89 #[v] w fun e w' => (∃ v', e = .returned v' ∧ w'.ownsRow base 3 1 v' (Go.Lib.compact l).length (icC (Go.Lib.compact l))) ∧ Below base w w' := by
  rcases own_nil_or h with ⟨rfl, _, rfl⟩ | hv
  · exact (Any.slices_Compact_int_empty Tryz.laysCompact none 0 w).mono fun e w' ⟨he, hw⟩ => by subst hw; exact ⟨⟨_, he, World.ownsRow_nil _ _ _ _⟩, Below.refl _ _⟩
  · obtain ⟨g, cap, rfl, hb, hlt, hc, hm, _, hH⟩ := Lib.holds_of_ownsRow (enc := Value.int .i64) (zs := l) h hv
    refine (Any.slices_Compact_int Tryz.laysCompact g 0 cap l w hH (by omega) hc).mono fun e w' ⟨he, n, hw⟩ => ?_
    subst hw
    have hle : (Go.Lib.compact l).length ≤ l.length := by
      unfold Go.Lib.compact Go.Lib.compactUpTo
      rw [List.length_map]
      have := (List.filter_sublist (l := List.range l.length) (p := Go.Lib.keeps l.toArray)).length_le
      rwa [List.length_range] at this
    have ho := Lib.ownsRow_putRow (q := n) (k := (Go.Lib.compact l).length) (ys := Go.Lib.compact l ++ List.replicate (l.length - (Go.Lib.compact l).length) 0) h (by simp; omega) hle
    rw [List.take_left] at ho
    exact ⟨⟨_, he, ho⟩, Lib.below_putRow (Below.refl base w) hb⟩
/-- which numbers graph.Waves throws away. -/
def outN (N : Nat) (x : Int) : Bool := decide (x < 0) || decide ((N : Int) ≤ x)
set_option maxRecDepth 100000 in
theorem out_gives (x : Int) (P : Nat) (An : Option Addr) (N kn : Nat) (W : World) (hc : W.cell? ⟨P, 0, none⟩ = some (.slice An N kn)) : FnGives Tryz.prog 87 #[.pointer (some ⟨P, 0, none⟩)] #[.int .i64 x] (.bool (outN N x)) W := by
  show Calls Tryz.prog 87 #[.int .i64 x, .pointer (some ⟨P, 0, none⟩)] W _
  obtain ⟨a, ha⟩ : ∃ a, decide (x < 0) = a := ⟨_, rfl⟩
  obtain ⟨b, hb⟩ : ∃ b, decide ((N : Int) ≤ x) = b := ⟨_, rfl⟩
  unfold outN
  rw [ha, hb]
  go_enter Tryz.func87, Tryz.ntmps87
  cases a with
  | true =>
    go_wp2_with fail
    go_ret
    exact ⟨rfl, 0, rfl⟩
  | false =>
    go_wp2_with fail
    go_ret
    exact ⟨rfl, 0, rfl⟩
set_option maxRecDepth 100000 in
set_option maxHeartbeats 1000000 in
theorem delI_any (l : List Int) (v : Value) (base : Nat) (P : Nat) (An : Option Addr) (N kn : Nat) (w : World) (h : w.ownsRow base 3 1 v l.length (icC l)) (hn : l.length ≤ 1100000) (hc : w.cell? ⟨P, 0, none⟩ = some (.slice An N kn)) (hP : P < base) :
    Calls Tryz.prog 85 #[v, .func (.func 87) #[] #[.pointer (some ⟨P, 0, none⟩)]] w fun e w' => (∃ v', e = .returned v' ∧ w'.ownsRow base 3 1 v' (l.filter fun x => !outN N x).length (icC (l.filter fun x => !outN N x))) ∧ Below base w w' := by
  have hlP : P < w.heap.size := World.block_lt_of_cell? w _ hc
  have eg : ∀ args w, (callFunc 87 args).run Tryz.prog w = .ok (.enter 87 args) w := enters_of Tryz.func87 (by kernel_rfl) rfl
  rcases own_nil_or h with ⟨rfl, _, rfl⟩ | hv
  · have hI := AnyE.slices_IndexFunc_empty (P := Tryz.prog) (ρ := Tryz.laysDel_ren) { Tryz.laysDel with } none 0 (.func (.func 87) #[] #[.pointer (some ⟨P, 0, none⟩)])
    change ∀ w, Calls Tryz.prog 149 _ _ _ at hI
    clear hn hc h eg
    go_enter Tryz.func85, Tryz.ntmps85
    go_wp2_with fail
    refine (hI _).mono ?_
    rintro e w1 ⟨rfl, rfl⟩
    go_wp2_with fail
    go_ret
    exact ⟨⟨_, rfl, World.ownsRow_nil _ _ _ _⟩, Below.refl _ _⟩
  · obtain ⟨g, cap, rfl, hb, hlt, hcc, hm, _, hH⟩ := Lib.holds_of_ownsRow (enc := Value.int .i64) (zs := l) h hv
    have hcon := AnyE.slices_DeleteFunc Tryz.laysDel (Value.int .i64) (fun _ => rfl) (outN N) 87 #[.pointer (some ⟨P, 0, none⟩)] eg 0 Tryz.zeroValue3 g 0 cap l.toArray w
      (fun W x hb => out_gives x P An N kn W ((hb.cell (p := ⟨P, 0, none⟩) hlP).trans hc))
      (fun n os dk x _ => out_gives x P An N kn _ (by
        unfold sortWorld
        rw [Go.Sort.cell?_grow _ _ _ (by show P < (Go.Sort.putRow _ _ _ _ _).heap.size; rw [Go.Sort.size_putRow]; exact hlP), Go.Sort.cell?_putRow_other _ _ g 0 _ _ (Or.inl (by show P ≠ g; omega))]
        exact hc)) hH (by simp; omega) (by simpa using hcc)
    change Calls Tryz.prog 85 _ _ _ at hcon
    refine hcon.mono fun e w' ⟨he, n, hw⟩ => ?_
    subst hw
    have hle : (l.filter fun x => !outN N x).length ≤ l.length := List.length_filter_le _ _
    have ho := Lib.ownsRow_putRow (q := n) (k := (l.filter fun x => !outN N x).length) (ys := (l.filter fun x => !outN N x) ++ List.replicate (l.length - (l.filter fun x => !outN N x).length) 0) h (by simp; omega) hle
    rw [List.take_left] at ho
    exact ⟨⟨_, he, ho⟩, Lib.below_putRow (Below.refl base w) hb⟩
end Go.Proofs.YtnlkmljdcmfogaaGreatDoor
