/- graph.Waves, walked. -/
import Derived.Test.YtnlkmljdcmfogaaGreatDoorGwF0
import Derived.Test.YtnlkmljdcmfogaaGreatDoorGwE0
import Derived.Test.YtnlkmljdcmfogaaGreatDoorBf
import Derived.Deep.QuietTactic
import Derived.BigQuiet
namespace Go.Proofs.YtnlkmljdcmfogaaGreatDoor
open Go Go.RowKit
def slen : Value → Nat
  | .slice _ n _ => n
  | _ => 0
theorem slen_slice (A : Option Addr) (n c : Nat) : slen (.slice A n c) = n := rfl
/-- rows of numbers, each of its own. -/
def WvP (w : World) (base : Nat) (vs : List Value) (ls : List (List Int)) : Prop := vs.length = ls.length ∧ (∀ (j : Nat) (V : Value) (l : List Int), vs[j]? = some V → ls[j]? = some l → w.ownsRow base 3 1 V l.length (icC l)) ∧ ∀ (i j : Nat) (V U : Value) (b : Nat), vs[i]? = some V → vs[j]? = some U → V.ownBlock = some b → U.ownBlock = some b → i = j
section
variable {w w' : World} {base : Nat} {vs : List Value} {ls : List (List Int)} {S : Nat → Prop}
theorem WvP.nil (w : World) (base : Nat) : WvP w base [] [] := ⟨rfl, fun j V l hv => by simp at hv, fun i j V U b hv => by simp at hv⟩
theorem WvP.row (h : WvP w base vs ls) {V : Value} (hV : V ∈ vs) : ∃ l, w.ownsRow base 3 1 V l.length (icC l) := by
  obtain ⟨j, hj, rfl⟩ := List.getElem_of_mem hV
  have hl : j < ls.length := by rw [← h.1]; exact hj
  exact ⟨ls[j], h.2.1 j _ _ (List.getElem?_eq_getElem hj) (List.getElem?_eq_getElem hl)⟩
theorem WvP.lt (h : WvP w base vs ls) {V : Value} (hV : V ∈ vs) {b : Nat} (hb : V.ownBlock = some b) : base ≤ b ∧ b < w.heap.size := by
  obtain ⟨l, hl⟩ := h.row hV
  exact hl.lt b hb
theorem WvP.fx (h : WvP w base vs ls) (k : Fx S w w') (hS : ∀ V b, V ∈ vs → V.ownBlock = some b → ¬ S b) : WvP w' base vs ls :=
  ⟨h.1, fun j V l hv hl => k.own (h.2.1 j V l hv hl) (fun g hg => hS V g (List.mem_of_getElem? hv) hg), h.2.2⟩
theorem WvP.new (h : WvP w base vs ls) (k : Below w.heap.size w w') : WvP w' base vs ls := h.fx (S := fun _ => False) (Fx.new k) fun _ _ _ _ h => h
theorem WvP.snoc {V : Value} {l : List Int} (h : WvP w base vs ls) (hv : w.ownsRow base 3 1 V l.length (icC l)) (hd : ∀ U b, U ∈ vs → U.ownBlock = some b → V.ownBlock ≠ some b) : WvP w base (vs ++ [V]) (ls ++ [l]) := by
  have get : ∀ (j : Nat) (U : Value), (vs ++ [V])[j]? = some U → (vs[j]? = some U ∧ j < vs.length) ∨ (j = vs.length ∧ U = V) := by
    intro j U hU
    rcases Nat.lt_or_ge j vs.length with hj | hj
    · rw [List.getElem?_append_left hj] at hU
      exact .inl ⟨hU, hj⟩
    · rw [List.getElem?_append_right hj] at hU
      have h0 : j - vs.length = 0 := by
        have := (List.getElem?_eq_some_iff.1 hU).1
        simp only [List.length_singleton] at this
        omega
      rw [h0] at hU
      exact .inr ⟨by omega, (Option.some.inj hU).symm⟩
  refine ⟨by rw [List.length_append, List.length_append, h.1]; rfl, fun j U m hU hm => ?_, fun i j U1 U2 b h1 h2 e1 e2 => ?_⟩
  · rcases get j U hU with ⟨q, hj⟩ | ⟨rfl, rfl⟩
    · rw [List.getElem?_append_left (by rw [← h.1]; exact hj)] at hm
      exact h.2.1 j U m q hm
    · rw [List.getElem?_append_right (by rw [h.1]; exact Nat.le_refl _), show vs.length - ls.length = 0 by rw [h.1]; omega] at hm
      obtain rfl : l = m := Option.some.inj hm
      exact hv
  · rcases get i U1 h1 with ⟨q1, hi⟩ | ⟨rfl, rfl⟩
    · rcases get j U2 h2 with ⟨q2, hj⟩ | ⟨rfl, rfl⟩
      · exact h.2.2 i j U1 U2 b q1 q2 e1 e2
      · exact absurd e2 (hd U1 b (List.mem_of_getElem? q1) e1)
    · rcases get j U2 h2 with ⟨q2, hj⟩ | ⟨rfl, rfl⟩
      · exact absurd e1 (hd U2 b (List.mem_of_getElem? q2) e2)
      · rfl
end
/-- a list of rows of its own. -/
def WvO (w : World) (base : Nat) (v : Value) (ls : List (List Int)) : Prop := ∃ vs, w.ownsRow base 29 1 v ls.length vs ∧ WvP w base vs ls
theorem okB_met (n : Nat) (dn : List Nat) (hd : ∀ x ∈ dn, x < n) (r : Gw.Rf) : okB ((List.range n).map fun i => dn.contains i) r = Gw.met dn r := by
  unfold okB Gw.met
  congr 1
  rw [List.length_map, List.length_range]
  rw [Bool.eq_iff_iff, Bool.and_eq_true, Bool.and_eq_true, decide_eq_true_eq, decide_eq_true_eq, List.any_eq_true]
  constructor
  · rintro ⟨⟨h1, h2⟩, h3⟩
    have hk : r.stage.toNat < n := by omega
    rw [List.getD_eq_getElem?_getD, List.getElem?_map, List.getElem?_range hk] at h3
    exact ⟨r.stage.toNat, List.contains_iff_mem.1 h3, by rw [beq_iff_eq]; omega⟩
  · rintro ⟨k, hk, e⟩
    have e := eq_of_beq e
    have hkn := hd k hk
    refine ⟨⟨by omega, by omega⟩, ?_⟩
    rw [← e, Int.toNat_natCast, List.getD_eq_getElem?_getD, List.getElem?_map, List.getElem?_range hkn]
    exact List.contains_iff_mem.2 hk
/-- the function that asks each reference of a node. -/
theorem ask_any (n : NdM) (N : Nat) (dn : List Nat) (hd : ∀ x ∈ dn, x < N) (D G : Nat) (w : World) (hok : n.Ok w) (hn : n.froms.length ≤ 1050000) (hD : Blk w D 115 #[.slice (some ⟨G, 0, none⟩) N N]) (hG : BF w G N fun i => dn.contains i) {q : Bool} (hq : Hid ((n.base :: n.froms).all (Gw.met dn) = q)) :
    Calls Tryz.prog 42 #[.agg #[.int .i64 n.base.kind, .int .i64 n.base.stage, .string (bs n.base.name), n.vf], .func (.func 90) #[] #[.pointer (some ⟨w.heap.size, 0, none⟩), .pointer (some ⟨D, 0, none⟩)]] (w.alloc (.cells #[.bool true] 4)) fun e w' => e = .returned (.tuple #[]) ∧ Blk w' w.heap.size 4 #[.bool q] ∧ Below w.heap.size w w' := by
  have eg : ∀ args w, (callFunc 90 args).run Tryz.prog w = .ok (.enter 90 args) w := enters_of Tryz.func90 (by kernel_rfl) rfl
  have hb0 := (Below.refl w.heap.size w).alloc (Nat.le_refl _) (.cells #[.bool true] 4)
  have h := each_any n 90 #[.pointer (some ⟨w.heap.size, 0, none⟩), .pointer (some ⟨D, 0, none⟩)] (fun k W => Blk W w.heap.size 4 #[.bool (((n.base :: n.froms).take k).all (Gw.met dn))] ∧ Below w.heap.size w W) (w.alloc (.cells #[.bool true] 4)) eg
    hn (fun k W h => SlA.new hok h.2) (fun k W o h => ⟨h.1.alloc o, h.2.alloc h.2.size o⟩) ⟨Blk.new w _ _, hb0⟩ (fun k hk W _ ⟨h1, h2⟩ => ?_)
  · refine h.mono fun e w' ⟨he, ⟨h1, h2⟩⟩ => ⟨he, ?_, h2⟩
    rw [← hq.out]
    rw [List.take_of_length_le (by simp)] at h1
    exact h1
  · have hl : ((List.range N).map fun i => dn.contains i).length = N := by simp
    have hD' := hD.below h2 hD.lt
    have hG' := hG.below h2 hG.lt
    have h3 := ready2_any (n.base :: n.froms)[k] w.heap.size D G N (((n.base :: n.froms).take k).all (Gw.met dn)) ((List.range N).map fun i => dn.contains i) W (Lib.hid rfl) h1 (by rw [hl]; exact hD') (fun j hj => by
      have hjN : j < N := by rw [hl] at hj; exact hj
      have h := hG'.cell hjN
      simpa using h)
    refine h3.mono fun e W' ⟨he, hb, hf⟩ => ⟨he, ⟨?_, h2.trans (hf.to_below h2.size fun b hb => by omega)⟩, fun _ hc => hf.blk hc (by rw [World.size_alloc]; omega)⟩
    rw [okB_met N dn hd] at hb
    rw [List.take_succ_eq_append_getElem hk, List.all_append, List.all_cons, List.all_nil, Bool.and_true]
    exact hb
theorem own_lo {w : World} {b b' k n : Nat} {e : TypeId} {v : Value} {xs : List Value} (h : w.ownsRow b e k v n xs) (hb : b' ≤ b) : w.ownsRow b' e k v n xs := by
  refine ⟨h.1, ?_⟩
  rcases h.2 with h2 | ⟨g, cap, cur, e1, e2, e3⟩
  · exact .inl h2
  · exact .inr ⟨g, cap, cur, e1, Nat.le_trans hb e2, e3⟩
theorem WvP.lo {w : World} {b b' : Nat} {vs : List Value} {ls : List (List Int)} (h : WvP w b vs ls) (hb : b' ≤ b) : WvP w b' vs ls := ⟨h.1, fun j V l hv hl => own_lo (h.2.1 j V l hv hl) hb, h.2.2⟩
theorem contains_app (a : List Nat) (l : List Nat) (k : Nat) (hk : k < l.length) (j : Nat) : (if j = l[k] then true else (a ++ l.take k).contains j) = (a ++ l.take (k + 1)).contains j := by
  rw [List.take_succ_eq_append_getElem hk, ← List.append_assoc, Bool.eq_iff_iff, List.contains_iff_mem, List.mem_append, List.mem_singleton]
  by_cases h : j = l[k]
  · simp [h]
  · simp [h]
set_option maxRecDepth 100000 in
set_option maxHeartbeats 4000000 in
theorem waves_any (p : PM) (w : World) (hok : p.Ok w) (hn : p.nodes.length ≤ 300) (hnf : ∀ n ∈ p.nodes, n.froms.length ≤ 1050000) (hd : p.need.length ≤ 1050000) {W : List (List Int)} (hW : Hid (wavesI (p.nodes.map NdM.nd) p.need (p.nodes.length + 1) [] = W)) :
    Calls Tryz.prog 19 #[.agg #[p.vn, .int .i64 p.target, p.vd, p.vi]] w fun r w' => (∃ v, r = .returned v ∧ WvO w' w.heap.size v W) ∧ Below w.heap.size w w' := by
  obtain ⟨vn, nodes, target, vd, need, vi, images⟩ := p
  have hcn : NdsA w vn nodes := hok.n
  have hcd : SlA w vd need.length (icC need) := hok.d
  dsimp only at hn hnf hd hW ⊢
  clear hok
  obtain ⟨An, kn, rfl⟩ := hcn.1.form
  obtain ⟨Ad, kd, rfl⟩ := hcd.form
  have HK := Lib.hid (Blk.new w 32 #[.slice An nodes.length kn, .int .i64 target, .slice Ad need.length kd, vi])
  have HB := Lib.hid ((Below.refl w.heap.size w).alloc (Nat.le_refl _) (.cells #[.slice An nodes.length kn, .int .i64 target, .slice Ad need.length kd, vi] 32))
  have HN := Lib.hid (hcn.new HB.out)
  have HD := Lib.hid (hcd.new HB.out)
  have HNF := Lib.hid hnf
  clear hcn hcd hnf
  obtain ⟨w1, hw1⟩ : ∃ y, w.alloc (.cells #[.slice An nodes.length kn, .int .i64 target, .slice Ad need.length kd, vi] 32) = y := ⟨_, rfl⟩
  rw [hw1] at HK HB HN HD
  have HW1 := Lib.hid hw1
  clear hw1
  go_enter Tryz.func19, Tryz.ntmps19
  go_upto_region 1 with fail
  rw [HW1.out]
  clear HW1
  have HP := Lib.hid HK.out.lt
  have HS1 := Lib.hid HB.out.size
  obtain ⟨P, hP⟩ : ∃ P, w.heap.size = P := ⟨_, rfl⟩
  have HPE := Lib.hid hP
  rw [hP] at HK HP ⊢
  have b2 : w1.cell? ⟨P, 2, none⟩ = some (.slice Ad need.length kd) := HK.out.cell 2
  have HC := Lib.hid (cloneI_any need (.slice Ad need.length kd) w1 HD.out (by omega))
  go_wp2_with fail
  refine HC.out.mono ?_
  rintro e w2 ⟨⟨v2, rfl, ho2⟩, hb2⟩
  have HK2 := Lib.hid (HK.out.below hb2 HP.out)
  have HC2 := Lib.hid (delI_any need v2 w1.heap.size P An nodes.length kn w2 ho2 (by omega) (HK2.out.cell 0) HP.out)
  have HB2 := Lib.hid hb2
  clear HC b2 ho2 hb2
  go_wp2_with fail
  refine HC2.out.mono ?_
  rintro e w3 ⟨⟨v3, rfl, ho3⟩, hb3⟩
  have HB3 := Lib.hid (HB2.out.trans hb3)
  have hfl : (need.filter fun x => !outN nodes.length x).length ≤ need.length := List.length_filter_le _ _
  have HC3 := Lib.hid (sortI_any _ v3 w1.heap.size w3 ho3 (by omega))
  clear HC2 ho3 hb3 HK2 HB2
  go_wp2_with fail
  refine HC3.out.mono ?_
  rintro e w4 ⟨⟨rfl, ho4⟩, hb4⟩
  have HB4 := Lib.hid (HB3.out.trans hb4)
  have hsl : ((need.filter fun x => !outN nodes.length x).mergeSort fun x y => decide (x ≤ y)).length = (need.filter fun x => !outN nodes.length x).length := List.length_mergeSort _
  rw [← hsl] at ho4
  have HC4 := Lib.hid (compactI_any _ v3 w1.heap.size w4 ho4 (by omega))
  clear HC3 ho4 hb4 HB3
  go_wp2_with fail
  refine HC4.out.mono ?_
  rintro e w5 ⟨⟨v5, rfl, ho5⟩, hb5⟩
  have HB5 := Lib.hid (HB4.out.trans hb5)
  obtain ⟨ns, hns⟩ : ∃ ns, nodes.map NdM.nd = ns := ⟨_, rfl⟩
  have hnl : ns.length = nodes.length := by rw [← hns, List.length_map]
  have hrs : Go.Lib.compact ((need.filter fun x => !outN nodes.length x).mergeSort fun x y => decide (x ≤ y)) = toI (Gw.rest ns need []) := by rw [← hnl]; exact Gw.rest_sorted ns need
  rw [hrs] at ho5
  rw [hns] at hW
  have HNS := Lib.hid hns
  have HNL := Lib.hid hnl
  have HV := Lib.hid (SlA.own ho5)
  have HSP : Hid (∀ f, (Gw.rest ns need []).length < f → wavesI ns need f [] = W) := Lib.hid fun f hf => by
    rw [← hW.out, wavesI, wavesI, Gw.waves_fuel f (nodes.length + 1) [] hf (by have := Gw.rest_len (ns := ns) (need := need) (done := []); omega)]
  obtain ⟨A5, c5, rfl⟩ := SlA.form HV.out
  have HK5 := Lib.hid (HK.out.below HB5.out HP.out)
  have hmk := make_bf nodes.length (by omega)
  have b0 : w5.cell? ⟨P, 0, none⟩ = some (.slice An nodes.length kn) := HK5.out.cell 0
  clear hsl hfl HC4 ho5 hb5 HB4 hrs hnl hW hns hP
  go_upto_region 5 with fail
  have HG := Lib.hid ((BF.new w5 nodes.length).below ((Below.refl _ _).alloc (Nat.le_refl _) (.cells #[.slice (some ⟨w5.heap.size, 0, none⟩) nodes.length nodes.length] 115)) (BF.new w5 nodes.length).lt)
  have HDV := Lib.hid (Blk.new (w5.alloc (.cells (madeCells #[.bool false] nodes.length) 4)) 115 #[.slice (some ⟨w5.heap.size, 0, none⟩) nodes.length nodes.length])
  have HB6 := Lib.hid ((HB5.out.alloc HB5.out.size (.cells (madeCells #[.bool false] nodes.length) 4)).alloc (by rw [World.size_alloc]; have := HB5.out.size; omega) (.cells #[.slice (some ⟨w5.heap.size, 0, none⟩) nodes.length nodes.length] 115))
  have HV6 := Lib.hid (SlA.new HV.out (((Below.refl _ _).alloc (Nat.le_refl _) (.cells (madeCells #[.bool false] nodes.length) 4)).alloc (by rw [World.size_alloc]; omega) (.cells #[.slice (some ⟨w5.heap.size, 0, none⟩) nodes.length nodes.length] 115)))
  have HGL : Hid (w1.heap.size ≤ w5.heap.size) := Lib.hid HB5.out.size
  have hz6 : (w5.alloc (.cells (madeCells #[.bool false] nodes.length) 4)).heap.size = w5.heap.size + 1 := World.size_alloc _ _
  rw [hz6] at HDV
  obtain ⟨G, hG⟩ : ∃ G, w5.heap.size = G := ⟨_, rfl⟩
  obtain ⟨w6, hw6⟩ : ∃ y, (w5.alloc (.cells (madeCells #[.bool false] nodes.length) 4)).alloc (.cells #[.slice (some ⟨w5.heap.size, 0, none⟩) nodes.length nodes.length] 115) = y := ⟨_, rfl⟩
  rw [hw6] at HG HDV HB6 HV6 ⊢
  rw [hG] at HG HDV HGL ⊢
  clear hw6 hz6 hG HV HB5 HK5 b0 hmk
  go_wp2_with fail
  go_loopw [3, 5] (fun t3 t5 wr => ∃ (ls : List (List Int)) (vs : List Value) (dn : List Nat), slen t3 = (Gw.rest ns need dn).length ∧ Hid (SlA wr t3 (toI (Gw.rest ns need dn)).length (icC (toI (Gw.rest ns need dn)))) ∧ Hid (wr.ownsRow w1.heap.size 29 1 t5 ls.length vs) ∧ Hid (WvP wr w1.heap.size vs ls) ∧ Hid (Blk wr (G + 1) 115 #[.slice (some ⟨G, 0, none⟩) nodes.length nodes.length]) ∧ Hid (BF wr G nodes.length fun i => dn.contains i) ∧ Hid (∀ x ∈ dn, x < nodes.length) ∧ Hid (∀ f, (Gw.rest ns need dn).length < f → ls ++ wavesI ns need f dn = W) ∧ Hid (ls.length + (Gw.rest ns need dn).length ≤ nodes.length) ∧ Hid (Below w1.heap.size w1 wr)) (fun t3 _ _ => slen t3)
  case atStart => exact ⟨[], [], [], (toI_len _).symm ▸ rfl, HV6, Lib.hid (World.ownsRow_nil _ _ _ _), Lib.hid (WvP.nil _ _), HDV, HG, Lib.hid (fun x hx => by cases hx), HSP, Lib.hid (by have := Gw.rest_len (ns := ns) (need := need) (done := []); have := HNL.out; simp only [List.length_nil]; omega), HB6⟩
  case round =>
    rename World => wr
    clear HSP HV6 HDV HG HB6
    obtain ⟨ls, vs, dn, hln, HV, HO5, HWP, HDV, HG, HDL, HSP, HLN, HBL⟩ := hrel
    obtain ⟨A3, c3, rfl⟩ := SlA.form HV.out
    obtain ⟨Ao, co, rfl⟩ := ownk_form HO5.out
    have HKr := Lib.hid (HK.out.below HBL.out HP.out)
    have HNr := Lib.hid (HN.out.new HBL.out)
    obtain ⟨R, hR⟩ : ∃ R, Gw.rest ns need dn = R := ⟨_, rfl⟩
    have HR := Lib.hid hR
    rw [hR] at HV HSP HLN ⊢
    have htl := toI_len R
    have hRn : R.length ≤ nodes.length := by have := HLN.out; omega
    rw [htl] at HV ⊢
    clear hln hR htl
    rcases Nat.eq_zero_or_pos R.length with hpos | hpos
    · have hR0 : R = [] := List.eq_nil_of_length_eq_zero hpos
      have hwv : Gw.wave ns need dn = [] := by rw [Gw.wave, HR.out, hR0]; rfl
      have HW : Hid (ls = W) := Lib.hid (by have h := HSP.out (R.length + 1) (by omega); rwa [wavesI_stop hwv, List.append_nil] at h)
      have i0 : decide ((0 : Int) < (R.length : Int)) = false := by rw [decide_eq_false_iff_not]; omega
      have i0n : decide (0 < R.length) = false := by rw [decide_eq_false_iff_not]; omega
      clear hR0 hwv
      go_wp2_with fail
      go_ret
      exact ⟨⟨_, rfl, vs, by rw [← HW.out]; exact own_lo HO5.out HS1.out, by rw [← HW.out]; exact HWP.out.lo HS1.out⟩, HB.out.trans (HBL.out.mono HS1.out)⟩
    · have i0 : decide ((0 : Int) < (R.length : Int)) = true := by rw [decide_eq_true_eq]; omega
      have i0n : decide (0 < R.length) = true := by rw [decide_eq_true_eq]; omega
      have HPOS := Lib.hid hpos
      go_wp2_with fail
      go_loopw [6, 7, 31] (fun t6 t7 t31 wx => ∃ i : Nat, i ≤ R.length ∧ t31 = .int .i64 (i : Int) ∧ Hid (wx.ownsRow wr.heap.size 3 1 t6 (toI ((R.take i).filter fun j => Gw.ready ns dn j)).length (icC (toI ((R.take i).filter fun j => Gw.ready ns dn j)))) ∧ Hid (wx.ownsRow wr.heap.size 3 1 t7 (toI ((R.take i).filter fun j => !Gw.ready ns dn j)).length (icC (toI ((R.take i).filter fun j => !Gw.ready ns dn j)))) ∧ Hid (∀ b, t6.ownBlock = some b → t7.ownBlock ≠ some b) ∧ Hid (Below wr.heap.size wr wx)) (fun _ _ t31 _ => R.length - (intOf t31).toNat)
      case atStart => exact ⟨0, by omega, rfl, Lib.hid (World.ownsRow_nil _ _ _ _), Lib.hid (World.ownsRow_nil _ _ _ _), Lib.hid (fun b h => by cases h), Lib.hid (Below.refl _ _)⟩
      case round =>
        rename World => wx
        obtain ⟨i, hi, rfl, HO6, HO7, HNE, HBX⟩ := hrel
        obtain ⟨A6, c6, rfl⟩ := ownk_form HO6.out
        obtain ⟨A7, c7, rfl⟩ := ownk_form HO7.out
        have hx0 := HBX.out.size
        have j0 : (0 : Int) ≤ (i : Int) := by omega
        rcases Nat.lt_or_ge i R.length with hin | hin
        · have k0 : decide ((i : Int) < (R.length : Int)) = true := by rw [decide_eq_true_eq]; omega
          have k1 : (i : Int) < (R.length : Int) := by omega
          have hil : i < (toI R).length := by rw [toI_len]; exact hin
          have HVx : Hid (SlA wx (.slice A3 R.length c3) (toI R).length (icC (toI R))) := Lib.hid (by have h := SlA.new HV.out HBX.out; rw [toI_len]; exact h)
          obtain ⟨g, o, cc, hv, d0⟩ := ic_at HVx.out hil
          have hgi : (toI R)[i] = (R[i] : Int) := by simp [toI]
          rw [hgi] at d0
          injection hv with hA hll hcc
          clear hll
          subst hA hcc
          have hrm : R[i] ∈ Gw.rest ns need dn := by rw [HR.out]; exact List.getElem_mem hin
          have hrn : R[i] < nodes.length := by have := (Gw.rest_mem.1 hrm).1; have := HNL.out; omega
          obtain ⟨r, hr⟩ : ∃ r, R[i] = r := ⟨_, rfl⟩
          rw [hr] at d0 hrn
          have hnr : ns[r]? = some (nodes[r].nd) := by rw [← HNS.out]; simp [hrn]
          have hrd : Gw.ready ns dn r = ((nodes[r].base :: nodes[r].froms).all (Gw.met dn)) := by unfold Gw.ready; rw [hnr]; rfl
          obtain ⟨q, hq⟩ : ∃ q, Gw.ready ns dn r = q := ⟨_, rfl⟩
          rw [hq] at hrd
          have HT6 : Hid ((R.take (i + 1)).filter (fun j => Gw.ready ns dn j) = (R.take i).filter (fun j => Gw.ready ns dn j) ++ (if q then [r] else [])) := Lib.hid (by rw [List.take_succ_eq_append_getElem hin, List.filter_append, hr, List.filter_cons, List.filter_nil, hq])
          have HT7 : Hid ((R.take (i + 1)).filter (fun j => !Gw.ready ns dn j) = (R.take i).filter (fun j => !Gw.ready ns dn j) ++ (if q then [] else [r])) := Lib.hid (by rw [List.take_succ_eq_append_getElem hin, List.filter_append, hr, List.filter_cons, List.filter_nil, hq]; cases q <;> rfl)
          have hnfr := HNF.out _ (List.getElem_mem hrn)
          obtain ⟨g2, o2, cc2, N, A, kk, hv2, hNn, hNv, hNs, n0, n1, n2, n3⟩ := nd_full (HNr.out.new (HBX.out)) hrn
          injection hv2 with hA2 _ hcc2
          subst hA2 hcc2
          rw [hNn] at hrd hnfr
          have HQ := Lib.hid hrd.symm
          have HCA := ask_any N nodes.length dn HDL.out (G + 1) G wx hNs hnfr (HDV.out.below HBX.out HDV.out.lt) (HG.out.below HBX.out HG.out.lt) HQ
          rw [hNv] at HCA
          have HC := Lib.hid HCA
          have HKx := Lib.hid (HKr.out.below HBX.out HKr.out.lt)
          have hrn1 : (r : Int) < (nodes.length : Int) := by omega
          have hr0 : (0 : Int) ≤ (r : Int) := by omega
          clear hgi hrm hr hnr hrd hq hnfr HCA hNn hNv hNs hil HVx
          have kb := (Below.refl wx.heap.size wx).alloc (Nat.le_refl _) (.cells #[.bool true] 4)
          have p0 : (wx.alloc (.cells #[.bool true] 4)).cell? ⟨P, 0, none⟩ = some (.slice (some ⟨g2, o2, none⟩) nodes.length kn) := (HKx.out.alloc _).cell 0
          have q0 := (kb.cell (p := ⟨g2, o2 + r * 4, none⟩) (World.block_lt_of_cell? wx _ n0)).trans n0
          have q1 := (kb.cell (p := ⟨g2, o2 + r * 4 + 1, none⟩) (World.block_lt_of_cell? wx _ n1)).trans n1
          have q2 := (kb.cell (p := ⟨g2, o2 + r * 4 + 2, none⟩) (World.block_lt_of_cell? wx _ n2)).trans n2
          have q3 := (kb.cell (p := ⟨g2, o2 + r * 4 + 3, none⟩) (World.block_lt_of_cell? wx _ n3)).trans n3
          clear n0 n1 n2 n3 kb
          go_upto_region 13 with (go_at_call 42; refine HC.out.mono ?_; rintro e w8 ⟨rfl, hbq, hb8⟩)
          have c0 : w8.cell? ⟨wx.heap.size, 0, none⟩ = some (.bool q) := hbq.cell 0
          have HB8 := Lib.hid hb8
          clear HC p0 q0 q1 q2 q3 d0 hbq hb8
          have hw8 := HB8.out.size
          have HO68 := Lib.hid (own_below HO6.out HB8.out)
          have HO78 := Lib.hid (own_below HO7.out HB8.out)
          have HBX8 := Lib.hid (below_of_below HBX.out HB8.out HBX.out.size)
          have h6l : ((R.take i).filter fun j => Gw.ready ns dn j).length ≤ i := Nat.le_trans (List.length_filter_le _ _) (by rw [List.length_take]; omega)
          have h7l : ((R.take i).filter fun j => !Gw.ready ns dn j).length ≤ i := Nat.le_trans (List.length_filter_le _ _) (by rw [List.length_take]; omega)
          have t6l := toI_len ((R.take i).filter fun j => Gw.ready ns dn j)
          have t7l := toI_len ((R.take i).filter fun j => !Gw.ready ns dn j)
          obtain ⟨L6, hL6⟩ : ∃ L, (R.take i).filter (fun j => Gw.ready ns dn j) = L := ⟨_, rfl⟩
          obtain ⟨L7, hL7⟩ : ∃ L, (R.take i).filter (fun j => !Gw.ready ns dn j) = L := ⟨_, rfl⟩
          rw [hL6] at HT6 HO68 h6l t6l ⊢
          rw [hL7] at HT7 HO78 h7l t7l ⊢
          have HT6l := Lib.hid t6l
          have HT7l := Lib.hid t7l
          have HNE' : Hid (∀ b, (Value.slice A6 (toI L6).length c6).ownBlock = some b → (Value.slice A7 (toI L7).length c7).ownBlock ≠ some b) := Lib.hid (by rw [← hL6, ← hL7]; exact HNE.out)
          clear hL6 hL7 HO6 HO7 t6l t7l HNE
          have hZ := World.size_alloc w8 (.cells #[.int .i64 (r : Int)] 3)
          cases q with
          | true =>
            have h6t : toI (L6 ++ [r]) = toI L6 ++ [(r : Int)] := by rw [toI_app]; rfl
            have H6T := Lib.hid h6t
            have HT6' := HT6.out
            rw [if_pos rfl] at HT6'
            have HT7' := HT7.out
            rw [if_pos rfl, List.append_nil] at HT7'
            have H6 := Lib.hid HT6'
            have H7 := Lib.hid HT7'
            clear HT6 HT7 HT6' HT7' h6t
            go_wp2_with (at_builtin; refine wpList_appk rfl _ _ _ rfl intK wr.heap.size _ _ _ rfl (HO68.out.alloc _) _ _ _ [.int .i64 (r : Int)] rfl rfl (news_at _ _ rfl _ _) (by simp [Value.oneCell']) (by have := HT6l.out; omega) (by have := HT6l.out; omega) (HBX8.out.alloc HBX8.out.size _) (by rw [World.size_alloc]; have := HBX8.out.size; omega) ?_; intro v1 w9 ho1 hb1 hg1 hat1)
            have hg1' : (w8.alloc (.cells #[.int .i64 (r : Int)] 3)).grownBy w9 (Value.slice A6 (toI L6).length c6).ownBlock := hg1
            have hat1' : v1.ownBlock = (Value.slice A6 (toI L6).length c6).ownBlock ∨ v1.ownBlock = some (w8.alloc (.cells #[.int .i64 (r : Int)] 3)).heap.size := hat1
            have kg := Fx.of_grown hg1'
            have HO79 := Lib.hid (kg.own (HO78.out.alloc (.cells #[.int .i64 (r : Int)] 3)) (fun g h1 h2 => HNE'.out g h2 h1))
            have HNE9 : Hid (∀ b, v1.ownBlock = some b → (Value.slice A7 (toI L7).length c7).ownBlock ≠ some b) := Lib.hid (fun b hb h => by
              rcases hat1' with e | e
              · exact HNE'.out b (e ▸ hb) h
              · rw [e] at hb
                injection hb with hb
                have := (HO78.out.lt b h).2
                omega)
            have HO69 : Hid (w9.ownsRow wr.heap.size 3 1 v1 (toI (L6 ++ [r])).length (icC (toI (L6 ++ [r])))) := Lib.hid (by rw [H6T.out, List.length_append, icC_snoc]; exact ho1)
            have HB9 := Lib.hid hb1
            clear ho1 hb1 hg1 hg1' hat1 hat1' kg c0 hZ
            go_roundw
            case rel => exact ⟨i + 1, by omega, by go_num, by rw [H6.out]; exact HO69, by rw [H7.out]; exact HO79, HNE9, HB9⟩
            case measure => simp [intOf]; omega
          | false =>
            have h7t : toI (L7 ++ [r]) = toI L7 ++ [(r : Int)] := by rw [toI_app]; rfl
            have H7T := Lib.hid h7t
            have HT6' := HT6.out
            rw [if_neg (by decide), List.append_nil] at HT6'
            have HT7' := HT7.out
            rw [if_neg (by decide)] at HT7'
            have H6 := Lib.hid HT6'
            have H7 := Lib.hid HT7'
            clear HT6 HT7 HT6' HT7' h7t
            go_wp2_with (at_builtin; refine wpList_appk rfl _ _ _ rfl intK wr.heap.size _ _ _ rfl (HO78.out.alloc _) _ _ _ [.int .i64 (r : Int)] rfl rfl (news_at _ _ rfl _ _) (by simp [Value.oneCell']) (by have := HT7l.out; omega) (by have := HT7l.out; omega) (HBX8.out.alloc HBX8.out.size _) (by rw [World.size_alloc]; have := HBX8.out.size; omega) ?_; intro v1 w9 ho1 hb1 hg1 hat1)
            have hg1' : (w8.alloc (.cells #[.int .i64 (r : Int)] 3)).grownBy w9 (Value.slice A7 (toI L7).length c7).ownBlock := hg1
            have hat1' : v1.ownBlock = (Value.slice A7 (toI L7).length c7).ownBlock ∨ v1.ownBlock = some (w8.alloc (.cells #[.int .i64 (r : Int)] 3)).heap.size := hat1
            have kg := Fx.of_grown hg1'
            have HO69 := Lib.hid (kg.own (HO68.out.alloc (.cells #[.int .i64 (r : Int)] 3)) (fun g h1 h2 => HNE'.out g h1 h2))
            have HNE9 : Hid (∀ b, (Value.slice A6 (toI L6).length c6).ownBlock = some b → v1.ownBlock ≠ some b) := Lib.hid (fun b hb h => by
              rcases hat1' with e | e
              · exact HNE'.out b hb (e ▸ h)
              · rw [e] at h
                injection h with h
                have := (HO68.out.lt b hb).2
                omega)
            have HO79 : Hid (w9.ownsRow wr.heap.size 3 1 v1 (toI (L7 ++ [r])).length (icC (toI (L7 ++ [r])))) := Lib.hid (by rw [H7T.out, List.length_append, icC_snoc]; exact ho1)
            have HB9 := Lib.hid hb1
            clear ho1 hb1 hg1 hg1' hat1 hat1' kg c0 hZ
            go_roundw
            case rel => exact ⟨i + 1, by omega, by go_num, by rw [H6.out]; exact HO69, by rw [H7.out]; exact HO79, HNE9, HB9⟩
            case measure => simp [intOf]; omega
        · obtain rfl : i = R.length := by omega
          have k0 : decide ((R.length : Int) < (R.length : Int)) = false := by simp
          have hw6 : (R.take R.length).filter (fun j => Gw.ready ns dn j) = Gw.wave ns need dn := by rw [List.take_length, Gw.wave, HR.out]
          have hw7 : (R.take R.length).filter (fun j => !Gw.ready ns dn j) = Gw.left ns need dn := by rw [List.take_length, Gw.left, HR.out]
          rw [hw6] at HO6 HNE ⊢
          rw [hw7] at HO7 HNE ⊢
          clear hw6 hw7
          have hwm : ∀ x ∈ Gw.wave ns need dn, x < nodes.length := fun x hx => by
            rw [Gw.wave] at hx
            have := (Gw.rest_mem.1 (List.mem_filter.1 hx).1).1
            have := HNL.out
            omega
          have HWM := Lib.hid hwm
          have HSPn : Hid (∀ f, Gw.wave ns need dn ≠ [] → (Gw.rest ns need (dn ++ Gw.wave ns need dn)).length < f → (ls ++ [toI (Gw.wave ns need dn)]) ++ wavesI ns need f (dn ++ Gw.wave ns need dn) = W) := Lib.hid fun f hne hf => by
            have h := HSP.out (R.length + 1) (by omega)
            have hl := Gw.left_lt hne
            rw [← Gw.rest_next, HR.out] at hl
            rw [wavesI_go hne] at h
            rw [List.append_assoc]
            rw [← h]
            congr 1
            rw [List.singleton_append]
            congr 1
            rw [wavesI, wavesI, Gw.waves_fuel f R.length _ hf hl]
          have HLEN : Hid (Gw.wave ns need dn ≠ [] → (Gw.left ns need dn).length < R.length) := Lib.hid fun hne => by
            have hl := Gw.left_lt hne
            rwa [HR.out] at hl
          have HNX : Hid (Gw.rest ns need (dn ++ Gw.wave ns need dn) = Gw.left ns need dn) := Lib.hid Gw.rest_next
          have HW0 : Hid (Gw.wave ns need dn = [] → ls = W) := Lib.hid fun h => by
            have h2 := HSP.out (R.length + 1) (by omega)
            rwa [wavesI_stop h, List.append_nil] at h2
          have hwl : (Gw.wave ns need dn).length ≤ R.length := by rw [Gw.wave, HR.out]; exact List.length_filter_le _ _
          have htl := toI_len (Gw.wave ns need dn)
          have htl7 := toI_len (Gw.left ns need dn)
          obtain ⟨wv, hwv⟩ : ∃ x, Gw.wave ns need dn = x := ⟨_, rfl⟩
          obtain ⟨lf, hlf⟩ : ∃ x, Gw.left ns need dn = x := ⟨_, rfl⟩
          rw [hwv] at HO6 HNE HWM HSPn HLEN HNX HW0 hwl htl ⊢
          rw [hlf] at HO7 HNE HLEN HNX htl7 ⊢
          have HTL := Lib.hid htl
          have HTL7 := Lib.hid htl7
          clear hwv hlf hwm HSP htl htl7
          have HBX1 := Lib.hid (below_of_below HBL.out HBX.out HBL.out.size)
          have HO5x := Lib.hid (own_below HO5.out HBX.out)
          have HWPx := Lib.hid (HWP.out.new HBX.out)
          rcases Nat.eq_zero_or_pos wv.length with hz | hz
          · have hwv0 : wv = [] := List.eq_nil_of_length_eq_zero hz
            have HWW := Lib.hid (HW0.out hwv0)
            have z0 : (((toI wv).length : Int) == 0) = true := by rw [beq_iff_eq]; have := HTL.out; omega
            clear hwv0
            go_wp2_with fail
            go_ret
            exact ⟨⟨_, rfl, vs, by rw [← HWW.out]; exact own_lo HO5x.out HS1.out, by rw [← HWW.out]; exact HWPx.out.lo HS1.out⟩, HB.out.trans (HBX1.out.mono HS1.out)⟩
          · have z0 : (((toI wv).length : Int) == 0) = false := by rw [beq_eq_false_iff_ne]; have := HTL.out; omega
            have hwne : wv ≠ [] := fun h => by rw [h] at hz; simp at hz
            have HNE0 := Lib.hid hwne
            have hGr : G < wr.heap.size := HG.out.lt
            have HGx := Lib.hid (HG.out.below HBX.out HG.out.lt)
            have HDx := Lib.hid (HDV.out.below HBX.out HDV.out.lt)
            have hpos6 : 0 < (toI wv).length := by have := HTL.out; omega
            obtain ⟨g6, c6', hv6, _⟩ := HO6.out.form hpos6
            injection hv6 with hA6 _ hc6
            subst hA6 hc6
            have hg6 := (HO6.out.lt g6 rfl).1
            clear hwne
            go_wp2_with fail
            go_loopw [57] (fun t57 wy => ∃ k : Nat, k ≤ wv.length ∧ t57 = .int .i64 (k : Int) ∧ Hid (BF wy G nodes.length fun j => (dn ++ wv.take k).contains j) ∧ Hid (Fx (fun b => b = G) wx wy)) (fun t57 _ => wv.length - (intOf t57).toNat)
            case atStart => exact ⟨0, by omega, rfl, Lib.hid (by rw [List.take_zero, List.append_nil]; exact HGx.out), Lib.hid Fx.refl⟩
            case round =>
              rename World => wy
              obtain ⟨k, hk, rfl, HGy, HFY⟩ := hrel
              have j1 : (0 : Int) ≤ (k : Int) := by omega
              have HO6y := Lib.hid (HFY.out.own HO6.out (fun g h1 h2 => by have h3 : g = G := h2; have := (HO6.out.lt g h1).1; omega))
              have HDy := Lib.hid (HFY.out.blk HDx.out (by show ¬ G + 1 = G; omega))
              rcases Nat.lt_or_ge k wv.length with hkn | hkn
              · have kl : (k : Int) < ((toI wv).length : Int) := by have := HTL.out; omega
                have k0 : decide ((k : Int) < ((toI wv).length : Int)) = true := by rw [decide_eq_true_eq]; exact kl
                have k0n : decide (k < (toI wv).length) = true := by rw [decide_eq_true_eq]; have := HTL.out; omega
                have hkl : k < (toI wv).length := by have := HTL.out; omega
                obtain ⟨g, o, cc, hv, d0⟩ := ic_at (SlA.own HO6y.out) hkl
                injection hv with hA _ hcc
                injection hA with hA
                injection hA with q1 q2 _
                subst q1 q2 hcc
                have hgi : (toI wv)[k] = (wv[k] : Int) := by simp [toI]
                rw [hgi, Nat.zero_add] at d0
                have hmn := HWM.out _ (List.getElem_mem hkn)
                have HSET := Lib.hid ((HGy.out.set_ wv[k] true).congr (f' := fun j => (dn ++ wv.take (k + 1)).contains j) (fun j _ => contains_app dn wv k hkn j))
                have hfz := HGy.out.frozen wv[k]
                have hcl := HGy.out.cell hmn
                have HFS := Lib.hid (HFY.out.trans (fx_set18 wy G wv[k] (.bool true)))
                obtain ⟨m, hm⟩ : ∃ m, wv[k] = m := ⟨_, rfl⟩
                rw [hm] at d0 hmn HSET hfz hcl HFS
                obtain ⟨bq, hbq⟩ : ∃ b, (dn ++ wv.take k).contains m = b := ⟨_, rfl⟩
                rw [hbq] at hcl
                have e0 : wy.cell? ⟨G + 1, 0, none⟩ = some (.slice (some ⟨G, 0, none⟩) nodes.length nodes.length) := HDy.out.cell 0
                have m0 : (0 : Int) ≤ (m : Int) := by omega
                have m1 : (m : Int) < (nodes.length : Int) := by omega
                clear hgi hm hbq hkl
                go_wp2_with fail
                go_roundw
                case rel => exact ⟨k + 1, by omega, by go_num, HSET, HFS⟩
                case measure => simp [intOf]; omega
              · obtain rfl : k = wv.length := by omega
                have k0 : decide ((wv.length : Int) < ((toI wv).length : Int)) = false := by rw [decide_eq_false_iff_not]; have := HTL.out; omega
                have k0n : decide (wv.length < (toI wv).length) = false := by rw [decide_eq_false_iff_not]; have := HTL.out; omega
                have HGz : Hid (BF wy G nodes.length fun j => (dn ++ wv).contains j) := Lib.hid (by have h := HGy.out; rwa [List.take_length] at h)
                have hGn : ∀ (base n : Nat) (e : TypeId) (v : Value) (xs : List Value), wx.ownsRow base e 1 v n xs → e ≠ 4 → ∀ g, v.ownBlock = some g → ¬ g = G := fun base n e v xs ho he g hg hgG => by
                  subst hgG
                  exact Ak.blk_ne ho HGx.out he hg.symm
                have HO5y := Lib.hid (HFY.out.own HO5x.out (hGn _ _ _ _ _ HO5x.out (by decide)))
                have HO7y := Lib.hid (HFY.out.own HO7.out (hGn _ _ _ _ _ HO7.out (by decide)))
                have HWPy := Lib.hid (HWPx.out.fx HFY.out (fun V b hV hb => by obtain ⟨l, hl⟩ := HWPx.out.row hV; exact hGn _ _ _ _ _ hl (by decide) b hb))
                have HBy := Lib.hid (HBX1.out.trans (HFY.out.to_below HBX1.out.size (fun b hb => by have h3 : b = G := hb; have := HGL.out; omega)))
                have hl5 := HLN.out
                have hyz := HFY.out.size
                have hy1 := HBy.out.size
                have HWV5 : Hid (∀ U b, U ∈ vs → U.ownBlock = some b → b < wr.heap.size) := Lib.hid fun U b hU hb => (HWP.out.lt hU hb).2
                have hlsR : ls.length ≤ 300 := by omega
                clear hGn HGy HDx
                go_upto_region 24 with (at_builtin; refine wpList_appk rfl _ _ _ rfl rowsK w1.heap.size _ _ _ rfl (HO5y.out.alloc _) _ _ _ [.slice (some ⟨g6, 0, none⟩) (toI wv).length c6] rfl rfl (news_at _ _ rfl _ _) (by simp [Value.oneCell']) (by omega) (by omega) (Below.refl _ _) (by rw [World.size_alloc]; omega) ?_; intro v1 wz ho1 hb1 hg1 hat1)
                have ka : Fx (fun _ => False) wy (wy.alloc (.cells #[.slice (some ⟨g6, 0, none⟩) (toI wv).length c6] 29)) := Fx.new ((Below.refl _ _).alloc (Nat.le_refl _) _)
                have ky : Fx (fun b => (Value.slice Ao ls.length co).ownBlock = some b) (wy.alloc (.cells #[.slice (some ⟨g6, 0, none⟩) (toI wv).length c6] 29)) wz := Fx.of_grown hg1
                have hrow : ∀ (base n : Nat) (v : Value) (xs : List Value), wy.ownsRow base 3 1 v n xs → wz.ownsRow base 3 1 v n xs := fun base n v xs ho => ky.own (ho.alloc _) (fun g h1 h2 => by rcases Ak.own_ne ho HO5y.out (by decide) with q | q; rw [h1] at q; cases q; exact q (h1.trans h2.symm))
                have HO6z := Lib.hid (own_lo (hrow _ _ _ _ HO6y.out) (Nat.le_trans HBL.out.size (Nat.le_refl _)))
                have HO7z := Lib.hid (SlA.own (hrow _ _ _ _ HO7y.out))
                have HWPz := Lib.hid (WvP.snoc (w := wz) (base := w1.heap.size) (vs := vs) (ls := ls) ⟨HWPy.out.1, fun j V l hv hl => hrow _ _ _ _ (HWPy.out.2.1 j V l hv hl), HWPy.out.2.2⟩ HO6z.out (fun U b hU hb h => by
                  have h1 := HWV5.out U b hU hb
                  have h2 : g6 = b := Option.some.inj h
                  omega))
                have HGzz := Lib.hid ((HGz.out.below ((Below.refl _ _).alloc (Nat.le_refl _) (.cells #[.slice (some ⟨g6, 0, none⟩) (toI wv).length c6] 29)) HGz.out.lt))
                have HG9 : Hid (BF wz G nodes.length fun j => (dn ++ wv).contains j) := Lib.hid (ky.blk HGzz.out (fun h => Ak.blk_ne HO5y.out HGz.out (by decide) h.symm))
                have HD9 := Lib.hid (ky.blk (HDy.out.alloc (.cells #[.slice (some ⟨g6, 0, none⟩) (toI wv).length c6] 29)) (fun h => Ak.blk_ne HO5y.out HDy.out (by decide) h.symm))
                have HO5z : Hid (wz.ownsRow w1.heap.size 29 1 v1 (ls ++ [toI wv]).length (vs ++ [.slice (some ⟨g6, 0, none⟩) (toI wv).length c6])) := Lib.hid (by rw [List.length_append]; exact ho1)
                have HBz := Lib.hid (HBy.out.trans ((Below.refl w1.heap.size wy).alloc hy1 (.cells #[.slice (some ⟨g6, 0, none⟩) (toI wv).length c6] 29) |>.trans hb1))
                have HDLn : Hid (∀ x ∈ dn ++ wv, x < nodes.length) := Lib.hid (fun x hx => by
                  rcases List.mem_append.1 hx with h | h
                  · exact HDL.out x h
                  · exact HWM.out x h)
                have hlt := HLEN.out HNE0.out
                have HSQ : Hid (∀ f, (Gw.rest ns need (dn ++ wv)).length < f → (ls ++ [toI wv]) ++ wavesI ns need f (dn ++ wv) = W) := Lib.hid fun f hf => HSPn.out f HNE0.out hf
                have HLQ : Hid ((ls ++ [toI wv]).length + (Gw.rest ns need (dn ++ wv)).length ≤ nodes.length) := Lib.hid (by rw [List.length_append, HNX.out, List.length_singleton]; omega)
                have HVQ : Hid (SlA wz (.slice A7 (toI lf).length c7) (toI (Gw.rest ns need (dn ++ wv))).length (icC (toI (Gw.rest ns need (dn ++ wv))))) := Lib.hid (by rw [HNX.out]; exact HO7z.out)
                have HSL : Hid (slen (.slice A7 (toI lf).length c7) = (Gw.rest ns need (dn ++ wv)).length) := Lib.hid (by rw [HNX.out]; exact HTL7.out)
                clear ho1 hb1 hg1 hat1 ka ky hrow HGzz HO5y HO6y HO7y HDy HGz
                go_wp2_with fail
                go_roundw
                case rel => exact ⟨ls ++ [toI wv], _, dn ++ wv, HSL.out, HVQ, HO5z, HWPz, HD9, HG9, HDLn, HSQ, HLQ, HBz⟩
                case measure => show (toI lf).length < R.length; have := HTL7.out; omega
end Go.Proofs.YtnlkmljdcmfogaaGreatDoor
