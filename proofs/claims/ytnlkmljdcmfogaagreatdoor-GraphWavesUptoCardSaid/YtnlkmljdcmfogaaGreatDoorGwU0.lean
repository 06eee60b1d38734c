/- graph's named, back, image, number, walked. Quotes and variables, plain: a byte more; what pieces come to. Pieces in memory: what they say. -/
import Derived.Test.YtnlkmljdcmfogaaGreatDoorCkM0
import Derived.Test.YtnlkmljdcmfogaaGreatDoorCkLt0
import Derived.Ground.SlgfProg
import Derived.Shelf.SlicesQ.IndexFunc
import Derived.Shelf.Strings.Search1
import Derived.Shelf.Strings.Search3
import Derived.Deep.DeepCutAuto
import Derived.Laws.IdiomStrings
import Derived.Test.YtnlkmljdcmfogaaGreatDoorCut0
import Derived.Test.YtnlkmljdcmfogaaGreatDoorOwn0
namespace Go.Proofs.YtnlkmljdcmfogaaGreatDoor
open Go Go.RowKit Go.Shelf
def Tryz.laysIdx_ren : Go.Shelf.Ren := ⟨fun | 6 => 121 | n => n, fun | 22 => 23 | 23 => 88 | 25 => 197 | 3 => 3 | 0 => 0 | 4 => 4 | n => n, fun | n => n⟩
theorem Tryz.laysIdx : Go.Proofs.SlLaysH0.n6 Tryz.prog Tryz.laysIdx_ren := {
  mixed := by kernel_rfl
  f6 := ⟨Tryz.f121.name, by decide, Tryz.func121.trans (congrArg some (by kernel_rfl))⟩
  t0 := Tryz.underlying0
  a0 := Tryz.isAgg0
  z0 := Tryz.sizeOf0
  v0 := Tryz.zeroValue0
  t3 := Tryz.underlying3
  a3 := Tryz.isAgg3
  z3 := Tryz.sizeOf3
  v3 := Tryz.zeroValue3
  t4 := Tryz.underlying4
  a4 := Tryz.isAgg4
  z4 := Tryz.sizeOf4
  v4 := Tryz.zeroValue4
  t22 := Tryz.underlying23
  a22 := Tryz.isAgg23
  z22 := Tryz.sizeOf23
  v22 := Tryz.zeroValue23
  t25 := Tryz.underlying197
  a25 := Tryz.isAgg197
  z25 := Tryz.sizeOf197
  v25 := Tryz.zeroValue197 }
def Tryz.lays144_ren : Go.Shelf.Ren := ⟨fun | 144 => 185 | 143 => 242 | 219 => 267 | 217 => 262 | 225 => 279 | 224 => 280 | 267 => 281 | 266 => 277 | 314 => 285 | n => n, fun | 9 => 9 | 4 => 4 | 3 => 3 | 5 => 5 | 46 => 277 | 146 => 415 | 51 => 340 | n => n, fun | 1 => 3 | n => n⟩
theorem Tryz.lays144 : Go.Proofs.Lays.n144 Tryz.prog Tryz.lays144_ren := {
  mixed := by kernel_rfl
  f143 := Tryz.func242.trans (congrArg some (by kernel_rfl))
  f144 := Tryz.func185.trans (congrArg some (by kernel_rfl))
  f217 := Tryz.func262.trans (congrArg some (by kernel_rfl))
  f219 := Tryz.func267.trans (congrArg some (by kernel_rfl))
  f224 := Tryz.func280.trans (congrArg some (by kernel_rfl))
  f225 := Tryz.func279.trans (congrArg some (by kernel_rfl))
  f266 := Tryz.func277.trans (congrArg some (by kernel_rfl))
  f267 := Tryz.func281.trans (congrArg some (by kernel_rfl))
  f314 := Tryz.func285.trans (congrArg some (by kernel_rfl))
  t3 := Tryz.underlying3
  a3 := Tryz.isAgg3
  z3 := Tryz.sizeOf3
  v3 := Tryz.zeroValue3
  t4 := Tryz.underlying4
  a4 := Tryz.isAgg4
  z4 := Tryz.sizeOf4
  v4 := Tryz.zeroValue4
  t5 := Tryz.underlying5
  a5 := Tryz.isAgg5
  z5 := Tryz.sizeOf5
  v5 := Tryz.zeroValue5
  t9 := Tryz.underlying9
  a9 := Tryz.isAgg9
  z9 := Tryz.sizeOf9
  v9 := Tryz.zeroValue9
  t46 := Tryz.underlying277
  a46 := Tryz.isAgg277
  z46 := Tryz.sizeOf277
  v46 := Tryz.zeroValue277
  t51 := Tryz.underlying340
  a51 := Tryz.isAgg340
  z51 := Tryz.sizeOf340
  v51 := Tryz.zeroValue340
  t146 := Tryz.underlying415
  a146 := Tryz.isAgg415
  z146 := Tryz.sizeOf415
  v146 := Tryz.zeroValue415
  g1 := by kernel_rfl }
def gmD : GM := ⟨0, [], [], .slice none 0 0, []⟩
/-- is it a stage of this name? -/
def isN (name : List UInt8) (x : GM) : Bool := !name.isEmpty && x.name == name
def namedL (name : List UInt8) (l : List GM) : Int := @Lib.idxBy GM (fun _ y => isN name y) l gmD
set_option maxRecDepth 100000 in
set_option maxHeartbeats 1000000 in
theorem isN_any (name : List UInt8) (x : GM) (R : Nat) (W : World) (hR : W.cell? ⟨R, 0, none⟩ = some (.string (bs name))) : Calls Tryz.prog 122 #[.agg #[.int .i64 x.line, .string (bs x.base), .string (bs x.name), x.vs], .pointer (some ⟨R, 0, none⟩)] W fun e w' => e = .returned (.bool (isN name x)) ∧ Below W.heap.size W w' := by
  obtain ⟨line, base, nm, vs, ms⟩ := x
  unfold isN
  dsimp only
  have b0 := (Below.refl W.heap.size W).alloc (Nat.le_refl _) (.cells #[.int .i64 line, .string (bs base), .string (bs nm), vs] 88)
  have k0 := Blk.new W 88 #[.int .i64 line, .string (bs base), .string (bs nm), vs]
  have r0 := (b0.cell (p := ⟨R, 0, none⟩) (World.block_lt_of_cell? W _ hR)).trans hR
  obtain ⟨w1, h1⟩ : ∃ y, W.alloc (.cells #[.int .i64 line, .string (bs base), .string (bs nm), vs] 88) = y := ⟨_, rfl⟩
  rw [h1] at b0 k0 r0
  have a2 : w1.cell? ⟨W.heap.size, 2, none⟩ = some (.string (bs nm)) := k0.cell 2
  have HW1 := Lib.hid h1
  have HB := Lib.hid b0
  have e1 : (bs name).toList.isEmpty = name.isEmpty := by rw [bs_list]
  have e2 : ((bs nm).toList == (bs name).toList) = (nm == name) := by rw [bs_list, bs_list]
  obtain ⟨p, hp⟩ : ∃ p, name.isEmpty = p := ⟨_, rfl⟩
  obtain ⟨q, hq⟩ : ∃ q, (nm == name) = q := ⟨_, rfl⟩
  rw [hp] at e1 ⊢
  rw [hq] at e2 ⊢
  clear h1 b0 k0 hR hp hq
  go_enter Tryz.func122, Tryz.ntmps122
  go_upto_region 1 with fail
  rw [HW1.out]
  cases p with
  | true =>
    go_wp2_with fail
    go_ret
    exact ⟨rfl, HB.out⟩
  | false =>
    go_wp2_with fail
    go_ret
    exact ⟨rfl, HB.out⟩
set_option maxRecDepth 100000 in
set_option maxHeartbeats 1000000 in
theorem named_any (e : UInt8) (va : Value) (g n c : Nat) (l : List GM) (name : List UInt8) (w : World) {x : Int} (H : Hid (namedL name l = x)) (hl : l.length = n) (hn : n ≤ 1000000) (hs : SlA w (.slice (some ⟨g, 0, none⟩) n c) n (gmC l)) (hg : g < w.heap.size) :
    Calls Tryz.prog 40 #[.agg #[.int .u8 (e.toNat : Int), va, .slice (some ⟨g, 0, none⟩) n c], .string (bs name)] w fun r w' => r = .returned (.int .i64 x) ∧ Below w.heap.size w w' := by
  subst hl
  have eg : ∀ args w, (callFunc 122 args).run Tryz.prog w = .ok (.enter 122 args) w := enters_of Tryz.func122 (by kernel_rfl) rfl
  have b0 := (Below.refl w.heap.size w).alloc (Nat.le_refl _) (.cells #[.int .u8 (e.toNat : Int), va, .slice (some ⟨g, 0, none⟩) l.length c] 25)
  have b1 := b0.alloc b0.size (.cells #[.string (bs name)] 9)
  have k0 := (Blk.new w 25 #[.int .u8 (e.toNat : Int), va, .slice (some ⟨g, 0, none⟩) l.length c]).alloc (.cells #[.string (bs name)] 9)
  have k1 := Blk.new (w.alloc (.cells #[.int .u8 (e.toNat : Int), va, .slice (some ⟨g, 0, none⟩) l.length c] 25)) 9 #[.string (bs name)]
  rw [World.size_alloc] at k1
  obtain ⟨w1, h1⟩ : ∃ y, (w.alloc (.cells #[.int .u8 (e.toNat : Int), va, .slice (some ⟨g, 0, none⟩) l.length c] 25)).alloc (.cells #[.string (bs name)] 9) = y := ⟨_, rfl⟩
  rw [h1] at b1 k0 k1
  have HW1 := Lib.hid h1
  have HB1 := Lib.hid b1
  have c2 : w1.cell? ⟨w.heap.size, 2, none⟩ = some (.slice (some ⟨g, 0, none⟩) l.length c) := k0.cell 2
  letI : Inhabited GM := ⟨gmD⟩
  have hsl := hs.new b1
  have hcon := AnyQ.slices_IndexFunc (P := Tryz.prog) Tryz.laysIdx 4 (fun w => by kernel_rfl) (fun w => by kernel_rfl) gmL (fun _ => rfl) (isN name) 122 #[.pointer (some ⟨w.heap.size + 1, 0, none⟩)] eg g 0 l.length c l w1
    (fun W x hb => (isN_any name x (w.heap.size + 1) W ((hb.cell (p := ⟨w.heap.size + 1, 0, none⟩) k1.lt).trans (k1.cell 0))).mono fun _ _ h => ⟨h.1, hb.trans (h.2.mono hb.size)⟩)
    (Nat.le_refl _) (by omega) (Nat.lt_of_lt_of_le hg b1.size) (fun j hj i v hv => by
      have h4 : i < 4 := by
        have := (List.getElem?_eq_some_iff.1 hv).1
        exact this
      have hfl := flat_at (f := gmL) (k := 4) (fun _ => rfl) l j i hj h4
      rw [getElem!_pos l j hj] at hv
      rcases hsl with ⟨_, h0, _⟩ | ⟨g', o', c', he, hx⟩
      · omega
      · injection he with he _ _
        injection he with he
        injection he with q1 q2 _
        subst q1 q2
        have := hx (j * 4 + i) v (by rw [gmC, hfl]; exact hv)
        rw [show 0 + j * 4 + i = 0 + (j * 4 + i) by omega]
        exact this)
  change Calls Tryz.prog 121 _ _ _ at hcon
  rw [List.take_length] at hcon
  have hx : Lib.idxBy (fun _ y => isN name y) l default = x := H.out
  rw [hx] at hcon
  have HC := Lib.hid hcon
  clear hcon hsl h1 b0 b1 k0 k1 hx H hs hg
  go_enter Tryz.func40, Tryz.ntmps40
  go_upto_region 1 with fail
  rw [HW1.out]
  go_wp2_with fail
  refine HC.out.mono ?_
  rintro r w2 ⟨rfl, p2⟩
  have HB2 := Lib.hid (below_of_below HB1.out p2 HB1.out.size)
  clear p2 HC c2
  go_wp2_with fail
  go_ret
  exact ⟨rfl, HB2.out⟩
theorem bs_app19 (a b : List UInt8) : bs (a ++ b) = bs a ++ bs b := by
  apply ByteArray.ext
  simp [bs]
theorem refTg : StK Tryz.prog 77 3 := ⟨⟨_, Tryz.underlying77⟩, by kernel_rfl⟩
set_option maxRecDepth 100000 in
set_option maxHeartbeats 1000000 in
theorem back_any (i n line : Int) (w : World) (h : n < i) : Calls Tryz.prog 118 #[.int .i64 i, .int .i64 n, .int .i64 line] w fun r w' => r = .returned (.tuple #[.agg #[.int .i64 1, .int .i64 n, .string ⟨#[]⟩], .nilIface]) ∧ Below w.heap.size w w' := by
  have k0 := Blk.new w 77 #[.int .i64 0, .int .i64 0, .string ⟨#[]⟩]
  have b0 := (Below.refl w.heap.size w).alloc (Nat.le_refl _) (.cells #[.int .i64 0, .int .i64 0, .string ⟨#[]⟩] 77)
  obtain ⟨w1, h1⟩ : ∃ y, w.alloc (.cells #[.int .i64 0, .int .i64 0, .string ⟨#[]⟩] 77) = y := ⟨_, rfl⟩
  rw [h1] at k0 b0
  have HW1 := Lib.hid h1
  have HK := Lib.hid k0
  have HB := Lib.hid b0
  have e0 : decide (i ≤ n) = false := by rw [decide_eq_false_iff_not]; omega
  clear h1 k0 b0
  go_enter Tryz.func118, Tryz.ntmps118
  go_upto_region 1 with fail
  rw [HW1.out]
  go_wp2_with (refine wpList_store_st rfl _ _ _ rfl refTg w.heap.size #[.int .i64 1, .int .i64 n, .string ⟨#[]⟩] _ rfl rfl HK.out rfl rfl rfl ?_; intro w3 hK3 hG3 _)
  have kf := (Fx.of_grown hG3).mono (S' := fun b => b = w.heap.size) (fun b _ h => by injection h with h; exact h.symm)
  refine bodyPost_ret (results_c1 rfl refTg rfl rfl hK3 rfl) rfl ⟨rfl, ?_⟩
  exact HB.out.trans (kf.to_below HB.out.size (fun b h => by have h2 : b = w.heap.size := h; omega))
/-- an image's full form. -/
def fullN (s : List UInt8) : List UInt8 := if decide (0 ≤ Lib.indexByte s 58) then s else s ++ [58, 108, 97, 116, 101, 115, 116]
set_option maxRecDepth 100000 in
set_option maxHeartbeats 1000000 in
theorem image_any (s : List UInt8) (hs : s.length ≤ 1000000) (w : World) {x : List UInt8} (H : Hid (fullN s = x)) : Calls Tryz.prog 120 #[.string (bs s)] w fun r w' => r = .returned (.agg #[.int .i64 2, .int .i64 0, .string (bs x)]) ∧ Below w.heap.size w w' := by
  have k0 := Blk.new w 77 #[.int .i64 0, .int .i64 0, .string ⟨#[]⟩]
  have b0 := (Below.refl w.heap.size w).alloc (Nat.le_refl _) (.cells #[.int .i64 0, .int .i64 0, .string ⟨#[]⟩] 77)
  obtain ⟨w1, h1⟩ : ∃ y, w.alloc (.cells #[.int .i64 0, .int .i64 0, .string ⟨#[]⟩] 77) = y := ⟨_, rfl⟩
  rw [h1] at k0 b0
  have hcon := Any.strings_Contains_one Tryz.lays144 (bs s) 58 w1
  have e1 : (bs s).data.toList = s := bl_bs s
  rw [e1] at hcon
  unfold fullN at H
  obtain ⟨q, hq⟩ : ∃ q, decide (0 ≤ Lib.indexByte s 58) = q := ⟨_, rfl⟩
  rw [hq] at hcon H
  have HC := Lib.hid hcon
  have HW1 := Lib.hid h1
  have HK := Lib.hid k0
  have HB := Lib.hid b0
  clear h1 k0 b0 hcon hq e1
  have hz := bs_size s
  obtain ⟨V, hV⟩ : ∃ V, bs s ++ ⟨#[58, 108, 97, 116, 101, 115, 116]⟩ = V := ⟨_, rfl⟩
  have hVb : V = bs (s ++ [58, 108, 97, 116, 101, 115, 116]) := by rw [← hV, bs_app19]; rfl
  have ad1 : ∀ w, (Op.stringOp .add (bs s) (⟨#[58, 108, 97, 116, 101, 115, 116]⟩ : ByteArray)).run Tryz.prog w = .ok (.string V) w := fun w => by rw [← hV]; exact run_string_add_sum w _ _ (by rw [hz]; show s.length + 7 ≤ _; omega)
  have HVB := Lib.hid hVb
  clear hV hVb hz
  go_enter Tryz.func120, Tryz.ntmps120
  go_upto_region 1 with fail
  rw [HW1.out]
  go_wp2_with fail
  refine HC.out.mono ?_
  rintro e w2 ⟨rfl, rfl⟩
  cases q with
  | true =>
    have hx : x = s := by have h := H.out; rw [if_pos rfl] at h; exact h.symm
    subst hx
    go_wp2_with (refine wpList_store_st rfl _ _ _ rfl refTg w.heap.size #[.int .i64 2, .int .i64 0, .string (bs x)] _ rfl rfl HK.out rfl rfl rfl ?_; intro w3 hK3 hG3 _)
    have kf := (Fx.of_grown hG3).mono (S' := fun b => b = w.heap.size) (fun b _ h => by injection h with h; exact h.symm)
    refine bodyPost_ret (results_c0 rfl refTg rfl hK3 rfl) rfl ⟨rfl, ?_⟩
    exact HB.out.trans (kf.to_below HB.out.size (fun b h => by have h2 : b = w.heap.size := h; omega))
  | false =>
    have hx : x = s ++ [58, 108, 97, 116, 101, 115, 116] := by have h := H.out; rw [if_neg (by decide)] at h; exact h.symm
    subst hx
    go_wp2_with (refine wpList_store_st rfl _ _ _ rfl refTg w.heap.size #[.int .i64 2, .int .i64 0, .string V] _ rfl rfl HK.out rfl rfl rfl ?_; intro w3 hK3 hG3 _)
    have kf := (Fx.of_grown hG3).mono (S' := fun b => b = w.heap.size) (fun b _ h => by injection h with h; exact h.symm)
    refine bodyPost_ret (results_c0 rfl refTg rfl hK3 rfl) rfl ⟨by rw [HVB.out], ?_⟩
    exact HB.out.trans (kf.to_below HB.out.size (fun b h => by have h2 : b = w.heap.size := h; omega))
set_option maxRecDepth 100000 in
set_option maxHeartbeats 1000000 in
theorem number_not (s : List UInt8) (n : Int) (hs : s.length ≤ 1000000) (t : List UInt8) (ht : Hid (Lib.trimS s [48, 49, 50, 51, 52, 53, 54, 55, 56, 57] = t)) (hne : t.isEmpty = false) (w : World) : Calls Tryz.prog 41 #[.string (bs s), .int .i64 n] w fun r w' => r = .returned (.int .i64 (-1)) ∧ Below w.heap.size w w' := by
  have htr : Calls Tryz.prog 123 #[.string (bs s), .string ⟨#[48, 49, 50, 51, 52, 53, 54, 55, 56, 57]⟩] w fun e w' => e = .returned (.string (bs t)) ∧ Below w.heap.size w w' := by
    rw [← ht.out]
    exact Any.strings_Trim_laid Tryz.lays160 (by kernel_rfl) (bs s) ⟨#[48, 49, 50, 51, 52, 53, 54, 55, 56, 57]⟩ w (by rw [bs_size]; omega) (by decide) (ascii_of_all (by decide))
  have HT := Lib.hid htr
  have e1 : (bs t).toList.isEmpty = false := by rw [bs_list]; exact hne
  obtain ⟨p, hp⟩ : ∃ p, (bs s).toList.isEmpty = p := ⟨_, rfl⟩
  clear htr hne ht
  go_enter Tryz.func41, Tryz.ntmps41
  cases p with
  | true =>
    go_wp2_with fail
    go_ret
    exact ⟨rfl, Below.refl _ _⟩
  | false =>
    go_wp2_with fail
    refine HT.out.mono ?_
    rintro e w1 ⟨rfl, p1⟩
    go_wp2_with fail
    go_ret
    exact ⟨rfl, p1⟩
theorem conv48 (w : World) : ∃ c w2, (convert 9 199 (.string (bs [48]))).run Tryz.prog w = .ok (.slice (some ⟨w.heap.size, 0, none⟩) 1 c) w2 ∧ w2.cell? ⟨w.heap.size, 0, none⟩ = some (.int .u8 48) ∧ Below w.heap.size w w2 := by
  refine ⟨_, _, run_bytes_of_string w _ _ 5 (bs [48]) Tryz.underlying9 Tryz.underlying199 Tryz.underlying5, ?_, (Below.refl _ _).drew.alloc (Nat.le_refl _) _⟩
  have h := bytesRow_at (bs [48]) (grownCap w (bs [48]).size 0 5) 0 (by decide)
  exact (Lib.cell_of_heap (heap_alloc_new w.drew _) 0).trans h
set_option maxRecDepth 100000 in
set_option maxHeartbeats 1000000 in
theorem number_zero (n : Nat) (hn : 0 < n) (w : World) : Calls Tryz.prog 41 #[.string (bs [48]), .int .i64 (n : Int)] w fun r w' => r = .returned (.int .i64 0) ∧ Below w.heap.size w w' := by
  have htr : Calls Tryz.prog 123 #[.string (bs [48]), .string ⟨#[48, 49, 50, 51, 52, 53, 54, 55, 56, 57]⟩] w fun e w' => e = .returned (.string (bs [])) ∧ Below w.heap.size w w' := by
    have h := Any.strings_Trim_laid Tryz.lays160 (by kernel_rfl) (bs [48]) ⟨#[48, 49, 50, 51, 52, 53, 54, 55, 56, 57]⟩ w (by rw [bs_size]; decide) (by decide) (ascii_of_all (by decide))
    exact h
  have HT := Lib.hid htr
  have e1 : (bs []).toList.isEmpty = true := by rw [bs_list]; rfl
  have e2 : (bs [48]).toList.isEmpty = false := by rw [bs_list]; rfl
  clear htr
  go_enter Tryz.func41, Tryz.ntmps41
  go_wp2_with fail
  refine HT.out.mono ?_
  rintro e w1 ⟨rfl, p1⟩
  obtain ⟨c, w2, hcv, hcl, hb2⟩ := conv48 w1
  have HB2 := Lib.hid (p1.trans (hb2.mono p1.size))
  have HCL := Lib.hid hcl
  obtain ⟨g, hg⟩ : ∃ g, w1.heap.size = g := ⟨_, rfl⟩
  rw [hg] at hcv HCL
  clear hcl hb2 p1 hg
  go_wp2_with fail
  go_loopw [5, 18] (fun t5 t18 wr => ∃ i : Nat, i ≤ 1 ∧ t18 = .int .i64 (i : Int) ∧ t5 = .int .i64 0 ∧ wr = w2) (fun _ t18 _ => 1 - (intOf t18).toNat)
  case atStart => exact ⟨0, by omega, rfl, rfl, rfl⟩
  case round =>
    obtain ⟨i, hi, rfl, rfl, rfl⟩ := hrel
    rcases Nat.lt_or_ge i 1 with hin | hin
    · obtain rfl : i = 0 := by omega
      have c0 : wr.cell? ⟨g, 0, none⟩ = some (.int .u8 48) := HCL.out
      have e0 : decide ((n : Int) ≤ 0) = false := by rw [decide_eq_false_iff_not]; omega
      go_wp2_with fail
      go_roundw
      case rel => exact ⟨1, by omega, by first | rfl | trivial, by first | rfl | trivial, by first | rfl | trivial⟩
      case measure => simp [intOf]
    · obtain rfl : i = 1 := by omega
      go_wp2_with fail
      go_ret
      exact ⟨rfl, HB2.out⟩
end Go.Proofs.YtnlkmljdcmfogaaGreatDoor
namespace Go.Proofs.YtnlkmljdcmfogaaGreatDoor
open Go Go.RowKit
namespace Ex
theorem adds_adds (a b : List Tk) (x : R) : adds a (adds b x) = adds (a ++ b) x := by
  cases x with
  | inl z => rfl
  | inr p => obtain ⟨l, r⟩ := p; show Sum.inr (a ++ (b ++ l), r) = Sum.inr (a ++ b ++ l, r); rw [List.append_assoc]
theorem adds_nil (x : R) : adds [] x = x := by
  cases x with
  | inl z => rfl
  | inr p => rfl
theorem step_congr {e : UInt8} {go go' : Kd → List UInt8 → R} {k : Kd} {c : UInt8} {s : List UInt8} (h : ∀ k t, t.length ≤ s.length → go k t = go' k t) (hl : ∀ k t l r2, go' k t = .inr (l, r2) → r2.length ≤ t.length) : step e go k c s = step e go' k c s := by
  unfold step
  split
  · split
    · rw [h k [] (by simp)]
    · rename_i d r'
      rw [h k r' (by simp), h k (d :: r') (Nat.le_refl _)]
  · split
    · cases hv : vstL s with
      | bad => rfl
      | flat t r' => simp only; rw [h k r' (vst_len.1 t r' hv)]
      | deep n op r' =>
        have hr := vst_len.2 n op r' hv
        simp only
        rw [h .braces r' hr]
        cases hb : go' .braces r' with
        | inl z => rfl
        | inr p =>
          obtain ⟨l2, r2⟩ := p
          have := hl _ _ l2 r2 hb
          simp only
          rw [h k r2 (by omega)]
    · split
      · rfl
      · split
        · rw [h k _ (drop39 s)]
        · split
          · rw [h .quoted s (Nat.le_refl _)]
            cases hb : go' .quoted s with
            | inl z => rfl
            | inr p =>
              obtain ⟨l2, r2⟩ := p
              have := hl _ _ l2 r2 hb
              simp only
              rw [h k r2 (by omega)]
          · rw [h k s (Nat.le_refl _)]
theorem readL_len {e : UInt8} {k : Kd} {s : List UInt8} {l : List Tk} {r : List UInt8} (h : readL e k s = .inr (l, r)) : r.length ≤ s.length := rd_len _ _ _ _ _ h
theorem readL_nil (e : UInt8) (k : Kd) : readL e k [] = endR k := rfl
theorem readL_cons (e : UInt8) (k : Kd) (c : UInt8) (r : List UInt8) : readL e k (c :: r) = step e (readL e) k c r := by
  show step e (rd e (r.length + 1)) k c r = _
  refine step_congr (fun k t ht => read_fuel (by omega)) fun k t l r2 h => readL_len h
section
variable {e : UInt8} {k : Kd} {c : UInt8} {r : List UInt8}
/-- the escape, and a byte that it takes. -/
theorem read_esc {d : UInt8} (hk : escs k e d = true) : readL e k (e :: d :: r) = adds [.b d] (readL e k r) := by
  rw [readL_cons]; unfold step; rw [if_pos rfl]
  show (if escs k e d = true then _ else _) = _
  rw [if_pos hk]
theorem read_esc_no (hk : ∀ d ∈ r.head?, escs k e d = false) : readL e k (e :: r) = adds [.b e] (readL e k r) := by
  rw [readL_cons]; unfold step; rw [if_pos rfl]
  cases r with
  | nil => rfl
  | cons d r' =>
    show (if escs k e d = true then _ else _) = _
    rw [if_neg (by rw [hk d (by simp)]; simp)]
theorem read_bad (h0 : (36 : UInt8) ≠ e) (h : vstL r = .bad) : readL e k (36 :: r) = .inl 4 := by
  rw [readL_cons]; unfold step; rw [if_neg h0, if_pos rfl, h]
theorem read_flat {t : List Tk} {r' : List UInt8} (h0 : (36 : UInt8) ≠ e) (h : vstL r = .flat t r') : readL e k (36 :: r) = adds t (readL e k r') := by
  rw [readL_cons]; unfold step; rw [if_neg h0, if_pos rfl, h]
theorem read_deep_err {n : List UInt8} {op : UInt8} {r' : List UInt8} {z : Nat} (h0 : (36 : UInt8) ≠ e) (h : vstL r = .deep n op r') (hb : readL e .braces r' = .inl z) : readL e k (36 :: r) = .inl z := by
  rw [readL_cons]; unfold step; rw [if_neg h0, if_pos rfl, h]
  show (match readL e .braces r' with | .inl z => _ | .inr (l, r2) => _) = _
  rw [hb]
theorem read_deep {n : List UInt8} {op : UInt8} {r' r2 : List UInt8} {l : List Tk} (h0 : (36 : UInt8) ≠ e) (h : vstL r = .deep n op r') (hb : readL e .braces r' = .inr (l, r2)) : readL e k (36 :: r) = adds [.v n op l] (readL e k r2) := by
  rw [readL_cons]; unfold step; rw [if_neg h0, if_pos rfl, h]
  show (match readL e .braces r' with | .inl z => _ | .inr (l, r2) => _) = _
  rw [hb]
theorem read_stop (h0 : c ≠ e) (h1 : c ≠ 36) (h : stops k c = true) : readL e k (c :: r) = .inr ([], r) := by
  rw [readL_cons]; unfold step; rw [if_neg h0, if_neg h1, if_pos h]
theorem read_byte (h0 : c ≠ e) (h1 : c ≠ 36) (h : stops k c = false) (h2 : (quotes k && (c == 34 || c == 39)) = false) : readL e k (c :: r) = adds [.b c] (readL e k r) := by
  rw [readL_cons]; unfold step; rw [if_neg h0, if_neg h1, if_neg (by rw [h]; simp)]
  have a1 : (quotes k && c == 39) = false := by cases hq : quotes k <;> cases h34 : c == 34 <;> cases h39 : c == 39 <;> simp_all
  have a2 : (quotes k && c == 34) = false := by cases hq : quotes k <;> cases h34 : c == 34 <;> cases h39 : c == 39 <;> simp_all
  rw [if_neg (by rw [a1]; simp), if_neg (by rw [a2]; simp)]
theorem stops_q (k : Kd) (hq : quotes k = true) : stops k 39 = false ∧ stops k 34 = false := by cases k <;> first | (exact ⟨rfl, rfl⟩) | cases hq
theorem read_single (h0 : (39 : UInt8) ≠ e) (hq : quotes k = true) : readL e k (39 :: r) = if r.contains 39 then adds ((r.takeWhile (· != 39)).map .b) (readL e k ((r.dropWhile (· != 39)).drop 1)) else .inl 18 := by
  rw [readL_cons]; unfold step; rw [if_neg h0, if_neg (by decide), if_neg (by rw [(stops_q k hq).1]; simp), if_pos (by rw [hq]; rfl)]
theorem read_double_err {z : Nat} (h0 : (34 : UInt8) ≠ e) (hq : quotes k = true) (hb : readL e .quoted r = .inl z) : readL e k (34 :: r) = .inl z := by
  rw [readL_cons]; unfold step; rw [if_neg h0, if_neg (by decide), if_neg (by rw [(stops_q k hq).2]; simp), if_neg (by rw [hq]; decide), if_pos (by rw [hq]; rfl), hb]
theorem read_double {l : List Tk} {r2 : List UInt8} (h0 : (34 : UInt8) ≠ e) (hq : quotes k = true) (hb : readL e .quoted r = .inr (l, r2)) : readL e k (34 :: r) = adds l (readL e k r2) := by
  rw [readL_cons]; unfold step; rw [if_neg h0, if_neg (by decide), if_neg (by rw [(stops_q k hq).2]; simp), if_neg (by rw [hq]; decide), if_pos (by rw [hq]; rfl), hb]
end
/-- which errors there are. -/
theorem rd_err {e : UInt8} : ∀ (f : Nat) (k : Kd) (s : List UInt8) (z : Nat), s.length < f → rd e f k s = .inl z → z = 4 ∨ z = 18
  | 0, _, _, _, hf, _ => absurd hf (by omega)
  | f + 1, k, [], z, _, h => by
    have h : endR k = .inl z := h
    cases k <;> first | (injection h with h; omega) | cases h
  | f + 1, k, c :: s, z, hf, h => by
    rw [List.length_cons] at hf
    have h : step e (rd e f) k c s = .inl z := h
    have hadd : ∀ {t : List Tk} {x : R}, adds t x = .inl z → x = .inl z := fun {t x} hx => by
      cases x with
      | inl y => exact hx
      | inr p => cases hx
    unfold step at h
    split at h
    · cases s with
      | nil => exact rd_err f k [] z (by simp only [List.length_nil]; omega) (hadd h)
      | cons d r' =>
        simp only [List.length_cons] at hf
        simp only at h
        split at h
        · exact rd_err f k r' z (by omega) (hadd h)
        · exact rd_err f k (d :: r') z (by simp only [List.length_cons]; omega) (hadd h)
    · split at h
      · cases hv : vstL s with
        | bad => rw [hv] at h; injection h with h; omega
        | flat t r' =>
          rw [hv] at h
          have := vst_len.1 t r' hv
          exact rd_err f k r' z (by omega) (hadd h)
        | deep n op r' =>
          rw [hv] at h
          simp only at h
          have hr := vst_len.2 n op r' hv
          cases hb : rd e f .braces r' with
          | inl y =>
            rw [hb] at h
            injection h with h
            subst h
            exact rd_err f _ r' y (by omega) hb
          | inr p =>
            obtain ⟨l2, r2⟩ := p
            rw [hb] at h
            have := rd_len f _ _ l2 r2 hb
            exact rd_err f k r2 z (by omega) (hadd h)
      · split at h
        · cases h
        · split at h
          · split at h
            · have := drop39 s
              exact rd_err f k _ z (by omega) (hadd h)
            · injection h with h; omega
          · split at h
            · cases hb : rd e f .quoted s with
              | inl y =>
                rw [hb] at h
                injection h with h
                subst h
                exact rd_err f _ s y (by omega) hb
              | inr p =>
                obtain ⟨l2, r2⟩ := p
                rw [hb] at h
                have := rd_len f _ _ l2 r2 hb
                exact rd_err f k r2 z (by omega) (hadd h)
            · exact rd_err f k s z (by omega) (hadd h)
theorem readL_err {e : UInt8} {k : Kd} {s : List UInt8} {z : Nat} (h : readL e k s = .inl z) : z = 4 ∨ z = 18 := rd_err _ _ _ _ (by omega) h
/-- what is read of a text has what stands behind it as its end. -/
theorem brace_suf {r : List UInt8} : (∀ t r', braceL r = .flat t r' → r' <:+ r) ∧ (∀ n op r', braceL r = .deep n op r' → r' <:+ r) := by
  have hd : r.drop (nmL r) <:+ r := List.drop_suffix _ _
  unfold braceL
  constructor
  · intro t r' h
    split at h
    · cases h
    · split at h <;> first | (cases h; done) | (rename_i q; injection h with h1 h2; subst h2; rw [q] at hd; exact List.IsSuffix.trans (by first | exact List.suffix_cons _ _ | exact List.IsSuffix.trans (List.suffix_cons _ _) (List.suffix_cons _ _)) hd)
  · intro n op r' h
    split at h
    · cases h
    · split at h <;> first | (cases h; done) | (rename_i q; injection h with h1 h2 h3; subst h3; rw [q] at hd; exact List.IsSuffix.trans (by first | exact List.suffix_cons _ _ | exact List.IsSuffix.trans (List.suffix_cons _ _) (List.suffix_cons _ _)) hd)
theorem vst_suf {r : List UInt8} : (∀ t r', vstL r = .flat t r' → r' <:+ r) ∧ (∀ n op r', vstL r = .deep n op r' → r' <:+ r) := by
  unfold vstL
  constructor
  · intro t r' h
    split at h
    · injection h with _ h; subst h; exact List.drop_suffix _ _
    · split at h
      · exact (brace_suf.1 t r' h).trans (List.suffix_cons _ _)
      · injection h with _ h; subst h; exact List.suffix_refl _
  · intro n op r' h
    split at h
    · cases h
    · split at h
      · exact (brace_suf.2 n op r' h).trans (List.suffix_cons _ _)
      · cases h
theorem rd_suf {e : UInt8} : ∀ (f : Nat) (k : Kd) (s : List UInt8) (l : List Tk) (r : List UInt8), rd e f k s = .inr (l, r) → r <:+ s
  | 0, _, _, _, _, h => by rw [rd] at h; cases h
  | f + 1, k, [], l, r, h => by
    have h : endR k = .inr (l, r) := h
    cases k <;> first | (cases h; done) | (injection h with h; injection h with _ h; subst h; exact List.suffix_refl _)
  | f + 1, k, c :: s, l, r, h => by
    have h : step e (rd e f) k c s = .inr (l, r) := h
    have up : ∀ {t u : List UInt8}, t <:+ u → u <:+ s → t <:+ c :: s := fun a b => (a.trans b).trans (List.suffix_cons _ _)
    unfold step at h
    split at h
    · split at h
      · obtain ⟨l', h, _⟩ := adds_inr h
        exact up (rd_suf f k _ l' r h) (List.suffix_refl _)
      · split at h
        · obtain ⟨l', h, _⟩ := adds_inr h
          exact up (rd_suf f k _ l' r h) (List.suffix_cons _ _)
        · obtain ⟨l', h, _⟩ := adds_inr h
          exact up (rd_suf f k _ l' r h) (List.suffix_refl _)
    · split at h
      · cases hv : vstL s with
        | bad => rw [hv] at h; cases h
        | flat t r' =>
          rw [hv] at h
          obtain ⟨l', h, _⟩ := adds_inr h
          exact up (rd_suf f k _ l' r h) (vst_suf.1 t r' hv)
        | deep n op r' =>
          rw [hv] at h
          simp only at h
          cases hb : rd e f .braces r' with
          | inl z => rw [hb] at h; cases h
          | inr p =>
            obtain ⟨l2, r2⟩ := p
            rw [hb] at h
            obtain ⟨l', h, _⟩ := adds_inr h
            exact up (rd_suf f k _ l' r h) ((rd_suf f _ _ l2 r2 hb).trans (vst_suf.2 n op r' hv))
      · split at h
        · injection h with h; injection h with _ h; subst h; exact List.suffix_cons _ _
        · split at h
          · split at h
            · obtain ⟨l', h, _⟩ := adds_inr h
              exact up (rd_suf f k _ l' r h) ((List.drop_suffix _ _).trans (List.dropWhile_suffix _))
            · cases h
          · split at h
            · cases hb : rd e f .quoted s with
              | inl z => rw [hb] at h; cases h
              | inr p =>
                obtain ⟨l2, r2⟩ := p
                rw [hb] at h
                obtain ⟨l', h, _⟩ := adds_inr h
                exact up (rd_suf f k _ l' r h) (rd_suf f _ _ l2 r2 hb)
            · obtain ⟨l', h, _⟩ := adds_inr h
              exact up (rd_suf f k _ l' r h) (List.suffix_refl _)
theorem readL_suf {e : UInt8} {k : Kd} {s : List UInt8} {l : List Tk} {r : List UInt8} (h : readL e k s = .inr (l, r)) : r <:+ s := rd_suf _ _ _ _ _ h
/-- an end of a text stands at its place. -/
theorem suf_drop {s : List UInt8} {p : Nat} {r : List UInt8} (h : r <:+ s.drop p) : r = s.drop (s.length - r.length) := by
  have h2 : r <:+ s := h.trans (List.drop_suffix _ _)
  obtain ⟨a, rfl⟩ := h2
  rw [List.length_append, Nat.add_sub_cancel, List.drop_left]
mutual
/-- what a piece comes to. -/
def txT (val : List UInt8 → List UInt8) : Tk → List UInt8
  | .b c => [c]
  | .v n op l => if op = 43 then (if val n = [] then [] else txL val l) else if op = 0 ∨ val n ≠ [] then val n else txL val l
def txL (val : List UInt8 → List UInt8) : List Tk → List UInt8
  | [] => []
  | t :: l => txT val t ++ txL val l
end
theorem txL_append (val : List UInt8 → List UInt8) : ∀ a b : List Tk, txL val (a ++ b) = txL val a ++ txL val b
  | [], b => by rw [txL]; rfl
  | t :: a, b => by rw [List.cons_append, txL, txL, txL_append val a b, List.append_assoc]
theorem txL_bytes (val : List UInt8 → List UInt8) : ∀ s : List UInt8, txL val (s.map .b) = s
  | [] => by rw [List.map_nil, txL]
  | c :: s => by rw [List.map_cons, txL, txL_bytes val s, txT]; rfl
end Ex
end Go.Proofs.YtnlkmljdcmfogaaGreatDoor
namespace Go.Proofs.YtnlkmljdcmfogaaGreatDoor
open Go Go.RowKit
/-- a row that is done: a slice that reads as a list, in a block that is not of X. -/
def Rx (w : World) (X : Nat → Prop) (A : Option Addr) (n : Nat) (xs : List Value) : Prop :=
  xs.length = n ∧ (0 < n → ∃ b, A = some ⟨b, 0, none⟩ ∧ ¬ X b ∧ b < w.heap.size ∧ ∀ j u, xs[j]? = some u → w.cell? ⟨b, j, none⟩ = some u)
section
variable {w w' : World} {X X' S : Nat → Prop} {A : Option Addr} {n : Nat} {xs : List Value}
theorem Rx.fx (h : Rx w X A n xs) (k : Fx S w w') (hX : ∀ b, b < w.heap.size → S b ∨ X' b → X b) : Rx w' X' A n xs :=
  ⟨h.1, fun hn => by
    obtain ⟨b, e, hb, hl, hc⟩ := h.2 hn
    exact ⟨b, e, fun hx => hb (hX b hl (.inr hx)), Nat.lt_of_lt_of_le hl k.size, fun j u hu => k.cell (hc j u hu) fun hs => hb (hX b hl (.inl hs))⟩⟩
theorem Rx.own {base : Nat} {e : TypeId} {c : Nat} (h : w.ownsRow base e 1 (.slice A n c) n xs) (hX : ∀ b, base ≤ b → ¬ X b) : Rx w X A n xs := by
  refine ⟨by have := h.1; omega, fun hn => ?_⟩
  obtain ⟨g, cap, hv, hb, hlt⟩ := h.form hn
  have hA : A = some ⟨g, 0, none⟩ := by injection hv
  subst hA
  exact ⟨g, rfl, hX g hb, hlt, fun j u hu => by have := h.cells (g := g) rfl j u hu; rwa [Addr.add_lit, Nat.zero_add] at this⟩
end
def litV (s : List UInt8) : Value := .iface 398 (.string (bs s))
def varV (n : List UInt8) (op : UInt8) (v : Value) : Value := .iface 412 (.agg #[.string (bs n), .int .u8 (op.toNat : Int), v])
/-- the longest text. -/
def exMax : Nat := 2000000
def PVs (V : List Ex.Tk → Value → Prop) : List Ex.Tk → List Value → Prop
  | ts, [] => ts = []
  | ts, v :: vs => ∃ a b, ts = a ++ b ∧ V a v ∧ PVs V b vs
/-- a value that is a piece, and what it says; so deep. -/
def PV (w : World) (X : Nat → Prop) : Nat → List Ex.Tk → Value → Prop
  | 0, ts, v => ∃ s, ts = s.map .b ∧ s.length ≤ exMax ∧ v = litV s
  | d + 1, ts, v => (∃ s, ts = s.map .b ∧ s.length ≤ exMax ∧ v = litV s) ∨ ∃ n op l A m c xs, ts = [.v n op l] ∧ n.length ≤ exMax ∧ v = varV n op (.slice A m c) ∧ Rx w X A m xs ∧ m ≤ exMax ∧ PVs (PV w X d) l xs
theorem PVs.mono {V V' : List Ex.Tk → Value → Prop} (h : ∀ t v, V t v → V' t v) : ∀ {xs : List Value} {ts : List Ex.Tk}, PVs V ts xs → PVs V' ts xs
  | [], _, k => k
  | _ :: _, _, ⟨a, b, e, k1, k2⟩ => ⟨a, b, e, h _ _ k1, PVs.mono h k2⟩
theorem PVs.append {V : List Ex.Tk → Value → Prop} : ∀ {xs ys : List Value} {a b : List Ex.Tk}, PVs V a xs → PVs V b ys → PVs V (a ++ b) (xs ++ ys)
  | [], _, _, _, h, k => by rw [show _ = [] from h]; exact k
  | _ :: _, _, _, b, ⟨a1, a2, e, k1, k2⟩, k => ⟨a1, a2 ++ b, by rw [e, List.append_assoc], k1, PVs.append k2 k⟩
theorem PVs.one {V : List Ex.Tk → Value → Prop} {a : List Ex.Tk} {v : Value} (h : V a v) : PVs V a [v] := ⟨a, [], by simp, h, rfl⟩
theorem PVs.nil {V : List Ex.Tk → Value → Prop} : PVs V [] [] := rfl
section
variable {w w' : World} {X X' S : Nat → Prop}
theorem PV.lit (d : Nat) {s : List UInt8} (hs : s.length ≤ exMax) : PV w X d (s.map .b) (litV s) := by
  cases d with
  | zero => exact ⟨s, rfl, hs, rfl⟩
  | succ d => exact .inl ⟨s, rfl, hs, rfl⟩
theorem PV.up : ∀ {d : Nat} {ts : List Ex.Tk} {v : Value}, PV w X d ts v → PV w X (d + 1) ts v
  | 0, _, _, h => .inl h
  | _ + 1, _, _, .inl h => .inl h
  | _ + 1, _, _, .inr ⟨n, op, l, A, m, c, xs, e1, e2, e3, h1, e4, h2⟩ => .inr ⟨n, op, l, A, m, c, xs, e1, e2, e3, h1, e4, h2.mono fun _ _ => PV.up⟩
theorem PV.upto {d d' : Nat} (hd : d ≤ d') {ts : List Ex.Tk} {v : Value} (h : PV w X d ts v) : PV w X d' ts v := by
  induction hd with
  | refl => exact h
  | step _ ih => exact PV.up ih
theorem PV.fx (k : Fx S w w') (hX : ∀ b, b < w.heap.size → S b ∨ X' b → X b) : ∀ {d : Nat} {ts : List Ex.Tk} {v : Value}, PV w X d ts v → PV w' X' d ts v
  | 0, _, _, h => h
  | _ + 1, _, _, .inl h => .inl h
  | _ + 1, _, _, .inr ⟨n, op, l, A, m, c, xs, e1, e2, e3, h1, e4, h2⟩ => .inr ⟨n, op, l, A, m, c, xs, e1, e2, e3, h1.fx k hX, e4, h2.mono fun _ _ => PV.fx k hX⟩
theorem PV.var {d : Nat} {n : List UInt8} {op : UInt8} {l : List Ex.Tk} {A : Option Addr} {m c : Nat} {xs : List Value} (hn : n.length ≤ exMax) (h1 : Rx w X A m xs) (hm : m ≤ exMax) (h2 : PVs (PV w X d) l xs) : PV w X (d + 1) [.v n op l] (varV n op (.slice A m c)) :=
  .inr ⟨n, op, l, A, m, c, xs, rfl, hn, rfl, h1, hm, h2⟩
end
/-- pieces in a row. -/
def PL (w : World) (X : Nat → Prop) (ts : List Ex.Tk) (xs : List Value) : Prop := ∃ d, PVs (PV w X d) ts xs
section
variable {w w' : World} {X X' S : Nat → Prop} {a b : List Ex.Tk} {xs ys : List Value}
theorem PL.nil : PL w X [] [] := ⟨0, rfl⟩
theorem PL.append (h : PL w X a xs) (k : PL w X b ys) : PL w X (a ++ b) (xs ++ ys) := by
  obtain ⟨d, h⟩ := h
  obtain ⟨d', k⟩ := k
  exact ⟨d + d', (h.mono fun _ _ => PV.upto (Nat.le_add_right _ _)).append (k.mono fun _ _ => PV.upto (Nat.le_add_left _ _))⟩
theorem PL.one {d : Nat} {v : Value} (h : PV w X d a v) : PL w X a [v] := ⟨d, PVs.one h⟩
theorem PL.fx (k : Fx S w w') (hX : ∀ b, b < w.heap.size → S b ∨ X' b → X b) (h : PL w X a xs) : PL w' X' a xs := by
  obtain ⟨d, h⟩ := h
  exact ⟨d, h.mono fun _ _ => PV.fx k hX⟩
end
/-- what expand reads, at R. -/
def Rdr (w : World) (R : Nat) (s : List UInt8) (p : Nat) (e : UInt8) : Prop := Blk w R 373 #[.string (bs s), .int .i64 (p : Int), .int .u8 (e.toNat : Int)]
end Go.Proofs.YtnlkmljdcmfogaaGreatDoor
